/- For every number: a valid number and its negative have the sum 0; one that is not 0 and its inverse have the product 1, and the inverse's inverse is the number. No condition. -/
import Derived.Test.YtfcibldknamekaaK
import Derived.Test.YtfcibldknamekaaP
import Derived.Test.YtfcibldknamekaaRows
import Derived.ProofKit
import Derived.OpenShut
import Derived.Lib.SmallJoins
import Derived.ChangeOld
namespace Go.Proofs.Ytfcibldknamekaa
open Go.RowKit
open Go.Lib (hid)

set_option maxHeartbeats 2000000 in
theorem inv_no (a b : Int) (hv : ¬ Vld a b) (w : World) :
    Calls Try.prog 8 #[.agg #[.int .i64 a, .int .i64 b]] w fun e w' => e = .returned (.bool true) ∧ Below w.heap.size w w' := by
  have HI := hid (invR_no hv)
  have HC := hid (chk_no hv)
  clear hv
  go_enter Try.func8, Try.ntmps8
  have ra := RatAt.new w a b 23
  go_wp2_with fail
  refine (sane_any _).mono ?_
  rintro e w1 ⟨rfl, hB1⟩
  dsimp only []
  replace ra := ra.below hB1
  have g1 : Below w.heap.size w w1 := (by repeat (first | exact Below.refl _ _ | assumption | refine b_then ?_ (by assumption) | refine b_alloc ?_ _ | refine b_drewN ?_ _ | refine b_drew ?_ | refine b_set ?_ (by omega) _ | refine b_set ?_ (by simp) _))
  clear hB1
  have ral := ra.1
  have ra0 := ra.2.1
  have ra1 := ra.2.2
  go_wp2_with fail
  refine (Inverse_any a b _).mono ?_
  rintro e w2 ⟨rfl, hB2⟩
  rw [HI.out]
  dsimp only [ratV]
  clear ral ra0 ra1
  replace ra := ra.below hB2
  have g2 : Below w.heap.size w w2 := (by repeat (first | exact Below.refl _ _ | assumption | refine b_then ?_ (by assumption) | refine b_alloc ?_ _ | refine b_drewN ?_ _ | refine b_drew ?_ | refine b_set ?_ (by omega) _ | refine b_set ?_ (by simp) _))
  clear hB2 g1
  have rb := RatAt.new w2 (0) (0) 23
  replace ra := ra.alloc (.cells #[.int .i64 (0), .int .i64 (0)] 23)
  have ral := ra.1
  have ra0 := ra.2.1
  have ra1 := ra.2.2
  have rbl := rb.1
  have rb0 := rb.2.1
  have rb1 := rb.2.2
  go_wp2_with fail
  refine (Check_any a b _).mono ?_
  rintro e w3 ⟨rfl, hB3⟩
  rw [HC.out]
  dsimp only []
  clear ral ra0 ra1 rbl rb0 rb1
  replace ra := ra.below hB3
  replace rb := rb.below hB3
  have g3 : Below w.heap.size w w3 := (by repeat (first | exact Below.refl _ _ | assumption | refine b_then ?_ (by assumption) | refine b_alloc ?_ _ | refine b_drewN ?_ _ | refine b_drew ?_ | refine b_set ?_ (by omega) _ | refine b_set ?_ (by simp) _))
  clear hB3 g2
  have ral := ra.1
  have ra0 := ra.2.1
  have ra1 := ra.2.2
  have rbl := rb.1
  have rb0 := rb.2.1
  have rb1 := rb.2.2
  go_wp2_with fail
  go_ret
  exact ⟨by simp, (by repeat (first | exact Below.refl _ _ | assumption | refine b_then ?_ (by assumption) | refine b_alloc ?_ _ | refine b_drewN ?_ _ | refine b_drew ?_ | refine b_set ?_ (by omega) _ | refine b_set ?_ (by simp) _))⟩

set_option maxHeartbeats 2000000 in
theorem inv_zero (b : Int) (hv : Vld 0 b) (w : World) :
    Calls Try.prog 8 #[.agg #[.int .i64 0, .int .i64 b]] w fun e w' => e = .returned (.bool true) ∧ Below w.heap.size w w' := by
  have HI := hid (invR_zero hv)
  have HC := hid (chk_ok hv)
  have hn := add_neg_law hv
  unfold addR at hn
  rw [Int.neg_zero] at hn
  have HN := hid hn
  clear hv hn
  go_enter Try.func8, Try.ntmps8
  have ra := RatAt.new w 0 b 23
  go_wp2_with fail
  refine (sane_any _).mono ?_
  rintro e w1 ⟨rfl, hB1⟩
  dsimp only []
  replace ra := ra.below hB1
  have g1 : Below w.heap.size w w1 := (by repeat (first | exact Below.refl _ _ | assumption | refine b_then ?_ (by assumption) | refine b_alloc ?_ _ | refine b_drewN ?_ _ | refine b_drew ?_ | refine b_set ?_ (by omega) _ | refine b_set ?_ (by simp) _))
  clear hB1
  have ral := ra.1
  have ra0 := ra.2.1
  have ra1 := ra.2.2
  go_wp2_with fail
  refine (Inverse_any 0 b _).mono ?_
  rintro e w2 ⟨rfl, hB2⟩
  rw [HI.out]
  dsimp only [ratV]
  clear ral ra0 ra1
  replace ra := ra.below hB2
  have g2 : Below w.heap.size w w2 := (by repeat (first | exact Below.refl _ _ | assumption | refine b_then ?_ (by assumption) | refine b_alloc ?_ _ | refine b_drewN ?_ _ | refine b_drew ?_ | refine b_set ?_ (by omega) _ | refine b_set ?_ (by simp) _))
  clear hB2 g1
  have rb := RatAt.new w2 (0) (0) 23
  replace ra := ra.alloc (.cells #[.int .i64 (0), .int .i64 (0)] 23)
  have ral := ra.1
  have ra0 := ra.2.1
  have ra1 := ra.2.2
  have rbl := rb.1
  have rb0 := rb.2.1
  have rb1 := rb.2.2
  go_wp2_with fail
  refine (Check_any 0 b _).mono ?_
  rintro e w3 ⟨rfl, hB3⟩
  rw [HC.out]
  dsimp only []
  clear ral ra0 ra1 rbl rb0 rb1
  replace ra := ra.below hB3
  replace rb := rb.below hB3
  have g3 : Below w.heap.size w w3 := (by repeat (first | exact Below.refl _ _ | assumption | refine b_then ?_ (by assumption) | refine b_alloc ?_ _ | refine b_drewN ?_ _ | refine b_drew ?_ | refine b_set ?_ (by omega) _ | refine b_set ?_ (by simp) _))
  clear hB3 g2
  have ral := ra.1
  have ra0 := ra.2.1
  have ra1 := ra.2.2
  have rbl := rb.1
  have rb0 := rb.2.1
  have rb1 := rb.2.2
  go_wp2_with fail
  refine (Add_any 0 b 0 b _).mono ?_
  rintro e w4 ⟨rfl, hB4⟩
  rw [HN.out]
  dsimp only [ratV]
  clear ral ra0 ra1 rbl rb0 rb1
  replace ra := ra.below hB4
  replace rb := rb.below hB4
  have g4 : Below w.heap.size w w4 := (by repeat (first | exact Below.refl _ _ | assumption | refine b_then ?_ (by assumption) | refine b_alloc ?_ _ | refine b_drewN ?_ _ | refine b_drew ?_ | refine b_set ?_ (by omega) _ | refine b_set ?_ (by simp) _))
  clear hB4 g3
  have rz := RatAt.new w4 (0) (1) 23
  replace ra := ra.alloc (.cells #[.int .i64 (0), .int .i64 (1)] 23)
  replace rb := rb.alloc (.cells #[.int .i64 (0), .int .i64 (1)] 23)
  have ral := ra.1
  have ra0 := ra.2.1
  have ra1 := ra.2.2
  have rbl := rb.1
  have rb0 := rb.2.1
  have rb1 := rb.2.2
  have rzl := rz.1
  have rz0 := rz.2.1
  have rz1 := rz.2.2
  go_wp2_with fail
  go_ret
  exact ⟨by simp, (by repeat (first | exact Below.refl _ _ | assumption | refine b_then ?_ (by assumption) | refine b_alloc ?_ _ | refine b_drewN ?_ _ | refine b_drew ?_ | refine b_set ?_ (by omega) _ | refine b_set ?_ (by simp) _))⟩

set_option maxHeartbeats 2000000 in
theorem inv_yes (a b : Int) (hv : Vld a b) (ha : a ≠ 0) (w : World) :
    Calls Try.prog 8 #[.agg #[.int .i64 a, .int .i64 b]] w fun e w' => e = .returned (.bool true) ∧ Below w.heap.size w w' := by
  obtain ⟨x, y, h1, hv2, h3, h4⟩ := inv_law hv ha
  have HI := hid h1
  have HI2 := hid h4
  have HC := hid (chk_ok hv)
  have HC2 := hid (chk_ok hv2)
  have hn := add_neg_law hv
  unfold addR at hn
  unfold mulR at h3
  have HN := hid hn
  have HM := hid h3
  have hb := beq_eq_false_iff_ne.2 ha
  have hab : -2147483647 ≤ a ∧ a ≤ 2147483647 := ⟨hv.2.2.1, hv.2.2.2.1⟩
  clear hv hn h1 h3 h4 hv2 ha
  go_enter Try.func8, Try.ntmps8
  have ra := RatAt.new w a b 23
  go_wp2_with fail
  refine (sane_any _).mono ?_
  rintro e w1 ⟨rfl, hB1⟩
  dsimp only []
  replace ra := ra.below hB1
  have g1 : Below w.heap.size w w1 := (by repeat (first | exact Below.refl _ _ | assumption | refine b_then ?_ (by assumption) | refine b_alloc ?_ _ | refine b_drewN ?_ _ | refine b_drew ?_ | refine b_set ?_ (by omega) _ | refine b_set ?_ (by simp) _))
  clear hB1
  have ral := ra.1
  have ra0 := ra.2.1
  have ra1 := ra.2.2
  go_wp2_with fail
  refine (Inverse_any a b _).mono ?_
  rintro e w2 ⟨rfl, hB2⟩
  rw [HI.out]
  dsimp only [ratV]
  clear ral ra0 ra1
  replace ra := ra.below hB2
  have g2 : Below w.heap.size w w2 := (by repeat (first | exact Below.refl _ _ | assumption | refine b_then ?_ (by assumption) | refine b_alloc ?_ _ | refine b_drewN ?_ _ | refine b_drew ?_ | refine b_set ?_ (by omega) _ | refine b_set ?_ (by simp) _))
  clear hB2 g1
  have rb := RatAt.new w2 (x) (y) 23
  replace ra := ra.alloc (.cells #[.int .i64 (x), .int .i64 (y)] 23)
  have ral := ra.1
  have ra0 := ra.2.1
  have ra1 := ra.2.2
  have rbl := rb.1
  have rb0 := rb.2.1
  have rb1 := rb.2.2
  go_wp2_with fail
  refine (Check_any a b _).mono ?_
  rintro e w3 ⟨rfl, hB3⟩
  rw [HC.out]
  dsimp only []
  clear ral ra0 ra1 rbl rb0 rb1
  replace ra := ra.below hB3
  replace rb := rb.below hB3
  have g3 : Below w.heap.size w w3 := (by repeat (first | exact Below.refl _ _ | assumption | refine b_then ?_ (by assumption) | refine b_alloc ?_ _ | refine b_drewN ?_ _ | refine b_drew ?_ | refine b_set ?_ (by omega) _ | refine b_set ?_ (by simp) _))
  clear hB3 g2
  have ral := ra.1
  have ra0 := ra.2.1
  have ra1 := ra.2.2
  have rbl := rb.1
  have rb0 := rb.2.1
  have rb1 := rb.2.2
  go_wp2_with fail
  refine (Add_any a b (-a) b _).mono ?_
  rintro e w4 ⟨rfl, hB4⟩
  rw [HN.out]
  dsimp only [ratV]
  clear ral ra0 ra1 rbl rb0 rb1
  replace ra := ra.below hB4
  replace rb := rb.below hB4
  have g4 : Below w.heap.size w w4 := (by repeat (first | exact Below.refl _ _ | assumption | refine b_then ?_ (by assumption) | refine b_alloc ?_ _ | refine b_drewN ?_ _ | refine b_drew ?_ | refine b_set ?_ (by omega) _ | refine b_set ?_ (by simp) _))
  clear hB4 g3
  have rz := RatAt.new w4 (0) (1) 23
  replace ra := ra.alloc (.cells #[.int .i64 (0), .int .i64 (1)] 23)
  replace rb := rb.alloc (.cells #[.int .i64 (0), .int .i64 (1)] 23)
  have ral := ra.1
  have ra0 := ra.2.1
  have ra1 := ra.2.2
  have rbl := rb.1
  have rb0 := rb.2.1
  have rb1 := rb.2.2
  have rzl := rz.1
  have rz0 := rz.2.1
  have rz1 := rz.2.2
  go_wp2_with fail
  refine (Mul_any a b x y _).mono ?_
  rintro e w5 ⟨rfl, hB5⟩
  rw [HM.out]
  dsimp only [ratV]
  clear ral ra0 ra1 rbl rb0 rb1 rzl rz0 rz1
  replace ra := ra.below hB5
  replace rb := rb.below hB5
  replace rz := rz.below hB5
  have g5 : Below w.heap.size w w5 := (by repeat (first | exact Below.refl _ _ | assumption | refine b_then ?_ (by assumption) | refine b_alloc ?_ _ | refine b_drewN ?_ _ | refine b_drew ?_ | refine b_set ?_ (by omega) _ | refine b_set ?_ (by simp) _))
  clear hB5 g4
  have ro := RatAt.new w5 (1) (1) 23
  replace ra := ra.alloc (.cells #[.int .i64 (1), .int .i64 (1)] 23)
  replace rb := rb.alloc (.cells #[.int .i64 (1), .int .i64 (1)] 23)
  replace rz := rz.alloc (.cells #[.int .i64 (1), .int .i64 (1)] 23)
  have ral := ra.1
  have ra0 := ra.2.1
  have ra1 := ra.2.2
  have rbl := rb.1
  have rb0 := rb.2.1
  have rb1 := rb.2.2
  go_wp2_with fail
  refine (Inverse_any x y _).mono ?_
  rintro e w6 ⟨rfl, hB6⟩
  rw [HI2.out]
  dsimp only [ratV]
  clear ral ra0 ra1 rbl rb0 rb1
  replace ra := ra.below hB6
  replace rb := rb.below hB6
  replace rz := rz.below hB6
  replace ro := ro.below hB6
  have g6 : Below w.heap.size w w6 := (by repeat (first | exact Below.refl _ _ | assumption | refine b_then ?_ (by assumption) | refine b_alloc ?_ _ | refine b_drewN ?_ _ | refine b_drew ?_ | refine b_set ?_ (by omega) _ | refine b_set ?_ (by simp) _))
  clear hB6 g5
  have rc := RatAt.new w6 (a) (b) 23
  replace ra := ra.alloc (.cells #[.int .i64 (a), .int .i64 (b)] 23)
  replace rb := rb.alloc (.cells #[.int .i64 (a), .int .i64 (b)] 23)
  replace rz := rz.alloc (.cells #[.int .i64 (a), .int .i64 (b)] 23)
  replace ro := ro.alloc (.cells #[.int .i64 (a), .int .i64 (b)] 23)
  have ral := ra.1
  have ra0 := ra.2.1
  have ra1 := ra.2.2
  have rbl := rb.1
  have rb0 := rb.2.1
  have rb1 := rb.2.2
  have rzl := rz.1
  have rz0 := rz.2.1
  have rz1 := rz.2.2
  have rol := ro.1
  have ro0 := ro.2.1
  have ro1 := ro.2.2
  have rcl := rc.1
  have rc0 := rc.2.1
  have rc1 := rc.2.2
  go_wp2_with fail
  refine (Check_any x y _).mono ?_
  rintro e w7 ⟨rfl, hB7⟩
  rw [HC2.out]
  dsimp only []
  clear ral ra0 ra1 rbl rb0 rb1 rzl rz0 rz1 rol ro0 ro1 rcl rc0 rc1
  replace ra := ra.below hB7
  replace rb := rb.below hB7
  replace rz := rz.below hB7
  replace ro := ro.below hB7
  replace rc := rc.below hB7
  have g7 : Below w.heap.size w w7 := (by repeat (first | exact Below.refl _ _ | assumption | refine b_then ?_ (by assumption) | refine b_alloc ?_ _ | refine b_drewN ?_ _ | refine b_drew ?_ | refine b_set ?_ (by omega) _ | refine b_set ?_ (by simp) _))
  clear hB7 g6
  have ral := ra.1
  have ra0 := ra.2.1
  have ra1 := ra.2.2
  have rbl := rb.1
  have rb0 := rb.2.1
  have rb1 := rb.2.2
  have rzl := rz.1
  have rz0 := rz.2.1
  have rz1 := rz.2.2
  have rol := ro.1
  have ro0 := ro.2.1
  have ro1 := ro.2.2
  have rcl := rc.1
  have rc0 := rc.2.1
  have rc1 := rc.2.2
  go_wp2_with fail
  go_ret
  exact ⟨by simp, (by repeat (first | exact Below.refl _ _ | assumption | refine b_then ?_ (by assumption) | refine b_alloc ?_ _ | refine b_drewN ?_ _ | refine b_drew ?_ | refine b_set ?_ (by omega) _ | refine b_set ?_ (by simp) _))⟩

theorem inverse_walk (a b : Int) (w : World) :
    Calls Try.prog 8 #[.agg #[.int .i64 a, .int .i64 b]] w fun e w' => e = .returned (.bool true) ∧ Below w.heap.size w w' := by
  by_cases hv : Vld a b
  · by_cases ha : a = 0
    · subst ha
      exact inv_zero b hv w
    · exact inv_yes a b hv ha w
  · exact inv_no a b hv w

end Go.Proofs.Ytfcibldknamekaa
namespace Go.Proofs.Ytfcibldknamekaa.Inverse
open Go.ChangeShapes Go.WideShapes Go.ChangeAt Go.RowKit Go.Joins

theorem own : ownKnob Try.prog.godebug = none := by kernel_rfl
theorem laidOut : laidOutB Try.prog = true := by kernel_rfl
theorem cells23 : Try.prog.cellsOf 23 = 2 := by kernel_rfl

set_option maxRecDepth 100000 in
theorem lifted (os : Os) (started : os.Started) (H : Type) (enc : TypeId × Value → H) :
    ReturnsInHanded {} Try.checked os 8 .any (Rows.rationalInverseSpec.pre6 enc Try.prog Try.f8 Rows.rationalInverseRow.domain false) (Rows.rationalInverseSpec.post enc Try.prog Try.f8 false true false false) := by
  refine returnsInHanded_of_change (C := Try.checked) own started (by kernel_rfl) Try.func8
    (ChangeSpec.witness6 (enc := enc) (C := Try.checked) false ⟨#[], #[.agg #[.int .i64 0, .int .i64 0]], []⟩ 8 (by kernel_rfl) (by kernel_rfl) (by kernel_rfl) (by kernel_rfl)) ?_
  intro W base args ds gs before hval0 hW hcnd _
  have hval : ∀ (j : Nat) t v, Try.f8.params[j]? = some t → args[j]? = some v → Value.okWide Try.prog W .any base t v := hval0
  have hW' := hW
  obtain ⟨p, q, hA0, hV, rfl, hfz, hnd⟩ := hW
  have hA : DataW.TrodAll enc Try.prog W 0 (fun _ => true) true Try.f8.params.toList args.toList ds p := hA0
  rw [Try.params8] at hA hval
  obtain ⟨v0, vs0, d0, ds0, p0, q0, hargs, rfl, rfl, h0, r0⟩ := trodAll_cons hA
  obtain ⟨rfl, rfl, rfl⟩ := trodAll_nil r0
  obtain rfl : args = #[v0] := by cases args; simp_all
  obtain ⟨rfl, rfl⟩ := trodVars_none hV
  have k0 := h0
  have lt0 : ∀ x ∈ p0, x.block < W.heap.size := by obtain ⟨m, hm⟩ := k0; exact DataW.trod_lt m _ _ _ hm
  obtain ⟨c0_0, c0_1, y0_0, y0_1, m0, rfl, rfl, rfl, hy0_0, hy0_1⟩ := open_agg2 Try.underlying23 (by kernel_rfl) cells23 (hval 0 23 v0 rfl rfl) h0
  obtain ⟨b0_0, e0_0, rfl, _⟩ := DataW.trod_int Try.underlying3 hy0_0
  simp at e0_0
  subst e0_0
  obtain ⟨b0_1, e0_1, rfl, _⟩ := DataW.trod_int Try.underlying3 hy0_1
  simp at e0_1
  subst e0_1
  clear hA0 hval0
  refine (inverse_walk b0_0 b0_1 W).mono fun e W' ⟨he, bel⟩ => ?_
  subst he
  exact ⟨_, rfl, _, _, _, [], _, [], hW', trodAll_mk1 (shut_bool Try.underlying4 _), (trodAll_cons_mk (Below.trod laidOut (by kernel_rfl) (of_decide_eq_true (by kernel_rfl)) k0 bel lt0) trodAll_mk0), rfl, bel.frame _, fun h => by cases h⟩

theorem over : Rows.rationalInverseRow.holds Try.pinned (OpenSpec.ofChange Rows.rationalInverseSpec) :=
  OpenClaim.holds_of_wide 8 Try.f8 rfl rfl rfl rfl rfl rfl rfl ⟨rfl, rfl, rfl, rfl, rfl⟩ rfl rfl rfl rfl rfl (by kernel_rfl) Try.func8 (by kernel_rfl)
    (of_decide_eq_true (by kernel_rfl)) (by unfold Func.isWrapper; first | (rw [if_pos (by decide +kernel)]; kernel_rfl) | (rw [if_neg (by decide +kernel)]; exact ⟨rfl, rfl⟩))
    (fun os started H enc _ => lifted os started H enc)
end Go.Proofs.Ytfcibldknamekaa.Inverse
namespace Go.Proofs.Ytfcibldknamekaa
/-- The statement. -/
theorem inverse_holds : Rows.RationalInverseSaid := Inverse.over
end Go.Proofs.Ytfcibldknamekaa
