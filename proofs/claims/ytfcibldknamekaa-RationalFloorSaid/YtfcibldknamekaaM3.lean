/- For every number and every n of 32 bits: what Floor answers lies at or below the number and less than one below it; the floor of a sum with an integer is the sum. No condition. -/
import Derived.Test.YtfcibldknamekaaK
import Derived.Test.YtfcibldknamekaaP
import Derived.Test.YtfcibldknamekaaRows
import Derived.ProofKit
import Derived.OpenShut
import Derived.Lib.SmallJoins
import Derived.ChangeOld
namespace Go.Proofs.Ytfcibldknamekaa
open Go.RowKit
open Go.Lib (hid)

set_option maxHeartbeats 2000000 in
theorem floor_no (a b n : Int) (hv : ¬ Vld a b) (w : World) :
    Calls Try.prog 5 #[.agg #[.int .i64 a, .int .i64 b], .int .i32 n] w fun e w' => e = .returned (.bool true) ∧ Below w.heap.size w w' := by
  have HF := hid (floorR_no hv)
  clear hv
  go_enter Try.func5, Try.ntmps5
  have ra := RatAt.new w a b 23
  go_wp2_with fail
  refine (sane_any _).mono ?_
  rintro e w1 ⟨rfl, hB1⟩
  dsimp only []
  replace ra := ra.below hB1
  have g1 : Below w.heap.size w w1 := (by repeat (first | exact Below.refl _ _ | assumption | refine b_then ?_ (by assumption) | refine b_alloc ?_ _ | refine b_drewN ?_ _ | refine b_drew ?_ | refine b_set ?_ (by omega) _ | refine b_set ?_ (by simp) _))
  clear hB1
  have ral := ra.1
  have ra0 := ra.2.1
  have ra1 := ra.2.2
  go_wp2_with fail
  refine (Floor_any a b _).mono ?_
  rintro e w2 ⟨rfl, hB2⟩
  rw [HF.out]
  dsimp only []
  clear ral ra0 ra1
  replace ra := ra.below hB2
  have g2 : Below w.heap.size w w2 := (by repeat (first | exact Below.refl _ _ | assumption | refine b_then ?_ (by assumption) | refine b_alloc ?_ _ | refine b_drewN ?_ _ | refine b_drew ?_ | refine b_set ?_ (by omega) _ | refine b_set ?_ (by simp) _))
  clear hB2 g1
  have ral := ra.1
  have ra0 := ra.2.1
  have ra1 := ra.2.2
  go_wp2_with fail
  go_ret
  exact ⟨by simp, (by repeat (first | exact Below.refl _ _ | assumption | refine b_then ?_ (by assumption) | refine b_alloc ?_ _ | refine b_drewN ?_ _ | refine b_drew ?_ | refine b_set ?_ (by omega) _ | refine b_set ?_ (by simp) _))⟩

theorem ediv_bd {a b : Int} (_hb : 1 ≤ b) (ha : -2147483647 ≤ a ∧ a ≤ 2147483647) : -2147483647 ≤ a / b ∧ a / b ≤ 2147483647 := by
  have := Int.natAbs_ediv_le_natAbs a b
  omega

set_option maxHeartbeats 2000000 in
theorem floor_min (a b : Int) (hv : Vld a b) (w : World) :
    Calls Try.prog 5 #[.agg #[.int .i64 a, .int .i64 b], .int .i32 (-2147483648)] w fun e w' => e = .returned (.bool true) ∧ Below w.heap.size w w' := by
  have HF := hid (floorR_ok hv)
  have hlo := floor_lo (a := a) hv.1
  have hhi := floor_hi (a := a) hv.1
  have hbd := ediv_bd hv.1 ⟨hv.2.2.1, hv.2.2.2.1⟩
  have hf1 := prod_bd (x := a / b) (y := b) hbd ⟨by have := hv.1; omega, hv.2.1⟩
  have hf2 : -9223372036854775808 ≤ (a / b + 1) * b ∧ (a / b + 1) * b ≤ 9223372036854775807 := by
    have e : (a / b + 1) * b = a / b * b + b := by rw [Int.add_mul, Int.one_mul]
    have h2 := hv.2.1
    have h1 := hv.1
    rw [e]; omega
  generalize a / b = f at HF hlo hhi hbd hf1 hf2
  have hb1 := hv.1
  have hb2 := hv.2.1
  clear hv
  go_enter Try.func5, Try.ntmps5
  have ra := RatAt.new w a b 23
  go_wp2_with fail
  refine (sane_any _).mono ?_
  rintro e w1 ⟨rfl, hB1⟩
  dsimp only []
  replace ra := ra.below hB1
  have g1 : Below w.heap.size w w1 := (by repeat (first | exact Below.refl _ _ | assumption | refine b_then ?_ (by assumption) | refine b_alloc ?_ _ | refine b_drewN ?_ _ | refine b_drew ?_ | refine b_set ?_ (by omega) _ | refine b_set ?_ (by simp) _))
  clear hB1
  have ral := ra.1
  have ra0 := ra.2.1
  have ra1 := ra.2.2
  go_wp2_with fail
  refine (Floor_any a b _).mono ?_
  rintro e w2 ⟨rfl, hB2⟩
  rw [HF.out]
  dsimp only []
  clear ral ra0 ra1
  replace ra := ra.below hB2
  have g2 : Below w.heap.size w w2 := (by repeat (first | exact Below.refl _ _ | assumption | refine b_then ?_ (by assumption) | refine b_alloc ?_ _ | refine b_drewN ?_ _ | refine b_drew ?_ | refine b_set ?_ (by omega) _ | refine b_set ?_ (by simp) _))
  clear hB2 g1
  have ral := ra.1
  have ra0 := ra.2.1
  have ra1 := ra.2.2
  go_wp2_with fail
  go_ret
  exact ⟨by simp, (by repeat (first | exact Below.refl _ _ | assumption | refine b_then ?_ (by assumption) | refine b_alloc ?_ _ | refine b_drewN ?_ _ | refine b_drew ?_ | refine b_set ?_ (by omega) _ | refine b_set ?_ (by simp) _))⟩

set_option maxHeartbeats 2000000 in
theorem floor_err (a b n x y z : Int) (hv : Vld a b) (hn : -2147483647 ≤ n ∧ n ≤ 2147483647) (he : addR a b n 1 = (x, y, z)) (hz : z ≠ 0) (w : World) :
    Calls Try.prog 5 #[.agg #[.int .i64 a, .int .i64 b], .int .i32 n] w fun e w' => e = .returned (.bool true) ∧ Below w.heap.size w w' := by
  obtain rfl := add_err he hz
  have HA := hid he
  have hnm : (n == -2147483648) = false := beq_eq_false_iff_ne.2 (by omega)
  have HF := hid (floorR_ok hv)
  have hlo := floor_lo (a := a) hv.1
  have hhi := floor_hi (a := a) hv.1
  have hbd := ediv_bd hv.1 ⟨hv.2.2.1, hv.2.2.2.1⟩
  have hf1 := prod_bd (x := a / b) (y := b) hbd ⟨by have := hv.1; omega, hv.2.1⟩
  have hf2 : -9223372036854775808 ≤ (a / b + 1) * b ∧ (a / b + 1) * b ≤ 9223372036854775807 := by
    have e : (a / b + 1) * b = a / b * b + b := by rw [Int.add_mul, Int.one_mul]
    have h2 := hv.2.1
    have h1 := hv.1
    rw [e]; omega
  generalize a / b = f at HF hlo hhi hbd hf1 hf2
  have hb1 := hv.1
  have hb2 := hv.2.1
  clear hv he hz
  unfold addR at HA
  go_enter Try.func5, Try.ntmps5
  have ra := RatAt.new w a b 23
  go_wp2_with fail
  refine (sane_any _).mono ?_
  rintro e w1 ⟨rfl, hB1⟩
  dsimp only []
  replace ra := ra.below hB1
  have g1 : Below w.heap.size w w1 := (by repeat (first | exact Below.refl _ _ | assumption | refine b_then ?_ (by assumption) | refine b_alloc ?_ _ | refine b_drewN ?_ _ | refine b_drew ?_ | refine b_set ?_ (by omega) _ | refine b_set ?_ (by simp) _))
  clear hB1
  have ral := ra.1
  have ra0 := ra.2.1
  have ra1 := ra.2.2
  go_wp2_with fail
  refine (Floor_any a b _).mono ?_
  rintro e w2 ⟨rfl, hB2⟩
  rw [HF.out]
  dsimp only []
  clear ral ra0 ra1
  replace ra := ra.below hB2
  have g2 : Below w.heap.size w w2 := (by repeat (first | exact Below.refl _ _ | assumption | refine b_then ?_ (by assumption) | refine b_alloc ?_ _ | refine b_drewN ?_ _ | refine b_drew ?_ | refine b_set ?_ (by omega) _ | refine b_set ?_ (by simp) _))
  clear hB2 g1
  have ral := ra.1
  have ra0 := ra.2.1
  have ra1 := ra.2.2
  go_wp2_with fail
  refine (Add_any a b n 1 _).mono ?_
  rintro e w3 ⟨rfl, hB3⟩
  rw [HA.out]
  dsimp only [ratV]
  clear ral ra0 ra1
  replace ra := ra.below hB3
  have g3 : Below w.heap.size w w3 := (by repeat (first | exact Below.refl _ _ | assumption | refine b_then ?_ (by assumption) | refine b_alloc ?_ _ | refine b_drewN ?_ _ | refine b_drew ?_ | refine b_set ?_ (by omega) _ | refine b_set ?_ (by simp) _))
  clear hB3 g2
  have rs := RatAt.new w3 (x) (y) 23
  replace ra := ra.alloc (.cells #[.int .i64 (x), .int .i64 (y)] 23)
  have ral := ra.1
  have ra0 := ra.2.1
  have ra1 := ra.2.2
  have rsl := rs.1
  have rs0 := rs.2.1
  have rs1 := rs.2.2
  go_wp2_with fail
  go_ret
  exact ⟨by simp, (by repeat (first | exact Below.refl _ _ | assumption | refine b_then ?_ (by assumption) | refine b_alloc ?_ _ | refine b_drewN ?_ _ | refine b_drew ?_ | refine b_set ?_ (by omega) _ | refine b_set ?_ (by simp) _))⟩

set_option maxHeartbeats 2000000 in
theorem floor_yes (a b n x y : Int) (hv : Vld a b) (hn : -2147483647 ≤ n ∧ n ≤ 2147483647) (he : addR a b n 1 = (x, y, 0)) (w : World) :
    Calls Try.prog 5 #[.agg #[.int .i64 a, .int .i64 b], .int .i32 n] w fun e w' => e = .returned (.bool true) ∧ Below w.heap.size w w' := by
  have HX := hid (floor_sum hv hn he rfl)
  have HA := hid he
  have hnm : (n == -2147483648) = false := beq_eq_false_iff_ne.2 (by omega)
  have HF := hid (floorR_ok hv)
  have hlo := floor_lo (a := a) hv.1
  have hhi := floor_hi (a := a) hv.1
  have hbd := ediv_bd hv.1 ⟨hv.2.2.1, hv.2.2.2.1⟩
  have hf1 := prod_bd (x := a / b) (y := b) hbd ⟨by have := hv.1; omega, hv.2.1⟩
  have hf2 : -9223372036854775808 ≤ (a / b + 1) * b ∧ (a / b + 1) * b ≤ 9223372036854775807 := by
    have e : (a / b + 1) * b = a / b * b + b := by rw [Int.add_mul, Int.one_mul]
    have h2 := hv.2.1
    have h1 := hv.1
    rw [e]; omega
  generalize a / b = f at HF hlo hhi hbd hf1 hf2 HX
  have hb1 := hv.1
  have hb2 := hv.2.1
  clear hv he
  unfold addR at HA
  go_enter Try.func5, Try.ntmps5
  have ra := RatAt.new w a b 23
  go_wp2_with fail
  refine (sane_any _).mono ?_
  rintro e w1 ⟨rfl, hB1⟩
  dsimp only []
  replace ra := ra.below hB1
  have g1 : Below w.heap.size w w1 := (by repeat (first | exact Below.refl _ _ | assumption | refine b_then ?_ (by assumption) | refine b_alloc ?_ _ | refine b_drewN ?_ _ | refine b_drew ?_ | refine b_set ?_ (by omega) _ | refine b_set ?_ (by simp) _))
  clear hB1
  have ral := ra.1
  have ra0 := ra.2.1
  have ra1 := ra.2.2
  go_wp2_with fail
  refine (Floor_any a b _).mono ?_
  rintro e w2 ⟨rfl, hB2⟩
  rw [HF.out]
  dsimp only []
  clear ral ra0 ra1
  replace ra := ra.below hB2
  have g2 : Below w.heap.size w w2 := (by repeat (first | exact Below.refl _ _ | assumption | refine b_then ?_ (by assumption) | refine b_alloc ?_ _ | refine b_drewN ?_ _ | refine b_drew ?_ | refine b_set ?_ (by omega) _ | refine b_set ?_ (by simp) _))
  clear hB2 g1
  have ral := ra.1
  have ra0 := ra.2.1
  have ra1 := ra.2.2
  go_wp2_with fail
  refine (Add_any a b n 1 _).mono ?_
  rintro e w3 ⟨rfl, hB3⟩
  rw [HA.out]
  dsimp only [ratV]
  clear ral ra0 ra1
  replace ra := ra.below hB3
  have g3 : Below w.heap.size w w3 := (by repeat (first | exact Below.refl _ _ | assumption | refine b_then ?_ (by assumption) | refine b_alloc ?_ _ | refine b_drewN ?_ _ | refine b_drew ?_ | refine b_set ?_ (by omega) _ | refine b_set ?_ (by simp) _))
  clear hB3 g2
  have rs := RatAt.new w3 (x) (y) 23
  replace ra := ra.alloc (.cells #[.int .i64 (x), .int .i64 (y)] 23)
  have ral := ra.1
  have ra0 := ra.2.1
  have ra1 := ra.2.2
  have rsl := rs.1
  have rs0 := rs.2.1
  have rs1 := rs.2.2
  go_wp2_with fail
  refine (Floor_any x y _).mono ?_
  rintro e w4 ⟨rfl, hB4⟩
  rw [HX.out]
  dsimp only []
  clear ral ra0 ra1 rsl rs0 rs1
  replace ra := ra.below hB4
  replace rs := rs.below hB4
  have g4 : Below w.heap.size w w4 := (by repeat (first | exact Below.refl _ _ | assumption | refine b_then ?_ (by assumption) | refine b_alloc ?_ _ | refine b_drewN ?_ _ | refine b_drew ?_ | refine b_set ?_ (by omega) _ | refine b_set ?_ (by simp) _))
  clear hB4 g3
  have ral := ra.1
  have ra0 := ra.2.1
  have ra1 := ra.2.2
  have rsl := rs.1
  have rs0 := rs.2.1
  have rs1 := rs.2.2
  go_wp2_with fail
  go_ret
  exact ⟨by simp, (by repeat (first | exact Below.refl _ _ | assumption | refine b_then ?_ (by assumption) | refine b_alloc ?_ _ | refine b_drewN ?_ _ | refine b_drew ?_ | refine b_set ?_ (by omega) _ | refine b_set ?_ (by simp) _))⟩

theorem floor_walk (a b n : Int) (wn : (Lit.int .i32 n).wf = true) (w : World) :
    Calls Try.prog 5 #[.agg #[.int .i64 a, .int .i64 b], .int .i32 n] w fun e w' => e = .returned (.bool true) ∧ Below w.heap.size w w' := by
  have hn := bounds_i32 wn
  by_cases hv : Vld a b
  · by_cases hm : n = -2147483648
    · subst hm
      exact floor_min a b hv w
    · obtain ⟨x, y, z, he⟩ : ∃ x y z, addR a b n 1 = (x, y, z) := ⟨_, _, _, rfl⟩
      by_cases hz : z = 0
      · subst hz
        exact floor_yes a b n x y hv (by omega) he w
      · exact floor_err a b n x y z hv (by omega) he hz w
  · exact floor_no a b n hv w

theorem floor_walk2 (a : Int) (_ : (Lit.int .i64 a).wf = true) (b : Int) (_ : (Lit.int .i64 b).wf = true) (n : Int) (wn : (Lit.int .i32 n).wf = true) (w : World) :
    Calls Try.prog 5 #[.agg #[.int .i64 a, .int .i64 b], .int .i32 n] w fun e w' => e = .returned (.bool true) ∧ Below w.heap.size w w' := floor_walk a b n wn w

end Go.Proofs.Ytfcibldknamekaa
namespace Go.Proofs.Ytfcibldknamekaa.Floor
open Go.ChangeShapes Go.WideShapes Go.ChangeAt Go.RowKit Go.Joins

theorem own : ownKnob Try.prog.godebug = none := by kernel_rfl
theorem laidOut : laidOutB Try.prog = true := by kernel_rfl
theorem cells23 : Try.prog.cellsOf 23 = 2 := by kernel_rfl

set_option maxRecDepth 100000 in
theorem lifted (os : Os) (started : os.Started) (H : Type) (enc : TypeId × Value → H) :
    ReturnsInHanded {} Try.checked os 5 .any (Rows.rationalFloorSpec.pre6 enc Try.prog Try.f5 Rows.rationalFloorRow.domain false) (Rows.rationalFloorSpec.post enc Try.prog Try.f5 false true false false) := by
  refine returnsInHanded_of_change (C := Try.checked) own started (by kernel_rfl) Try.func5
    (ChangeSpec.witness6 (enc := enc) (C := Try.checked) false ⟨#[], #[.agg #[.int .i64 0, .int .i64 0], .int .i32 0], []⟩ 8 (by kernel_rfl) (by kernel_rfl) (by kernel_rfl) (by kernel_rfl)) ?_
  intro W base args ds gs before hval0 hW hcnd _
  have hval : ∀ (j : Nat) t v, Try.f5.params[j]? = some t → args[j]? = some v → Value.okWide Try.prog W .any base t v := hval0
  have hW' := hW
  obtain ⟨p, q, hA0, hV, rfl, hfz, hnd⟩ := hW
  have hA : DataW.TrodAll enc Try.prog W 0 (fun _ => true) true Try.f5.params.toList args.toList ds p := hA0
  rw [Try.params5] at hA hval
  obtain ⟨v0, vs0, d0, ds0, p0, q0, hargs, rfl, rfl, h0, r0⟩ := trodAll_cons hA
  obtain ⟨v1, vs1, d1, ds1, p1, q1, rfl, rfl, rfl, h1, r1⟩ := trodAll_cons r0
  obtain ⟨rfl, rfl, rfl⟩ := trodAll_nil r1
  obtain rfl : args = #[v0, v1] := by cases args; simp_all
  obtain ⟨rfl, rfl⟩ := trodVars_none hV
  have k0 := h0
  have lt0 : ∀ x ∈ p0, x.block < W.heap.size := by obtain ⟨m, hm⟩ := k0; exact DataW.trod_lt m _ _ _ hm
  obtain ⟨c0_0, c0_1, y0_0, y0_1, m0, rfl, rfl, rfl, hy0_0, hy0_1⟩ := open_agg2 Try.underlying23 (by kernel_rfl) cells23 (hval 0 23 v0 rfl rfl) h0
  obtain ⟨b0_0, e0_0, rfl, wb0_0⟩ := DataW.trod_int Try.underlying3 hy0_0
  simp at e0_0
  subst e0_0
  obtain ⟨b0_1, e0_1, rfl, wb0_1⟩ := DataW.trod_int Try.underlying3 hy0_1
  simp at e0_1
  subst e0_1
  obtain ⟨a1, rfl, rfl, rfl, w1⟩ := open_int Try.underlying21 (hval 1 21 v1 rfl rfl) h1
  clear hA0 hval0
  refine (floor_walk2 b0_0 wb0_0 b0_1 wb0_1 a1 w1 W).mono fun e W' ⟨he, bel⟩ => ?_
  subst he
  exact ⟨_, rfl, _, _, _, [], _, [], hW', trodAll_mk1 (shut_bool Try.underlying4 _), (trodAll_cons_mk (Below.trod laidOut (by kernel_rfl) (of_decide_eq_true (by kernel_rfl)) k0 bel lt0) (trodAll_cons_mk (shut_int Try.underlying21 w1) trodAll_mk0)), rfl, bel.frame _, fun h => by cases h⟩

theorem over : Rows.rationalFloorRow.holds Try.pinned (OpenSpec.ofChange Rows.rationalFloorSpec) :=
  OpenClaim.holds_of_wide 5 Try.f5 rfl rfl rfl rfl rfl rfl rfl ⟨rfl, rfl, rfl, rfl, rfl⟩ rfl rfl rfl rfl rfl (by kernel_rfl) Try.func5 (by kernel_rfl)
    (of_decide_eq_true (by kernel_rfl)) (by unfold Func.isWrapper; first | (rw [if_pos (by decide +kernel)]; kernel_rfl) | (rw [if_neg (by decide +kernel)]; exact ⟨rfl, rfl⟩))
    (fun os started H enc _ => lifted os started H enc)
end Go.Proofs.Ytfcibldknamekaa.Floor
namespace Go.Proofs.Ytfcibldknamekaa
/-- The statement. -/
theorem floor_holds : Rows.RationalFloorSaid := Floor.over
end Go.Proofs.Ytfcibldknamekaa
