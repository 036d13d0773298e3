/- For all numbers, valid or not: Add, Mul, Inverse, Less and Floor of package rational answer as the reference does. No condition. -/
import Derived.Test.YtfcibldknamekaaK
import Derived.Test.YtfcibldknamekaaRows
import Derived.ProofKit
import Derived.OpenShut
import Derived.Lib.SmallJoins
import Derived.ChangeOld
namespace Go.Proofs.Ytfcibldknamekaa
open Go.RowKit
open Go.Lib (hid)

set_option maxHeartbeats 4000000 in
set_option maxRecDepth 100000 in
theorem spec_walk (a b c d : Int) (w : World) :
    Calls Try.prog 6 #[.agg #[.int .i64 a, .int .i64 b], .agg #[.int .i64 c, .int .i64 d]] w fun e w' => e = .returned (.bool true) ∧ Below w.heap.size w w' := by
  obtain ⟨x1, y1, z1, e1⟩ : ∃ x y z, calR a b c d (Rat.divInt (a * d + c * b) (b * d)) = (x, y, z) := ⟨_, _, _, rfl⟩
  obtain ⟨x2, y2, z2, e2⟩ : ∃ x y z, calR a b c d (Rat.divInt (a * c) (b * d)) = (x, y, z) := ⟨_, _, _, rfl⟩
  obtain ⟨x3, y3, z3, e3⟩ : ∃ x y z, invR a b = (x, y, z) := ⟨_, _, _, rfl⟩
  obtain ⟨x4, y4, e4⟩ : ∃ x y, lessR a b c d = (x, y) := ⟨_, _, rfl⟩
  obtain ⟨x5, y5, e5⟩ : ∃ x y, floorR a b = (x, y) := ⟨_, _, rfl⟩
  have E1 := hid e1; have E2 := hid e2; have E3 := hid e3; have E4 := hid e4; have E5 := hid e5
  clear e1 e2 e3 e4 e5
  go_enter Try.func6, Try.ntmps6
  have ra := (RatAt.new w a b 23).alloc (.cells #[.int .i64 c, .int .i64 d] 23)
  have rb := RatAt.new (w.alloc (.cells #[.int .i64 a, .int .i64 b] 23)) c d 23
  rw [World.size_alloc] at rb
  go_wp2_with fail
  refine (sane_any _).mono ?_
  rintro e w1 ⟨rfl, hB1⟩
  dsimp only []
  replace ra := ra.below hB1
  replace rb := rb.below hB1
  have g1 : Below w.heap.size w w1 := (by repeat (first | exact Below.refl _ _ | assumption | refine b_then ?_ (by assumption) | refine b_alloc ?_ _ | refine b_drewN ?_ _ | refine b_drew ?_ | refine b_set ?_ (by omega) _ | refine b_set ?_ (by simp) _))
  clear hB1
  have ral := ra.1
  have ra0 := ra.2.1
  have ra1 := ra.2.2
  have rbl := rb.1
  have rb0 := rb.2.1
  have rb1 := rb.2.2
  go_wp2_with fail
  refine (Add_any a b c d _).mono ?_
  rintro e w2 ⟨rfl, hB2⟩
  rw [E1.out]
  dsimp only [ratV]
  clear ral ra0 ra1 rbl rb0 rb1
  replace ra := ra.below hB2
  replace rb := rb.below hB2
  have g2 : Below w.heap.size w w2 := (by repeat (first | exact Below.refl _ _ | assumption | refine b_then ?_ (by assumption) | refine b_alloc ?_ _ | refine b_drewN ?_ _ | refine b_drew ?_ | refine b_set ?_ (by omega) _ | refine b_set ?_ (by simp) _))
  clear hB2 g1
  have rp := RatAt.new w2 (x1) (y1) 23
  replace ra := ra.alloc (.cells #[.int .i64 (x1), .int .i64 (y1)] 23)
  replace rb := rb.alloc (.cells #[.int .i64 (x1), .int .i64 (y1)] 23)
  have ral := ra.1
  have ra0 := ra.2.1
  have ra1 := ra.2.2
  have rbl := rb.1
  have rb0 := rb.2.1
  have rb1 := rb.2.2
  go_wp2_with fail
  refine (RAdd_any a b c d _).mono ?_
  rintro e w3 ⟨rfl, hB3⟩
  rw [E1.out]
  dsimp only [ratV]
  clear ral ra0 ra1 rbl rb0 rb1
  replace ra := ra.below hB3
  replace rb := rb.below hB3
  replace rp := rp.below hB3
  have g3 : Below w.heap.size w w3 := (by repeat (first | exact Below.refl _ _ | assumption | refine b_then ?_ (by assumption) | refine b_alloc ?_ _ | refine b_drewN ?_ _ | refine b_drew ?_ | refine b_set ?_ (by omega) _ | refine b_set ?_ (by simp) _))
  clear hB3 g2
  have rq := RatAt.new w3 (x1) (y1) 23
  replace ra := ra.alloc (.cells #[.int .i64 (x1), .int .i64 (y1)] 23)
  replace rb := rb.alloc (.cells #[.int .i64 (x1), .int .i64 (y1)] 23)
  replace rp := rp.alloc (.cells #[.int .i64 (x1), .int .i64 (y1)] 23)
  have ral := ra.1
  have ra0 := ra.2.1
  have ra1 := ra.2.2
  have rbl := rb.1
  have rb0 := rb.2.1
  have rb1 := rb.2.2
  go_wp2_with fail
  refine (Mul_any a b c d _).mono ?_
  rintro e w4 ⟨rfl, hB4⟩
  rw [E2.out]
  dsimp only [ratV]
  clear ral ra0 ra1 rbl rb0 rb1
  replace ra := ra.below hB4
  replace rb := rb.below hB4
  replace rp := rp.below hB4
  replace rq := rq.below hB4
  have g4 : Below w.heap.size w w4 := (by repeat (first | exact Below.refl _ _ | assumption | refine b_then ?_ (by assumption) | refine b_alloc ?_ _ | refine b_drewN ?_ _ | refine b_drew ?_ | refine b_set ?_ (by omega) _ | refine b_set ?_ (by simp) _))
  clear hB4 g3
  have rr := RatAt.new w4 (x2) (y2) 23
  replace ra := ra.alloc (.cells #[.int .i64 (x2), .int .i64 (y2)] 23)
  replace rb := rb.alloc (.cells #[.int .i64 (x2), .int .i64 (y2)] 23)
  replace rp := rp.alloc (.cells #[.int .i64 (x2), .int .i64 (y2)] 23)
  replace rq := rq.alloc (.cells #[.int .i64 (x2), .int .i64 (y2)] 23)
  have ral := ra.1
  have ra0 := ra.2.1
  have ra1 := ra.2.2
  have rbl := rb.1
  have rb0 := rb.2.1
  have rb1 := rb.2.2
  go_wp2_with fail
  refine (RMul_any a b c d _).mono ?_
  rintro e w5 ⟨rfl, hB5⟩
  rw [E2.out]
  dsimp only [ratV]
  clear ral ra0 ra1 rbl rb0 rb1
  replace ra := ra.below hB5
  replace rb := rb.below hB5
  replace rp := rp.below hB5
  replace rq := rq.below hB5
  replace rr := rr.below hB5
  have g5 : Below w.heap.size w w5 := (by repeat (first | exact Below.refl _ _ | assumption | refine b_then ?_ (by assumption) | refine b_alloc ?_ _ | refine b_drewN ?_ _ | refine b_drew ?_ | refine b_set ?_ (by omega) _ | refine b_set ?_ (by simp) _))
  clear hB5 g4
  have rs := RatAt.new w5 (x2) (y2) 23
  replace ra := ra.alloc (.cells #[.int .i64 (x2), .int .i64 (y2)] 23)
  replace rb := rb.alloc (.cells #[.int .i64 (x2), .int .i64 (y2)] 23)
  replace rp := rp.alloc (.cells #[.int .i64 (x2), .int .i64 (y2)] 23)
  replace rq := rq.alloc (.cells #[.int .i64 (x2), .int .i64 (y2)] 23)
  replace rr := rr.alloc (.cells #[.int .i64 (x2), .int .i64 (y2)] 23)
  have ral := ra.1
  have ra0 := ra.2.1
  have ra1 := ra.2.2
  go_wp2_with fail
  refine (Inverse_any a b _).mono ?_
  rintro e w6 ⟨rfl, hB6⟩
  rw [E3.out]
  dsimp only [ratV]
  clear ral ra0 ra1
  replace ra := ra.below hB6
  replace rb := rb.below hB6
  replace rp := rp.below hB6
  replace rq := rq.below hB6
  replace rr := rr.below hB6
  replace rs := rs.below hB6
  have g6 : Below w.heap.size w w6 := (by repeat (first | exact Below.refl _ _ | assumption | refine b_then ?_ (by assumption) | refine b_alloc ?_ _ | refine b_drewN ?_ _ | refine b_drew ?_ | refine b_set ?_ (by omega) _ | refine b_set ?_ (by simp) _))
  clear hB6 g5
  have rt := RatAt.new w6 (x3) (y3) 23
  replace ra := ra.alloc (.cells #[.int .i64 (x3), .int .i64 (y3)] 23)
  replace rb := rb.alloc (.cells #[.int .i64 (x3), .int .i64 (y3)] 23)
  replace rp := rp.alloc (.cells #[.int .i64 (x3), .int .i64 (y3)] 23)
  replace rq := rq.alloc (.cells #[.int .i64 (x3), .int .i64 (y3)] 23)
  replace rr := rr.alloc (.cells #[.int .i64 (x3), .int .i64 (y3)] 23)
  replace rs := rs.alloc (.cells #[.int .i64 (x3), .int .i64 (y3)] 23)
  have ral := ra.1
  have ra0 := ra.2.1
  have ra1 := ra.2.2
  go_wp2_with fail
  refine (RInverse_any a b _).mono ?_
  rintro e w7 ⟨rfl, hB7⟩
  rw [E3.out]
  dsimp only [ratV]
  clear ral ra0 ra1
  replace ra := ra.below hB7
  replace rb := rb.below hB7
  replace rp := rp.below hB7
  replace rq := rq.below hB7
  replace rr := rr.below hB7
  replace rs := rs.below hB7
  replace rt := rt.below hB7
  have g7 : Below w.heap.size w w7 := (by repeat (first | exact Below.refl _ _ | assumption | refine b_then ?_ (by assumption) | refine b_alloc ?_ _ | refine b_drewN ?_ _ | refine b_drew ?_ | refine b_set ?_ (by omega) _ | refine b_set ?_ (by simp) _))
  clear hB7 g6
  have ru := RatAt.new w7 (x3) (y3) 23
  replace ra := ra.alloc (.cells #[.int .i64 (x3), .int .i64 (y3)] 23)
  replace rb := rb.alloc (.cells #[.int .i64 (x3), .int .i64 (y3)] 23)
  replace rp := rp.alloc (.cells #[.int .i64 (x3), .int .i64 (y3)] 23)
  replace rq := rq.alloc (.cells #[.int .i64 (x3), .int .i64 (y3)] 23)
  replace rr := rr.alloc (.cells #[.int .i64 (x3), .int .i64 (y3)] 23)
  replace rs := rs.alloc (.cells #[.int .i64 (x3), .int .i64 (y3)] 23)
  replace rt := rt.alloc (.cells #[.int .i64 (x3), .int .i64 (y3)] 23)
  have ral := ra.1
  have ra0 := ra.2.1
  have ra1 := ra.2.2
  have rbl := rb.1
  have rb0 := rb.2.1
  have rb1 := rb.2.2
  go_wp2_with fail
  refine (Less_any a b c d _).mono ?_
  rintro e w8 ⟨rfl, hB8⟩
  rw [E4.out]
  dsimp only []
  clear ral ra0 ra1 rbl rb0 rb1
  replace ra := ra.below hB8
  replace rb := rb.below hB8
  replace rp := rp.below hB8
  replace rq := rq.below hB8
  replace rr := rr.below hB8
  replace rs := rs.below hB8
  replace rt := rt.below hB8
  replace ru := ru.below hB8
  have g8 : Below w.heap.size w w8 := (by repeat (first | exact Below.refl _ _ | assumption | refine b_then ?_ (by assumption) | refine b_alloc ?_ _ | refine b_drewN ?_ _ | refine b_drew ?_ | refine b_set ?_ (by omega) _ | refine b_set ?_ (by simp) _))
  clear hB8 g7
  have ral := ra.1
  have ra0 := ra.2.1
  have ra1 := ra.2.2
  have rbl := rb.1
  have rb0 := rb.2.1
  have rb1 := rb.2.2
  go_wp2_with fail
  refine (RLess_any a b c d _).mono ?_
  rintro e w9 ⟨rfl, hB9⟩
  rw [E4.out]
  dsimp only []
  clear ral ra0 ra1 rbl rb0 rb1
  replace ra := ra.below hB9
  replace rb := rb.below hB9
  replace rp := rp.below hB9
  replace rq := rq.below hB9
  replace rr := rr.below hB9
  replace rs := rs.below hB9
  replace rt := rt.below hB9
  replace ru := ru.below hB9
  have g9 : Below w.heap.size w w9 := (by repeat (first | exact Below.refl _ _ | assumption | refine b_then ?_ (by assumption) | refine b_alloc ?_ _ | refine b_drewN ?_ _ | refine b_drew ?_ | refine b_set ?_ (by omega) _ | refine b_set ?_ (by simp) _))
  clear hB9 g8
  have ral := ra.1
  have ra0 := ra.2.1
  have ra1 := ra.2.2
  go_wp2_with fail
  refine (Floor_any a b _).mono ?_
  rintro e w10 ⟨rfl, hB10⟩
  rw [E5.out]
  dsimp only []
  clear ral ra0 ra1
  replace ra := ra.below hB10
  replace rb := rb.below hB10
  replace rp := rp.below hB10
  replace rq := rq.below hB10
  replace rr := rr.below hB10
  replace rs := rs.below hB10
  replace rt := rt.below hB10
  replace ru := ru.below hB10
  have g10 : Below w.heap.size w w10 := (by repeat (first | exact Below.refl _ _ | assumption | refine b_then ?_ (by assumption) | refine b_alloc ?_ _ | refine b_drewN ?_ _ | refine b_drew ?_ | refine b_set ?_ (by omega) _ | refine b_set ?_ (by simp) _))
  clear hB10 g9
  have ral := ra.1
  have ra0 := ra.2.1
  have ra1 := ra.2.2
  go_wp2_with fail
  refine (RFloor_any a b _).mono ?_
  rintro e w11 ⟨rfl, hB11⟩
  rw [E5.out]
  dsimp only []
  clear ral ra0 ra1
  replace ra := ra.below hB11
  replace rb := rb.below hB11
  replace rp := rp.below hB11
  replace rq := rq.below hB11
  replace rr := rr.below hB11
  replace rs := rs.below hB11
  replace rt := rt.below hB11
  replace ru := ru.below hB11
  have g11 : Below w.heap.size w w11 := (by repeat (first | exact Below.refl _ _ | assumption | refine b_then ?_ (by assumption) | refine b_alloc ?_ _ | refine b_drewN ?_ _ | refine b_drew ?_ | refine b_set ?_ (by omega) _ | refine b_set ?_ (by simp) _))
  clear hB11 g10
  have ral := ra.1
  have ra0 := ra.2.1
  have ra1 := ra.2.2
  have rbl := rb.1
  have rb0 := rb.2.1
  have rb1 := rb.2.2
  have rpl := rp.1
  have rp0 := rp.2.1
  have rp1 := rp.2.2
  have rql := rq.1
  have rq0 := rq.2.1
  have rq1 := rq.2.2
  have rrl := rr.1
  have rr0 := rr.2.1
  have rr1 := rr.2.2
  have rsl := rs.1
  have rs0 := rs.2.1
  have rs1 := rs.2.2
  have rtl := rt.1
  have rt0 := rt.2.1
  have rt1 := rt.2.2
  have rul := ru.1
  have ru0 := ru.2.1
  have ru1 := ru.2.2
  go_wp2_with fail
  go_ret
  exact ⟨by simp, (by repeat (first | exact Below.refl _ _ | assumption | refine b_then ?_ (by assumption) | refine b_alloc ?_ _ | refine b_drewN ?_ _ | refine b_drew ?_ | refine b_set ?_ (by omega) _ | refine b_set ?_ (by simp) _))⟩

end Go.Proofs.Ytfcibldknamekaa
namespace Go.Proofs.Ytfcibldknamekaa.Spec
open Go.ChangeShapes Go.WideShapes Go.ChangeAt Go.RowKit Go.Joins

theorem own : ownKnob Try.prog.godebug = none := by kernel_rfl
theorem laidOut : laidOutB Try.prog = true := by kernel_rfl
theorem cells23 : Try.prog.cellsOf 23 = 2 := by kernel_rfl

set_option maxRecDepth 100000 in
theorem lifted (os : Os) (started : os.Started) (H : Type) (enc : TypeId × Value → H) :
    ReturnsInHanded {} Try.checked os 6 .any (Rows.rationalSpecSpec.pre6 enc Try.prog Try.f6 Rows.rationalSpecRow.domain false) (Rows.rationalSpecSpec.post enc Try.prog Try.f6 false true false false) := by
  refine returnsInHanded_of_change (C := Try.checked) own started (by kernel_rfl) Try.func6
    (ChangeSpec.witness6 (enc := enc) (C := Try.checked) false ⟨#[], #[.agg #[.int .i64 0, .int .i64 0], .agg #[.int .i64 0, .int .i64 0]], []⟩ 8 (by kernel_rfl) (by kernel_rfl) (by kernel_rfl) (by kernel_rfl)) ?_
  intro W base args ds gs before hval0 hW hcnd _
  have hval : ∀ (j : Nat) t v, Try.f6.params[j]? = some t → args[j]? = some v → Value.okWide Try.prog W .any base t v := hval0
  have hW' := hW
  obtain ⟨p, q, hA0, hV, rfl, hfz, hnd⟩ := hW
  have hA : DataW.TrodAll enc Try.prog W 0 (fun _ => true) true Try.f6.params.toList args.toList ds p := hA0
  rw [Try.params6] at hA hval
  obtain ⟨v0, vs0, d0, ds0, p0, q0, hargs, rfl, rfl, h0, r0⟩ := trodAll_cons hA
  obtain ⟨v1, vs1, d1, ds1, p1, q1, rfl, rfl, rfl, h1, r1⟩ := trodAll_cons r0
  obtain ⟨rfl, rfl, rfl⟩ := trodAll_nil r1
  obtain rfl : args = #[v0, v1] := by cases args; simp_all
  obtain ⟨rfl, rfl⟩ := trodVars_none hV
  have k0 := h0
  have lt0 : ∀ x ∈ p0, x.block < W.heap.size := by obtain ⟨m, hm⟩ := k0; exact DataW.trod_lt m _ _ _ hm
  obtain ⟨c0_0, c0_1, y0_0, y0_1, m0, rfl, rfl, rfl, hy0_0, hy0_1⟩ := open_agg2 Try.underlying23 (by kernel_rfl) cells23 (hval 0 23 v0 rfl rfl) h0
  obtain ⟨b0_0, e0_0, rfl, _⟩ := DataW.trod_int Try.underlying3 hy0_0
  simp at e0_0
  subst e0_0
  obtain ⟨b0_1, e0_1, rfl, _⟩ := DataW.trod_int Try.underlying3 hy0_1
  simp at e0_1
  subst e0_1
  have k1 := h1
  have lt1 : ∀ x ∈ p1, x.block < W.heap.size := by obtain ⟨m, hm⟩ := k1; exact DataW.trod_lt m _ _ _ hm
  obtain ⟨c1_0, c1_1, y1_0, y1_1, m1, rfl, rfl, rfl, hy1_0, hy1_1⟩ := open_agg2 Try.underlying23 (by kernel_rfl) cells23 (hval 1 23 v1 rfl rfl) h1
  obtain ⟨b1_0, e1_0, rfl, _⟩ := DataW.trod_int Try.underlying3 hy1_0
  simp at e1_0
  subst e1_0
  obtain ⟨b1_1, e1_1, rfl, _⟩ := DataW.trod_int Try.underlying3 hy1_1
  simp at e1_1
  subst e1_1
  clear hA0 hval0
  refine (spec_walk b0_0 b0_1 b1_0 b1_1 W).mono fun e W' ⟨he, bel⟩ => ?_
  subst he
  exact ⟨_, rfl, _, _, _, [], _, [], hW', trodAll_mk1 (shut_bool Try.underlying4 _), (trodAll_cons_mk (Below.trod laidOut (by kernel_rfl) (of_decide_eq_true (by kernel_rfl)) k0 bel lt0) (trodAll_cons_mk (Below.trod laidOut (by kernel_rfl) (of_decide_eq_true (by kernel_rfl)) k1 bel lt1) trodAll_mk0)), rfl, bel.frame _, fun h => by cases h⟩

theorem over : Rows.rationalSpecRow.holds Try.pinned (OpenSpec.ofChange Rows.rationalSpecSpec) :=
  OpenClaim.holds_of_wide 6 Try.f6 rfl rfl rfl rfl rfl rfl rfl ⟨rfl, rfl, rfl, rfl, rfl⟩ rfl rfl rfl rfl rfl (by kernel_rfl) Try.func6 (by kernel_rfl)
    (of_decide_eq_true (by kernel_rfl)) (by unfold Func.isWrapper; first | (rw [if_pos (by decide +kernel)]; kernel_rfl) | (rw [if_neg (by decide +kernel)]; exact ⟨rfl, rfl⟩))
    (fun os started H enc _ => lifted os started H enc)
end Go.Proofs.Ytfcibldknamekaa.Spec
namespace Go.Proofs.Ytfcibldknamekaa
/-- The statement. -/
theorem spec_holds : Rows.RationalSpecSaid := Spec.over
end Go.Proofs.Ytfcibldknamekaa
