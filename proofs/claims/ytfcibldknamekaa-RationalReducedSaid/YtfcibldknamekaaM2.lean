/- For all n, d and k of their kinds: Make reduces n / d, a common factor k does not matter, and what Make returns is valid and equal crosswise. No condition. -/
import Derived.Test.YtfcibldknamekaaK
import Derived.Test.YtfcibldknamekaaP
import Derived.Test.YtfcibldknamekaaRows
import Derived.ProofKit
import Derived.OpenShut
import Derived.Lib.SmallJoins
import Derived.ChangeOld
namespace Go.Proofs.Ytfcibldknamekaa
open Go.RowKit
open Go.Lib (hid)

theorem scale_bd {x k : Int} (h : -2147483648 ≤ x ∧ x ≤ 2147483647) (hk : 0 ≤ k ∧ k ≤ 65535) : -281474976710656 ≤ x * k ∧ x * k ≤ 281474976710656 := by
  have h1 : x.natAbs ≤ 2147483648 := by omega
  have h2 : k.natAbs ≤ 65535 := by omega
  have := Nat.mul_le_mul h1 h2
  rw [← Int.natAbs_mul] at this
  omega

set_option maxHeartbeats 2000000 in
theorem red_d0 (n d k : Int) (hn : -2147483648 ≤ n ∧ n ≤ 2147483647) (hd : -2147483648 ≤ d ∧ d ≤ 2147483647) (hk : 0 ≤ k ∧ k ≤ 65535) (h0 : d = 0) (w : World) :
    Calls Try.prog 4 #[.int .i32 n, .int .i32 d, .int .u16 k] w fun e w' => e = .returned (.bool true) ∧ Below w.heap.size w w' := by
  have p1 := scale_bd hn hk
  have p2 := scale_bd hd hk
  have H1 := hid (makeR_arg (n := n) (d := d) (fun h => h.1 h0))
  have H2 := hid (makeR_arg (n := n * k) (d := d * k) (fun h => h.1 (by rw [h0]; simp)))
  subst h0
  rw [Int.zero_mul] at H2
  go_enter Try.func4, Try.ntmps4
  go_wp2_with fail
  refine (sane_any _).mono ?_
  rintro e w1 ⟨rfl, hB1⟩
  dsimp only []
  have g1 : Below w.heap.size w w1 := (by repeat (first | exact Below.refl _ _ | assumption | refine b_then ?_ (by assumption) | refine b_alloc ?_ _ | refine b_drewN ?_ _ | refine b_drew ?_ | refine b_set ?_ (by omega) _ | refine b_set ?_ (by simp) _))
  clear hB1
  go_wp2_with fail
  refine (Make_any n 0 _).mono ?_
  rintro e w2 ⟨rfl, hB2⟩
  rw [H1.out]
  dsimp only [ratV]
  have g2 : Below w.heap.size w w2 := (by repeat (first | exact Below.refl _ _ | assumption | refine b_then ?_ (by assumption) | refine b_alloc ?_ _ | refine b_drewN ?_ _ | refine b_drew ?_ | refine b_set ?_ (by omega) _ | refine b_set ?_ (by simp) _))
  clear hB2 g1
  have rr := RatAt.new w2 (0) (0) 23
  go_wp2_with fail
  refine (Make_any (n * k) 0 _).mono ?_
  rintro e w3 ⟨rfl, hB3⟩
  rw [H2.out]
  dsimp only [ratV]
  replace rr := rr.below hB3
  have g3 : Below w.heap.size w w3 := (by repeat (first | exact Below.refl _ _ | assumption | refine b_then ?_ (by assumption) | refine b_alloc ?_ _ | refine b_drewN ?_ _ | refine b_drew ?_ | refine b_set ?_ (by omega) _ | refine b_set ?_ (by simp) _))
  clear hB3 g2
  have rs := RatAt.new w3 (0) (0) 23
  replace rr := rr.alloc (.cells #[.int .i64 (0), .int .i64 (0)] 23)
  have rrl := rr.1
  have rr0 := rr.2.1
  have rr1 := rr.2.2
  have rsl := rs.1
  have rs0 := rs.2.1
  have rs1 := rs.2.2
  go_wp2_with fail
  go_ret
  exact ⟨by simp, (by repeat (first | exact Below.refl _ _ | assumption | refine b_then ?_ (by assumption) | refine b_alloc ?_ _ | refine b_drewN ?_ _ | refine b_drew ?_ | refine b_set ?_ (by omega) _ | refine b_set ?_ (by simp) _))⟩

set_option maxHeartbeats 2000000 in
theorem red_k0 (n d k : Int) (hn : -2147483648 ≤ n ∧ n ≤ 2147483647) (hd : -2147483648 ≤ d ∧ d ≤ 2147483647) (hk : 0 ≤ k ∧ k ≤ 65535) (h0 : d ≠ 0) (hk0 : k = 0) (w : World) :
    Calls Try.prog 4 #[.int .i32 n, .int .i32 d, .int .u16 k] w fun e w' => e = .returned (.bool true) ∧ Below w.heap.size w w' := by
  have p1 := scale_bd hn hk
  have p2 := scale_bd hd hk
  obtain ⟨x, y, z, e1⟩ : ∃ x y z, makeR n d = (x, y, z) := ⟨_, _, _, rfl⟩
  have H1 := hid e1
  clear e1
  have H2 := hid (makeR_arg (n := 0) (d := 0) (fun h => h.1 rfl))
  have hb : (d == 0) = false := beq_eq_false_iff_ne.2 h0
  have hb2 : (d != 0) = true := bne_iff_ne.2 h0
  subst hk0
  go_enter Try.func4, Try.ntmps4
  go_wp2_with fail
  refine (sane_any _).mono ?_
  rintro e w1 ⟨rfl, hB1⟩
  dsimp only []
  have g1 : Below w.heap.size w w1 := (by repeat (first | exact Below.refl _ _ | assumption | refine b_then ?_ (by assumption) | refine b_alloc ?_ _ | refine b_drewN ?_ _ | refine b_drew ?_ | refine b_set ?_ (by omega) _ | refine b_set ?_ (by simp) _))
  clear hB1
  go_wp2_with fail
  refine (Make_any n d _).mono ?_
  rintro e w2 ⟨rfl, hB2⟩
  rw [H1.out]
  dsimp only [ratV]
  have g2 : Below w.heap.size w w2 := (by repeat (first | exact Below.refl _ _ | assumption | refine b_then ?_ (by assumption) | refine b_alloc ?_ _ | refine b_drewN ?_ _ | refine b_drew ?_ | refine b_set ?_ (by omega) _ | refine b_set ?_ (by simp) _))
  clear hB2 g1
  have rr := RatAt.new w2 (x) (y) 23
  go_wp2_with fail
  refine (Make_any 0 0 _).mono ?_
  rintro e w3 ⟨rfl, hB3⟩
  rw [H2.out]
  dsimp only [ratV]
  replace rr := rr.below hB3
  have g3 : Below w.heap.size w w3 := (by repeat (first | exact Below.refl _ _ | assumption | refine b_then ?_ (by assumption) | refine b_alloc ?_ _ | refine b_drewN ?_ _ | refine b_drew ?_ | refine b_set ?_ (by omega) _ | refine b_set ?_ (by simp) _))
  clear hB3 g2
  have rs := RatAt.new w3 (0) (0) 23
  replace rr := rr.alloc (.cells #[.int .i64 (0), .int .i64 (0)] 23)
  have rrl := rr.1
  have rr0 := rr.2.1
  have rr1 := rr.2.2
  have rsl := rs.1
  have rs0 := rs.2.1
  have rs1 := rs.2.2
  go_wp2_with fail
  go_ret
  exact ⟨by simp, (by repeat (first | exact Below.refl _ _ | assumption | refine b_then ?_ (by assumption) | refine b_alloc ?_ _ | refine b_drewN ?_ _ | refine b_drew ?_ | refine b_set ?_ (by omega) _ | refine b_set ?_ (by simp) _))⟩

theorem scale2 {x d : Int} (h : -2147483647 ≤ x ∧ x ≤ 2147483647) (hd : -2147483648 ≤ d ∧ d ≤ 2147483648) : -4611686018427387904 ≤ x * d ∧ x * d ≤ 4611686018427387904 := by
  have h1 : x.natAbs ≤ 2147483648 := by omega
  have h2 : d.natAbs ≤ 2147483648 := by omega
  have := Nat.mul_le_mul h1 h2
  rw [← Int.natAbs_mul] at this
  omega

set_option maxHeartbeats 2000000 in
theorem red_ok (n d k : Int) (hn : -2147483648 ≤ n ∧ n ≤ 2147483647) (hd : -2147483648 ≤ d ∧ d ≤ 2147483647) (hk : 0 ≤ k ∧ k ≤ 65535) (h0 : d ≠ 0) (hk0 : k ≠ 0) (hf : Fits (Rat.divInt n d)) (w : World) :
    Calls Try.prog 4 #[.int .i32 n, .int .i32 d, .int .u16 k] w fun e w' => e = .returned (.bool true) ∧ Below w.heap.size w w' := by
  have p1 := scale_bd hn hk
  have p2 := scale_bd hd hk
  have hb : (d == 0) = false := beq_eq_false_iff_ne.2 h0
  have hb2 : (k == 0) = false := beq_eq_false_iff_ne.2 hk0
  have hok : okBounds n d := ⟨h0, by omega, by omega, by omega, by omega⟩
  have hok2 : okBounds (n * k) (d * k) := ⟨Int.mul_ne_zero h0 hk0, by omega, by omega, by omega, by omega⟩
  have hsc := make_scale hk0 hok hok2
  have hv := vld_of_fits hf
  have hcx := cross (n := n) h0
  have e1 := makeR_ok hok hf
  have e2 := hsc.trans e1
  have hfu := hf
  unfold Fits at hfu
  have hnn : 0 ≤ ((Rat.divInt n d).den : Int) := by omega
  generalize (Rat.divInt n d).num = x at hv hcx e1 e2 hfu
  generalize ((Rat.divInt n d).den : Int) = y at hv hcx e1 e2 hfu hnn
  have Hv := hid (chk_ok hv)
  have Hx := hid hcx
  have Q1 := hid (scale2 (x := x) (d := d) (by omega) (by omega))
  have Q2 := hid (scale2 (x := y) (d := n) (by omega) (by omega))
  have H1 := hid e1; have H2 := hid e2
  clear e1 e2 hsc hok hok2 hf hcx hv
  go_enter Try.func4, Try.ntmps4
  go_wp2_with fail
  refine (sane_any _).mono ?_
  rintro e w1 ⟨rfl, hB1⟩
  dsimp only []
  have g1 : Below w.heap.size w w1 := (by repeat (first | exact Below.refl _ _ | assumption | refine b_then ?_ (by assumption) | refine b_alloc ?_ _ | refine b_drewN ?_ _ | refine b_drew ?_ | refine b_set ?_ (by omega) _ | refine b_set ?_ (by simp) _))
  clear hB1
  go_wp2_with fail
  refine (Make_any n d _).mono ?_
  rintro e w2 ⟨rfl, hB2⟩
  rw [H1.out]
  dsimp only [ratV]
  have g2 : Below w.heap.size w w2 := (by repeat (first | exact Below.refl _ _ | assumption | refine b_then ?_ (by assumption) | refine b_alloc ?_ _ | refine b_drewN ?_ _ | refine b_drew ?_ | refine b_set ?_ (by omega) _ | refine b_set ?_ (by simp) _))
  clear hB2 g1
  have rr := RatAt.new w2 (x) (y) 23
  go_wp2_with fail
  refine (Make_any (n * k) (d * k) _).mono ?_
  rintro e w3 ⟨rfl, hB3⟩
  rw [H2.out]
  dsimp only [ratV]
  replace rr := rr.below hB3
  have g3 : Below w.heap.size w w3 := (by repeat (first | exact Below.refl _ _ | assumption | refine b_then ?_ (by assumption) | refine b_alloc ?_ _ | refine b_drewN ?_ _ | refine b_drew ?_ | refine b_set ?_ (by omega) _ | refine b_set ?_ (by simp) _))
  clear hB3 g2
  have rs := RatAt.new w3 (x) (y) 23
  replace rr := rr.alloc (.cells #[.int .i64 (x), .int .i64 (y)] 23)
  have rrl := rr.1
  have rr0 := rr.2.1
  have rr1 := rr.2.2
  have rsl := rs.1
  have rs0 := rs.2.1
  have rs1 := rs.2.2
  go_wp2_with fail
  refine (Check_any _ _ _).mono ?_
  rintro e w4 ⟨rfl, hB4⟩
  rw [Hv.out]
  replace rr := rr.below hB4
  clear rrl rr0 rr1 rsl rs0 rs1
  have rrl := rr.1
  have rr0 := rr.2.1
  have rr1 := rr.2.2
  have g4 : Below w.heap.size w w4 := (by repeat (first | exact Below.refl _ _ | assumption | refine b_then ?_ (by assumption) | refine b_alloc ?_ _ | refine b_drewN ?_ _ | refine b_drew ?_ | refine b_set ?_ (by omega) _ | refine b_set ?_ (by simp) _))
  clear hB4 g3
  have q1 := Q1.out
  have q2 := Q2.out
  have hx := Hx.out
  go_wp2_with fail
  go_ret
  exact ⟨by simp, (by repeat (first | exact Below.refl _ _ | assumption | refine b_then ?_ (by assumption) | refine b_alloc ?_ _ | refine b_drewN ?_ _ | refine b_drew ?_ | refine b_set ?_ (by omega) _ | refine b_set ?_ (by simp) _))⟩

set_option maxHeartbeats 2000000 in
theorem red_no (n d k : Int) (hn : -2147483648 ≤ n ∧ n ≤ 2147483647) (hd : -2147483648 ≤ d ∧ d ≤ 2147483647) (hk : 0 ≤ k ∧ k ≤ 65535) (h0 : d ≠ 0) (hk0 : k ≠ 0) (hf : ¬ Fits (Rat.divInt n d)) (w : World) :
    Calls Try.prog 4 #[.int .i32 n, .int .i32 d, .int .u16 k] w fun e w' => e = .returned (.bool true) ∧ Below w.heap.size w w' := by
  have p1 := scale_bd hn hk
  have p2 := scale_bd hd hk
  have hb : (d == 0) = false := beq_eq_false_iff_ne.2 h0
  have hb2 : (k == 0) = false := beq_eq_false_iff_ne.2 hk0
  have hok : okBounds n d := ⟨h0, by omega, by omega, by omega, by omega⟩
  have hok2 : okBounds (n * k) (d * k) := ⟨Int.mul_ne_zero h0 hk0, by omega, by omega, by omega, by omega⟩
  have hsc := make_scale hk0 hok hok2
  have e1 := makeR_no hok hf
  have e2 := hsc.trans e1
  have hex : n = -2147483648 ∨ d = -2147483648 := by
    have h1 := num_le n d
    have h2 := den_le n d h0
    by_cases h3 : n = -2147483648
    · exact .inl h3
    · by_cases h4 : d = -2147483648
      · exact .inr h4
      · exact absurd ⟨by omega, by omega, by omega⟩ hf
  have H1 := hid e1; have H2 := hid e2
  have Hex := hid hex
  clear e1 e2 hsc hok hok2 hf hex
  go_enter Try.func4, Try.ntmps4
  go_wp2_with fail
  refine (sane_any _).mono ?_
  rintro e w1 ⟨rfl, hB1⟩
  dsimp only []
  have g1 : Below w.heap.size w w1 := (by repeat (first | exact Below.refl _ _ | assumption | refine b_then ?_ (by assumption) | refine b_alloc ?_ _ | refine b_drewN ?_ _ | refine b_drew ?_ | refine b_set ?_ (by omega) _ | refine b_set ?_ (by simp) _))
  clear hB1
  go_wp2_with fail
  refine (Make_any n d _).mono ?_
  rintro e w2 ⟨rfl, hB2⟩
  rw [H1.out]
  dsimp only [ratV]
  have g2 : Below w.heap.size w w2 := (by repeat (first | exact Below.refl _ _ | assumption | refine b_then ?_ (by assumption) | refine b_alloc ?_ _ | refine b_drewN ?_ _ | refine b_drew ?_ | refine b_set ?_ (by omega) _ | refine b_set ?_ (by simp) _))
  clear hB2 g1
  have rr := RatAt.new w2 (0) (0) 23
  go_wp2_with fail
  refine (Make_any (n * k) (d * k) _).mono ?_
  rintro e w3 ⟨rfl, hB3⟩
  rw [H2.out]
  dsimp only [ratV]
  replace rr := rr.below hB3
  have g3 : Below w.heap.size w w3 := (by repeat (first | exact Below.refl _ _ | assumption | refine b_then ?_ (by assumption) | refine b_alloc ?_ _ | refine b_drewN ?_ _ | refine b_drew ?_ | refine b_set ?_ (by omega) _ | refine b_set ?_ (by simp) _))
  clear hB3 g2
  have rs := RatAt.new w3 (0) (0) 23
  replace rr := rr.alloc (.cells #[.int .i64 (0), .int .i64 (0)] 23)
  have rrl := rr.1
  have rr0 := rr.2.1
  have rr1 := rr.2.2
  have rsl := rs.1
  have rs0 := rs.2.1
  have rs1 := rs.2.2
  obtain h | h := Hex.out
  · subst h
    go_wp2_with fail
    go_ret
    exact ⟨by simp, (by repeat (first | exact Below.refl _ _ | assumption | refine b_then ?_ (by assumption) | refine b_alloc ?_ _ | refine b_drewN ?_ _ | refine b_drew ?_ | refine b_set ?_ (by omega) _ | refine b_set ?_ (by simp) _))⟩
  · subst h
    by_cases h5 : n = -2147483648
    · subst h5
      go_wp2_with fail
      go_ret
      exact ⟨by simp, (by repeat (first | exact Below.refl _ _ | assumption | refine b_then ?_ (by assumption) | refine b_alloc ?_ _ | refine b_drewN ?_ _ | refine b_drew ?_ | refine b_set ?_ (by omega) _ | refine b_set ?_ (by simp) _))⟩
    · have h5' : (n == -2147483648) = false := beq_eq_false_iff_ne.2 h5
      go_wp2_with fail
      go_ret
      exact ⟨by simp, (by repeat (first | exact Below.refl _ _ | assumption | refine b_then ?_ (by assumption) | refine b_alloc ?_ _ | refine b_drewN ?_ _ | refine b_drew ?_ | refine b_set ?_ (by omega) _ | refine b_set ?_ (by simp) _))⟩

theorem reduced_walk (n : Int) (wn : (Lit.int .i32 n).wf = true) (d : Int) (wd : (Lit.int .i32 d).wf = true) (k : Int) (wk : (Lit.int .u16 k).wf = true) (w : World) :
    Calls Try.prog 4 #[.int .i32 n, .int .i32 d, .int .u16 k] w fun e w' => e = .returned (.bool true) ∧ Below w.heap.size w w' := by
  have hn := bounds_i32 wn
  have hd := bounds_i32 wd
  have hk := bounds_u16 wk
  by_cases h0 : d = 0
  · exact red_d0 n d k (by omega) (by omega) (by omega) h0 w
  · by_cases hk0 : k = 0
    · exact red_k0 n d k (by omega) (by omega) (by omega) h0 hk0 w
    · by_cases hf : Fits (Rat.divInt n d)
      · exact red_ok n d k (by omega) (by omega) (by omega) h0 hk0 hf w
      · exact red_no n d k (by omega) (by omega) (by omega) h0 hk0 hf w

end Go.Proofs.Ytfcibldknamekaa
namespace Go.Proofs.Ytfcibldknamekaa.Reduced
open Go.ChangeShapes Go.WideShapes Go.ChangeAt Go.RowKit Go.Joins

theorem own : ownKnob Try.prog.godebug = none := by kernel_rfl
theorem laidOut : laidOutB Try.prog = true := by kernel_rfl

set_option maxRecDepth 100000 in
theorem lifted (os : Os) (started : os.Started) (H : Type) (enc : TypeId × Value → H) :
    ReturnsInHanded {} Try.checked os 4 .any (Rows.rationalReducedSpec.pre6 enc Try.prog Try.f4 Rows.rationalReducedRow.domain false) (Rows.rationalReducedSpec.post enc Try.prog Try.f4 false true false false) := by
  refine returnsInHanded_of_change (C := Try.checked) own started (by kernel_rfl) Try.func4
    (ChangeSpec.witness6 (enc := enc) (C := Try.checked) false ⟨#[], #[.int .i32 0, .int .i32 0, .int .u16 0], []⟩ 8 (by kernel_rfl) (by kernel_rfl) (by kernel_rfl) (by kernel_rfl)) ?_
  intro W base args ds gs before hval0 hW hcnd _
  have hval : ∀ (j : Nat) t v, Try.f4.params[j]? = some t → args[j]? = some v → Value.okWide Try.prog W .any base t v := hval0
  have hW' := hW
  obtain ⟨p, q, hA0, hV, rfl, hfz, hnd⟩ := hW
  have hA : DataW.TrodAll enc Try.prog W 0 (fun _ => true) true Try.f4.params.toList args.toList ds p := hA0
  rw [Try.params4] at hA hval
  obtain ⟨v0, vs0, d0, ds0, p0, q0, hargs, rfl, rfl, h0, r0⟩ := trodAll_cons hA
  obtain ⟨v1, vs1, d1, ds1, p1, q1, rfl, rfl, rfl, h1, r1⟩ := trodAll_cons r0
  obtain ⟨v2, vs2, d2, ds2, p2, q2, rfl, rfl, rfl, h2, r2⟩ := trodAll_cons r1
  obtain ⟨rfl, rfl, rfl⟩ := trodAll_nil r2
  obtain rfl : args = #[v0, v1, v2] := by cases args; simp_all
  obtain ⟨rfl, rfl⟩ := trodVars_none hV
  obtain ⟨a0, rfl, rfl, rfl, w0⟩ := open_int Try.underlying21 (hval 0 21 v0 rfl rfl) h0
  obtain ⟨a1, rfl, rfl, rfl, w1⟩ := open_int Try.underlying21 (hval 1 21 v1 rfl rfl) h1
  obtain ⟨a2, rfl, rfl, rfl, w2⟩ := open_int Try.underlying30 (hval 2 30 v2 rfl rfl) h2
  clear hA0 hval0
  refine (reduced_walk a0 w0 a1 w1 a2 w2 W).mono fun e W' ⟨he, bel⟩ => ?_
  subst he
  exact ⟨_, rfl, _, _, _, [], _, [], hW', trodAll_mk1 (shut_bool Try.underlying4 _), (trodAll_cons_mk (shut_int Try.underlying21 w0) (trodAll_cons_mk (shut_int Try.underlying21 w1) (trodAll_cons_mk (shut_int Try.underlying30 w2) trodAll_mk0))), rfl, bel.frame _, fun h => by cases h⟩

theorem over : Rows.rationalReducedRow.holds Try.pinned (OpenSpec.ofChange Rows.rationalReducedSpec) :=
  OpenClaim.holds_of_wide 4 Try.f4 rfl rfl rfl rfl rfl rfl rfl ⟨rfl, rfl, rfl, rfl, rfl⟩ rfl rfl rfl rfl rfl (by kernel_rfl) Try.func4 (by kernel_rfl)
    (of_decide_eq_true (by kernel_rfl)) (by unfold Func.isWrapper; first | (rw [if_pos (by decide +kernel)]; kernel_rfl) | (rw [if_neg (by decide +kernel)]; exact ⟨rfl, rfl⟩))
    (fun os started H enc _ => lifted os started H enc)
end Go.Proofs.Ytfcibldknamekaa.Reduced
namespace Go.Proofs.Ytfcibldknamekaa
/-- The statement. -/
theorem reduced_holds : Rows.RationalReducedSaid := Reduced.over
end Go.Proofs.Ytfcibldknamekaa
