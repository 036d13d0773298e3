/- Contracts over package rational. -/
import Derived.Test.YtfcibldknamekaaA
import Derived.Test.YtfcibldknamekaaL
namespace Go.Proofs.Ytfcibldknamekaa
open Go.RowKit
open Go.Lib (hid)

theorem isNaN_any (x : Int) (w : World) : Calls Try.prog 36 #[.int .i64 x] w fun e w' => e = .returned (.bool false) ∧ w = w' := by
  go_enter Try.func36, Try.ntmps36
  go_wp2
  go_ret
  exact ⟨by simp, rfl⟩

def cmp3 (x y : Int) : Int := if x < y then -1 else if y < x then 1 else 0

theorem compare_any (x y : Int) (w : World) : Calls Try.prog 35 #[.int .i64 x, .int .i64 y] w fun e w' => e = .returned (.int .i64 (cmp3 x y)) ∧ w = w' := by
  unfold cmp3
  by_cases h1 : x < y
  · go_enter Try.func35, Try.ntmps35
    go_wp2
    go_ret
    exact ⟨by simp, rfl⟩
  · by_cases h2 : y < x
    · go_enter Try.func35, Try.ntmps35
      go_wp2
      go_ret
      exact ⟨by simp, rfl⟩
    · go_enter Try.func35, Try.ntmps35
      go_wp2
      go_ret
      exact ⟨by simp, rfl⟩

theorem sign_any (x : Int) (w : World) : Calls Try.prog 30 #[.int .i64 x] w fun e w' => e = .returned (.int .i64 (cmp3 x 0)) ∧ w = w' := by
  go_enter Try.func30, Try.ntmps30
  go_wp2_with (go_at_call 35; refine (compare_any _ _ _).mono ?_; rintro e w' ⟨rfl, rfl⟩)
  go_ret
  exact ⟨by simp, rfl⟩

theorem below_drewN {B : Nat} {a w : World} (h : Below B a w) (n : Nat) : Below B a (w.drewN n) := ⟨h.os, h.tape, h.output, h.size, h.block⟩
theorem b_then {w a b : World} (h : Below w.heap.size w a) (k : Below a.heap.size a b) : Below w.heap.size w b := h.trans (k.mono h.size)
theorem b_alloc {w a : World} (h : Below w.heap.size w a) (o : Obj) : Below w.heap.size w (a.alloc o) := h.alloc h.size o
theorem b_drewN {w a : World} (h : Below w.heap.size w a) (n : Nat) : Below w.heap.size w (a.drewN n) := below_drewN h n
theorem b_drew {w a : World} (h : Below w.heap.size w a) : Below w.heap.size w a.drew := h.drew
theorem b_set {w a : World} (h : Below w.heap.size w a) {b o : Nat} {f : Option Nat} (hp : w.heap.size ≤ b) (u : Value) : Below w.heap.size w (a.setCell ⟨b, o, f⟩ u) := h.setCell hp u

def RedPost (q : Rat) (w : World) (e : Ending) (w' : World) : Prop :=
  (if Fits q then e = .returned (.agg #[.int .i64 q.num, .int .i64 q.den]) else e = .panicked [{ v := .iface 53 (.agg #[]), recovered := false }]) ∧ Below w.heap.size w w'

theorem redPost_ok {q : Rat} {w w' : World} (h : Fits q) (hb : Below w.heap.size w w') : RedPost q w (.returned (.agg #[.int .i64 q.num, .int .i64 q.den])) w' := ⟨by rw [if_pos h], hb⟩
theorem redPost_no {q : Rat} {w w' : World} (h : ¬ Fits q) (hb : Below w.heap.size w w') : RedPost q w (.panicked [{ v := .iface 53 (.agg #[]), recovered := false }]) w' := ⟨by rw [if_neg h], hb⟩

set_option maxHeartbeats 400000 in
theorem reduce_neg (n d : Int) (w : World) (h0 : -9223372036854775807 ≤ n ∧ n ≤ 9223372036854775807) (h1 : -9223372036854775807 ≤ d ∧ d ≤ 9223372036854775807) (hd : d < 0) :
    Calls Try.prog 26 #[.int .i64 n, .int .i64 d] w (RedPost (Rat.divInt n d) w) := by
  have hg0 := gcd_pos' (n := n) (d := d) (by omega)
  have hg1 := gcd_le' (n := n) (d := d) (by omega)
  have hnum := num_neg n d hd
  have hden := den_neg n d hd
  have hnl := num_le n d
  have hdl := den_le n d (by omega)
  have hs : cmp3 d 0 = -1 := by simp [cmp3, hd]
  generalize Rat.divInt n d = q at hnum hden hnl hdl ⊢
  generalize hG : (Int.gcd n d : Int) = G at hg0 hg1 hnum hden
  have HG := hid hG; clear hG
  have Hs := hid hs; clear hs
  have e1 : wrap64 (-n.tdiv G) = q.num := by
    rw [← Int.tdiv_neg, hnum]; exact IntWalk.wrap64_in _ (by omega)
  have e2 : wrap64 (-d.tdiv G) = q.den := by
    rw [← Int.tdiv_neg, hden]; exact IntWalk.wrap64_in _ (by omega)
  have E1 := hid e1; clear e1
  have E2 := hid e2; clear e2
  clear hnum hden
  go_enter Try.func26, Try.ntmps26
  go_wp2_with fail
  refine (divisor_any _ n d _ h0 h1 (by simp [go_sem]) (by simp [go_sem])).mono ?_
  rintro e w1 ⟨rfl, m, rfl⟩
  rw [HG.out]
  go_wp2_with fail
  refine (sign_any _ _).mono ?_
  rintro e w1 ⟨rfl, rfl⟩
  rw [Hs.out]
  go_wp2_with fail
  have hz : ¬ (-G = 0) := by omega
  go_quiet (fail)
  rw [E1.out, E2.out]
  have hnn : 0 ≤ (q.den : Int) := by omega
  have hF : Hid (Fits q ↔ (q.den : Int) ≤ 2147483647 ∧ q.num ≤ 2147483647 ∧ -2147483647 ≤ q.num) := Iff.rfl
  generalize hN : q.num = N at hnl hF
  generalize hD : (q.den : Int) = D at hnn hF
  have HN := hid hN; clear hN
  have HD := hid hD; clear hD
  clear E1 E2 HG Hs hz hnl hdl hg0 hg1
  by_cases c1 : D ≤ 2147483647
  · by_cases c2 : N ≤ 2147483647
    · by_cases c3 : -2147483647 ≤ N
      · go_wp2
        refine bodyPost_ret (v := .agg #[.int .i64 N, .int .i64 D]) (by simp [results, Try.results26, go_sem]) rfl ?_
        rw [← HN.out, ← HD.out]
        exact redPost_ok (hF.out.2 ⟨c1, c2, c3⟩) (by repeat (first | exact Below.refl _ _ | assumption | refine Below.setCell ?_ (by simp) _ | refine below_drewN ?_ _ | refine Below.drew ?_ | refine Below.alloc ?_ (by simp) _))
      · go_wp2
        exact ⟨rfl, redPost_no (fun h => by have := (hF.out.1 h).2.2; omega) (by repeat (first | exact Below.refl _ _ | assumption | refine Below.setCell ?_ (by simp) _ | refine below_drewN ?_ _ | refine Below.drew ?_ | refine Below.alloc ?_ (by simp) _))⟩
    · go_wp2
      exact ⟨rfl, redPost_no (fun h => by have := (hF.out.1 h).2.1; omega) (by repeat (first | exact Below.refl _ _ | assumption | refine Below.setCell ?_ (by simp) _ | refine below_drewN ?_ _ | refine Below.drew ?_ | refine Below.alloc ?_ (by simp) _))⟩
  · go_wp2
    exact ⟨rfl, redPost_no (fun h => by have := (hF.out.1 h).1; omega) (by repeat (first | exact Below.refl _ _ | assumption | refine Below.setCell ?_ (by simp) _ | refine below_drewN ?_ _ | refine Below.drew ?_ | refine Below.alloc ?_ (by simp) _))⟩

set_option maxHeartbeats 400000 in
theorem reduce_pos (n d : Int) (w : World) (h0 : -9223372036854775807 ≤ n ∧ n ≤ 9223372036854775807) (h1 : -9223372036854775807 ≤ d ∧ d ≤ 9223372036854775807) (hd : 0 < d) :
    Calls Try.prog 26 #[.int .i64 n, .int .i64 d] w (RedPost (Rat.divInt n d) w) := by
  have hg0 := gcd_pos' (n := n) (d := d) (by omega)
  have hg1 := gcd_le' (n := n) (d := d) (by omega)
  have hnum := num_pos n d hd
  have hden := den_pos' n d hd
  have hnl := num_le n d
  have hdl := den_le n d (by omega)
  have hs : cmp3 d 0 = 1 := by simp [cmp3, hd]; omega
  generalize Rat.divInt n d = q at hnum hden hnl hdl ⊢
  generalize hG : (Int.gcd n d : Int) = G at hg0 hg1 hnum hden
  have HG := hid hG; clear hG
  have Hs := hid hs; clear hs
  have e1 : n.tdiv G = q.num := hnum
  have e2 : d / G = q.den := by rw [← hden, Int.tdiv_eq_ediv_of_nonneg (by omega)]
  have E1 := hid e1; clear e1
  have E2 := hid e2; clear e2
  clear hnum hden
  go_enter Try.func26, Try.ntmps26
  go_wp2_with fail
  refine (divisor_any _ n d _ h0 h1 (by simp [go_sem]) (by simp [go_sem])).mono ?_
  rintro e w1 ⟨rfl, m, rfl⟩
  rw [HG.out]
  go_wp2_with fail
  refine (sign_any _ _).mono ?_
  rintro e w1 ⟨rfl, rfl⟩
  rw [Hs.out]
  go_wp2_with fail
  have hz : ¬ (G = 0) := by omega
  go_quiet (fail)
  rw [E1.out, E2.out]
  have hnn : 0 ≤ (q.den : Int) := by omega
  have hF : Hid (Fits q ↔ (q.den : Int) ≤ 2147483647 ∧ q.num ≤ 2147483647 ∧ -2147483647 ≤ q.num) := Iff.rfl
  generalize hN : q.num = N at hnl hF
  generalize hD : (q.den : Int) = D at hnn hF
  have HN := hid hN; clear hN
  have HD := hid hD; clear hD
  clear E1 E2 HG Hs hz hnl hdl hg0 hg1
  by_cases c1 : D ≤ 2147483647
  · by_cases c2 : N ≤ 2147483647
    · by_cases c3 : -2147483647 ≤ N
      · go_wp2
        refine bodyPost_ret (v := .agg #[.int .i64 N, .int .i64 D]) (by simp [results, Try.results26, go_sem]) rfl ?_
        rw [← HN.out, ← HD.out]
        exact redPost_ok (hF.out.2 ⟨c1, c2, c3⟩) (by repeat (first | exact Below.refl _ _ | assumption | refine Below.setCell ?_ (by simp) _ | refine below_drewN ?_ _ | refine Below.drew ?_ | refine Below.alloc ?_ (by simp) _))
      · go_wp2
        exact ⟨rfl, redPost_no (fun h => by have := (hF.out.1 h).2.2; omega) (by repeat (first | exact Below.refl _ _ | assumption | refine Below.setCell ?_ (by simp) _ | refine below_drewN ?_ _ | refine Below.drew ?_ | refine Below.alloc ?_ (by simp) _))⟩
    · go_wp2
      exact ⟨rfl, redPost_no (fun h => by have := (hF.out.1 h).2.1; omega) (by repeat (first | exact Below.refl _ _ | assumption | refine Below.setCell ?_ (by simp) _ | refine below_drewN ?_ _ | refine Below.drew ?_ | refine Below.alloc ?_ (by simp) _))⟩
  · go_wp2
    exact ⟨rfl, redPost_no (fun h => by have := (hF.out.1 h).1; omega) (by repeat (first | exact Below.refl _ _ | assumption | refine Below.setCell ?_ (by simp) _ | refine below_drewN ?_ _ | refine Below.drew ?_ | refine Below.alloc ?_ (by simp) _))⟩

end Go.Proofs.Ytfcibldknamekaa
