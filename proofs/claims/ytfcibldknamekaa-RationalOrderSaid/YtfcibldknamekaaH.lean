/- Contracts over the reference of package rational. -/
import Derived.Test.YtfcibldknamekaaG
namespace Go.Proofs.Ytfcibldknamekaa
open Go.RowKit
open Go.Lib (hid)

set_option maxHeartbeats 400000 in
/-- Divisor. -/
theorem RDivisor_any (a b : Int) (w : World) (ha : 0 ≤ a ∧ a ≤ 9223372036854775807) (hb : 0 ≤ b ∧ b ≤ 9223372036854775807) : Calls Try.prog 33 #[.int .i64 a, .int .i64 b] w fun e w' => e = .returned (.int .i64 (Int.gcd a b)) ∧ w = w' := by
  generalize hG : (Int.gcd a b : Int) = G
  have HG := hid hG; clear hG
  go_enter Try.func33, Try.ntmps33
  go_wp2_with fail
  go_loop [0, 1] (fun k z => ∃ (p q : Int), 0 ≤ p ∧ p ≤ 9223372036854775807 ∧ 0 ≤ q ∧ q ≤ 9223372036854775807 ∧ k = .int .i64 p ∧ z = .int .i64 q ∧ Hid ((Int.gcd p q : Int) = G)) (fun _ z => (intOf z).toNat)
  case atStart => exact ⟨a, b, by omega, by omega, by omega, by omega, rfl, rfl, HG⟩
  case round =>
    obtain ⟨p, q, hp0, hp1, hq0, hq1, rfl, rfl, hG⟩ := hrel
    by_cases hlt : 0 < q
    · have hmod := Int.emod_lt_of_pos p hlt
      have hmod0 := Int.emod_nonneg p (show q ≠ 0 by omega)
      go_wp2_with fail
      go_round
      case rel => exact ⟨q, p % q, by omega, by omega, by omega, by omega, rfl, rfl, by have := hG.out; rw [← gcd_step] at this; exact this⟩
      case measure => simp [intOf]; omega
    · obtain rfl : q = 0 := by omega
      have hpG : Hid (p = G) := by have := hG.out; rw [gcd_zero' p hp0] at this; exact this
      go_wp2_with fail
      go_ret
      exact ⟨by rw [← hpG.out]; rfl, rfl⟩

/-- size. -/
theorem size_any (n : Int) (w : World) (hn : -9223372036854775807 ≤ n ∧ n ≤ 9223372036854775807) : Calls Try.prog 34 #[.int .i64 n] w fun e w' => e = .returned (.int .i64 n.natAbs) ∧ w = w' := by
  by_cases h : n < 0
  · have hr : Hid ((n.natAbs : Int) = -n) := by show _ = _; omega
    go_enter Try.func34, Try.ntmps34
    go_wp2_with fail
    go_ret
    exact ⟨by rw [hr.out]; rfl, rfl⟩
  · have hr : Hid ((n.natAbs : Int) = n) := by show _ = _; omega
    go_enter Try.func34, Try.ntmps34
    go_wp2_with fail
    go_ret
    exact ⟨by rw [hr.out]; rfl, rfl⟩

/-- What 'reduced' answers. -/
def RRed (q : Rat) (w : World) (e : Ending) (w' : World) : Prop :=
  e = .returned (if Fits q then .tuple #[.agg #[.int .i64 q.num, .int .i64 q.den], .bool true] else .tuple #[.agg #[.int .i64 0, .int .i64 0], .bool false]) ∧ Below w.heap.size w w'

set_option maxHeartbeats 800000 in
theorem reduced_neg (n d : Int) (w : World) (h0 : -9223372036854775807 ≤ n ∧ n ≤ 9223372036854775807) (h1 : -9223372036854775807 ≤ d ∧ d ≤ 9223372036854775807) (hd : d < 0) :
    Calls Try.prog 27 #[.int .i64 n, .int .i64 d] w (RRed (Rat.divInt n d) w) := by
  have hg0 := gcd_pos' (n := n) (d := d) (by omega)
  have hg1 := gcd_le' (n := n) (d := d) (by omega)
  have hnum := num_neg n d hd
  have hden := den_neg n d hd
  have hnl := num_le n d
  have hdl := den_le n d (by omega)
  generalize Rat.divInt n d = q at hnum hden hnl hdl ⊢
  have hG : (Int.gcd ((n.natAbs : Nat) : Int) (-d) : Int) = Int.gcd n d := by simp [Int.gcd]
  generalize (Int.gcd n d : Int) = G at hg0 hg1 hnum hden hG
  have HG := hid hG; clear hG
  have e1 : -n.tdiv G = q.num := by rw [← hnum, Int.tdiv_neg]
  have e2 : -d.tdiv G = q.den := by rw [← hden, Int.tdiv_neg]
  have hnn : 0 ≤ (q.den : Int) ∧ (q.den : Int) ≤ 9223372036854775807 := by omega
  have hF : Hid (Fits q ↔ (q.den : Int) ≤ 2147483647 ∧ q.num ≤ 2147483647 ∧ -2147483647 ≤ q.num) := Iff.rfl
  generalize hN : q.num = N at hnl hF e1
  generalize hD : (q.den : Int) = D at hnn hF e2
  have HN := hid hN; clear hN
  have HD := hid hD; clear hD
  have E1 := hid e1; clear e1
  have E2 := hid e2; clear e2
  clear hnum hden
  go_enter Try.func27, Try.ntmps27
  go_wp2_with fail
  refine (size_any _ _ (by omega)).mono ?_
  rintro e w1 ⟨rfl, rfl⟩
  go_wp2_with fail
  refine (RDivisor_any _ _ _ (by omega) (by omega)).mono ?_
  rintro e w1 ⟨rfl, rfl⟩
  rw [HG.out]
  have e1 := E1.out
  have e2 := E2.out
  have hz : ¬ (G = 0) := by omega
  have hNb : -9223372036854775807 ≤ N ∧ N ≤ 9223372036854775807 := by omega
  clear hnl hdl
  by_cases c1 : D ≤ 2147483647
  · by_cases c2 : N ≤ 2147483647
    · by_cases c3 : -2147483647 ≤ N
      · go_wp2_with fail
        refine bodyPost_ret (v := .tuple #[.agg #[.int .i64 N, .int .i64 D], .bool true]) (by simp [results, Try.results27, go_sem]) rfl ⟨?_, (by repeat (first | exact Below.refl _ _ | assumption | refine b_then ?_ (by assumption) | refine b_alloc ?_ _ | refine b_drewN ?_ _ | refine b_drew ?_ | refine b_set ?_ (by omega) _ | refine b_set ?_ (by simp) _))⟩
        rw [if_pos (hF.out.2 ⟨c1, c2, c3⟩), HN.out, HD.out]
      · go_wp2_with fail
        refine bodyPost_ret (v := .tuple #[.agg #[.int .i64 0, .int .i64 0], .bool false]) (by simp [results, Try.results27, go_sem]) rfl ⟨?_, (by repeat (first | exact Below.refl _ _ | assumption | refine b_then ?_ (by assumption) | refine b_alloc ?_ _ | refine b_drewN ?_ _ | refine b_drew ?_ | refine b_set ?_ (by omega) _ | refine b_set ?_ (by simp) _))⟩
        rw [if_neg (fun h => by have := (hF.out.1 h).2.2; omega)]
    · go_wp2_with fail
      refine bodyPost_ret (v := .tuple #[.agg #[.int .i64 0, .int .i64 0], .bool false]) (by simp [results, Try.results27, go_sem]) rfl ⟨?_, (by repeat (first | exact Below.refl _ _ | assumption | refine b_then ?_ (by assumption) | refine b_alloc ?_ _ | refine b_drewN ?_ _ | refine b_drew ?_ | refine b_set ?_ (by omega) _ | refine b_set ?_ (by simp) _))⟩
      rw [if_neg (fun h => by have := (hF.out.1 h).2.1; omega)]
  · go_wp2_with fail
    refine bodyPost_ret (v := .tuple #[.agg #[.int .i64 0, .int .i64 0], .bool false]) (by simp [results, Try.results27, go_sem]) rfl ⟨?_, (by repeat (first | exact Below.refl _ _ | assumption | refine b_then ?_ (by assumption) | refine b_alloc ?_ _ | refine b_drewN ?_ _ | refine b_drew ?_ | refine b_set ?_ (by omega) _ | refine b_set ?_ (by simp) _))⟩
    rw [if_neg (fun h => by have := (hF.out.1 h).1; omega)]

set_option maxHeartbeats 800000 in
theorem reduced_pos (n d : Int) (w : World) (h0 : -9223372036854775807 ≤ n ∧ n ≤ 9223372036854775807) (h1 : -9223372036854775807 ≤ d ∧ d ≤ 9223372036854775807) (hd : 0 < d) :
    Calls Try.prog 27 #[.int .i64 n, .int .i64 d] w (RRed (Rat.divInt n d) w) := by
  have hg0 := gcd_pos' (n := n) (d := d) (by omega)
  have hg1 := gcd_le' (n := n) (d := d) (by omega)
  have hnum := num_pos n d hd
  have hden := den_pos' n d hd
  have hnl := num_le n d
  have hdl := den_le n d (by omega)
  generalize Rat.divInt n d = q at hnum hden hnl hdl ⊢
  have hG : (Int.gcd ((n.natAbs : Nat) : Int) (d) : Int) = Int.gcd n d := by simp [Int.gcd]
  generalize (Int.gcd n d : Int) = G at hg0 hg1 hnum hden hG
  have HG := hid hG; clear hG
  have e1 : n.tdiv G = q.num := by exact hnum
  have e2 : d / G = q.den := by rw [← hden, Int.tdiv_eq_ediv_of_nonneg (by omega)]
  have hnn : 0 ≤ (q.den : Int) ∧ (q.den : Int) ≤ 9223372036854775807 := by omega
  have hF : Hid (Fits q ↔ (q.den : Int) ≤ 2147483647 ∧ q.num ≤ 2147483647 ∧ -2147483647 ≤ q.num) := Iff.rfl
  generalize hN : q.num = N at hnl hF e1
  generalize hD : (q.den : Int) = D at hnn hF e2
  have HN := hid hN; clear hN
  have HD := hid hD; clear hD
  have E1 := hid e1; clear e1
  have E2 := hid e2; clear e2
  clear hnum hden
  go_enter Try.func27, Try.ntmps27
  go_wp2_with fail
  refine (size_any _ _ (by omega)).mono ?_
  rintro e w1 ⟨rfl, rfl⟩
  go_wp2_with fail
  refine (RDivisor_any _ _ _ (by omega) (by omega)).mono ?_
  rintro e w1 ⟨rfl, rfl⟩
  rw [HG.out]
  have e1 := E1.out
  have e2 := E2.out
  have hz : ¬ (G = 0) := by omega
  have hNb : -9223372036854775807 ≤ N ∧ N ≤ 9223372036854775807 := by omega
  clear hnl hdl
  by_cases c1 : D ≤ 2147483647
  · by_cases c2 : N ≤ 2147483647
    · by_cases c3 : -2147483647 ≤ N
      · go_wp2_with fail
        refine bodyPost_ret (v := .tuple #[.agg #[.int .i64 N, .int .i64 D], .bool true]) (by simp [results, Try.results27, go_sem]) rfl ⟨?_, (by repeat (first | exact Below.refl _ _ | assumption | refine b_then ?_ (by assumption) | refine b_alloc ?_ _ | refine b_drewN ?_ _ | refine b_drew ?_ | refine b_set ?_ (by omega) _ | refine b_set ?_ (by simp) _))⟩
        rw [if_pos (hF.out.2 ⟨c1, c2, c3⟩), HN.out, HD.out]
      · go_wp2_with fail
        refine bodyPost_ret (v := .tuple #[.agg #[.int .i64 0, .int .i64 0], .bool false]) (by simp [results, Try.results27, go_sem]) rfl ⟨?_, (by repeat (first | exact Below.refl _ _ | assumption | refine b_then ?_ (by assumption) | refine b_alloc ?_ _ | refine b_drewN ?_ _ | refine b_drew ?_ | refine b_set ?_ (by omega) _ | refine b_set ?_ (by simp) _))⟩
        rw [if_neg (fun h => by have := (hF.out.1 h).2.2; omega)]
    · go_wp2_with fail
      refine bodyPost_ret (v := .tuple #[.agg #[.int .i64 0, .int .i64 0], .bool false]) (by simp [results, Try.results27, go_sem]) rfl ⟨?_, (by repeat (first | exact Below.refl _ _ | assumption | refine b_then ?_ (by assumption) | refine b_alloc ?_ _ | refine b_drewN ?_ _ | refine b_drew ?_ | refine b_set ?_ (by omega) _ | refine b_set ?_ (by simp) _))⟩
      rw [if_neg (fun h => by have := (hF.out.1 h).2.1; omega)]
  · go_wp2_with fail
    refine bodyPost_ret (v := .tuple #[.agg #[.int .i64 0, .int .i64 0], .bool false]) (by simp [results, Try.results27, go_sem]) rfl ⟨?_, (by repeat (first | exact Below.refl _ _ | assumption | refine b_then ?_ (by assumption) | refine b_alloc ?_ _ | refine b_drewN ?_ _ | refine b_drew ?_ | refine b_set ?_ (by omega) _ | refine b_set ?_ (by simp) _))⟩
    rw [if_neg (fun h => by have := (hF.out.1 h).1; omega)]

theorem reduced_any (n d : Int) (w : World) (h0 : -9223372036854775807 ≤ n ∧ n ≤ 9223372036854775807) (h1 : -9223372036854775807 ≤ d ∧ d ≤ 9223372036854775807) (hd : d ≠ 0) :
    Calls Try.prog 27 #[.int .i64 n, .int .i64 d] w (RRed (Rat.divInt n d) w) := by
  rcases Int.lt_or_gt_of_ne hd with h | h
  · exact reduced_neg n d w h0 h1 h
  · exact reduced_pos n d w h0 h1 h

end Go.Proofs.Ytfcibldknamekaa
