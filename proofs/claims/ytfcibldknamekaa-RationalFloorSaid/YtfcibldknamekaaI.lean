/- Contracts over the reference of package rational, its exported functions. -/
import Derived.Test.YtfcibldknamekaaH
namespace Go.Proofs.Ytfcibldknamekaa
open Go.RowKit
open Go.Lib (hid)

/-- Is a pair valid? -/
def vb (N D : Int) : Bool := decide (Vld N D)
theorem vb_ok {N D : Int} (h : Vld N D) : vb N D = true := by simp [vb, h]
theorem vb_no {N D : Int} (h : ¬ Vld N D) : vb N D = false := by simp [vb, h]

theorem quiet_left {P : Program} {f : FuncId} {args : Array Value} {w : World} {n : Nat} {v : Value}
    (h : Calls P f args (w.drewN n) fun e w' => e = .returned v ∧ w.drewN n = w') : Calls P f args (w.drewN n) fun e w'' => e = .returned v ∧ ∃ m, w'' = w.drewN m :=
  h.mono fun _ _ ⟨he, hm⟩ => ⟨he, n, hm.symm⟩

theorem vb_gcd {N D : Int} (c1 : 1 ≤ D) (c2 : D ≤ 2147483647) (c3 : -2147483647 ≤ N) (c4 : N ≤ 2147483647) : vb N D = ((Int.gcd ((N.natAbs : Nat) : Int) D : Int) == 1) := by
  unfold vb Vld
  rw [Bool.eq_iff_iff]
  simp [c1, c2, c3, c4, Int.gcd]

set_option maxHeartbeats 1000000 in
/-- Valid. -/
theorem RValid_any (N D : Int) (w : World) : Calls Try.prog 29 #[.agg #[.int .i64 N, .int .i64 D]] w fun e w' => e = .returned (.bool (vb N D)) ∧ Below w.heap.size w w' := by
  by_cases c1 : 1 ≤ D
  · have b1 : decide (1 ≤ D) = true := by simp; omega
    by_cases c2 : D ≤ 2147483647
    · have b2 : decide (D ≤ 2147483647) = true := by simp; omega
      by_cases c3 : -2147483647 ≤ N
      · have b3 : decide (-2147483647 ≤ N) = true := by simp; omega
        by_cases c4 : N ≤ 2147483647
        · have b4 : decide (N ≤ 2147483647) = true := by simp; omega
          have hv := hid (vb_gcd c1 c2 c3 c4)
          go_enter Try.func29, Try.ntmps29
          go_wp2_with fail
          go_quiet ((first | (go_at_call 34; exact quiet_left (size_any _ _ (by omega))) | (go_at_call 33; exact quiet_left (RDivisor_any _ _ _ (by omega) (by omega)))))
          generalize (Int.gcd ((N.natAbs : Nat) : Int) D : Int) = G at hv ⊢
          go_wp2
          go_ret
          exact ⟨by rw [hv.out]; rfl, (by repeat (first | exact Below.refl _ _ | assumption | refine b_then ?_ (by assumption) | refine b_alloc ?_ _ | refine b_drewN ?_ _ | refine b_drew ?_ | refine b_set ?_ (by omega) _ | refine b_set ?_ (by simp) _))⟩
        · have hv := hid (vb_no (N := N) (D := D) (fun h => c4 h.2.2.2.1))
          have bb : decide (N ≤ 2147483647) = false := by simp; omega
          go_enter Try.func29, Try.ntmps29
          go_wp2_with fail
          go_quiet (fail)
          go_wp2
          go_ret
          exact ⟨by rw [hv.out]; rfl, (by repeat (first | exact Below.refl _ _ | assumption | refine b_then ?_ (by assumption) | refine b_alloc ?_ _ | refine b_drewN ?_ _ | refine b_drew ?_ | refine b_set ?_ (by omega) _ | refine b_set ?_ (by simp) _))⟩
      · have hv := hid (vb_no (N := N) (D := D) (fun h => c3 h.2.2.1))
        have bb : decide (-2147483647 ≤ N) = false := by simp; omega
        go_enter Try.func29, Try.ntmps29
        go_wp2_with fail
        go_quiet (fail)
        go_wp2
        go_ret
        exact ⟨by rw [hv.out]; rfl, (by repeat (first | exact Below.refl _ _ | assumption | refine b_then ?_ (by assumption) | refine b_alloc ?_ _ | refine b_drewN ?_ _ | refine b_drew ?_ | refine b_set ?_ (by omega) _ | refine b_set ?_ (by simp) _))⟩
    · have hv := hid (vb_no (N := N) (D := D) (fun h => c2 h.2.1))
      have bb : decide (D ≤ 2147483647) = false := by simp; omega
      go_enter Try.func29, Try.ntmps29
      go_wp2_with fail
      go_quiet (fail)
      go_wp2
      go_ret
      exact ⟨by rw [hv.out]; rfl, (by repeat (first | exact Below.refl _ _ | assumption | refine b_then ?_ (by assumption) | refine b_alloc ?_ _ | refine b_drewN ?_ _ | refine b_drew ?_ | refine b_set ?_ (by omega) _ | refine b_set ?_ (by simp) _))⟩
  · have hv := hid (vb_no (N := N) (D := D) (fun h => c1 h.1))
    have bb : decide (1 ≤ D) = false := by simp; omega
    go_enter Try.func29, Try.ntmps29
    go_wp2_with fail
    go_quiet (fail)
    go_wp2
    go_ret
    exact ⟨by rw [hv.out]; rfl, (by repeat (first | exact Below.refl _ _ | assumption | refine b_then ?_ (by assumption) | refine b_alloc ?_ _ | refine b_drewN ?_ _ | refine b_drew ?_ | refine b_set ?_ (by omega) _ | refine b_set ?_ (by simp) _))⟩

/-- Check of the reference. -/
theorem RCheck_any (N D : Int) (w : World) : Calls Try.prog 14 #[.agg #[.int .i64 N, .int .i64 D]] w fun e w' => e = .returned (.int .i64 (chk N D)) ∧ Below w.heap.size w w' := by
  by_cases hv : Vld N D
  · have h1 := hid (vb_ok hv)
    have h2 := hid (chk_ok hv)
    go_enter Try.func14, Try.ntmps14
    go_wp2_with fail
    refine (RValid_any _ _ _).mono ?_
    rintro e w1 ⟨rfl, hB⟩
    rw [h1.out]
    go_wp2_with fail
    go_ret
    exact ⟨by rw [h2.out]; rfl, (by repeat (first | exact Below.refl _ _ | assumption | refine b_then ?_ (by assumption) | refine b_alloc ?_ _ | refine b_drewN ?_ _ | refine b_drew ?_ | refine b_set ?_ (by omega) _ | refine b_set ?_ (by simp) _))⟩
  · have h1 := hid (vb_no hv)
    have h2 := hid (chk_no hv)
    go_enter Try.func14, Try.ntmps14
    go_wp2_with fail
    refine (RValid_any _ _ _).mono ?_
    rintro e w1 ⟨rfl, hB⟩
    rw [h1.out]
    go_wp2_with fail
    go_ret
    exact ⟨by rw [h2.out]; rfl, (by repeat (first | exact Below.refl _ _ | assumption | refine b_then ?_ (by assumption) | refine b_alloc ?_ _ | refine b_drewN ?_ _ | refine b_drew ?_ | refine b_set ?_ (by omega) _ | refine b_set ?_ (by simp) _))⟩

theorem down_cases {n d : Int} (hd : 1 ≤ d) : (n.tdiv d = n / d ∧ n / d * d ≤ n) ∨ (n.tdiv d = n / d + 1 ∧ n < (n / d + 1) * d) := by
  have h1 := Int.ediv_mul_le n (show d ≠ 0 by omega)
  have h2 := Int.lt_ediv_add_one_mul_self n (show 0 < d by omega)
  rw [Int.tdiv_eq_ediv]
  split
  · exact .inl ⟨by omega, h1⟩
  · exact .inr ⟨by rw [Int.sign_eq_one_iff_pos.2 (by omega)], h2⟩

theorem down_lt {n d : Int} (hd : 1 ≤ d) (h : n < n.tdiv d * d) : n.tdiv d - 1 = n / d := by
  rcases down_cases (n := n) hd with ⟨h1, h2⟩ | ⟨h1, h2⟩
  · rw [h1] at h; omega
  · omega

theorem down_ge {n d : Int} (hd : 1 ≤ d) (h : n.tdiv d * d ≤ n) : n.tdiv d = n / d := by
  rcases down_cases (n := n) hd with ⟨h1, h2⟩ | ⟨h1, h2⟩
  · exact h1
  · rw [h1] at h; omega

theorem tdiv_mul_bd {n d : Int} (hn : -2147483647 ≤ n ∧ n ≤ 2147483647) : -2147483647 ≤ n.tdiv d * d ∧ n.tdiv d * d ≤ 2147483647 := by
  have h : (n.tdiv d * d).natAbs ≤ n.natAbs := by rw [Int.natAbs_mul, Int.natAbs_tdiv]; exact Nat.div_mul_le_self ..
  omega

set_option maxHeartbeats 400000 in
/-- Down. -/
theorem RDown_any (n d : Int) (w : World) (hn : -2147483647 ≤ n ∧ n ≤ 2147483647) (hd : 1 ≤ d ∧ d ≤ 2147483647) : Calls Try.prog 32 #[.int .i64 n, .int .i64 d] w fun e w' => e = .returned (.int .i64 (n / d)) ∧ w = w' := by
  have htb := tdiv_bd (a := n) (b := d) hn
  have hmb := tdiv_mul_bd (d := d) hn
  by_cases h : n < n.tdiv d * d
  · have hr := hid (down_lt hd.1 h)
    go_enter Try.func32, Try.ntmps32
    go_wp2_with fail
    go_ret
    exact ⟨by rw [← hr.out]; rfl, rfl⟩
  · have hr := hid (down_ge hd.1 (show n.tdiv d * d ≤ n by omega))
    go_enter Try.func32, Try.ntmps32
    go_wp2_with fail
    go_ret
    exact ⟨by rw [← hr.out]; rfl, rfl⟩

/-- Floor of the reference. -/
theorem RFloor_any (a b : Int) (w : World) : Calls Try.prog 24 #[.agg #[.int .i64 a, .int .i64 b]] w fun e w' => e = .returned (.tuple #[.int .i64 (floorR a b).1, .int .i64 (floorR a b).2]) ∧ Below w.heap.size w w' := by
  by_cases hv : Vld a b
  · have Hc := hid (vb_ok hv)
    have hr := hid (floorR_ok hv)
    obtain ⟨hb1, hb2, ha1, ha2, _⟩ := hv
    go_enter Try.func24, Try.ntmps24
    go_wp2_with fail
    refine (RValid_any _ _ _).mono ?_
    rintro e w1 ⟨rfl, hB⟩
    rw [Hc.out]
    have hc0 : w1.cell? ⟨w.heap.size, 0, none⟩ = some (.int .i64 a) := (hB.cell (p := ⟨w.heap.size, 0, none⟩) (by simp <;> omega)).trans (by simp [go_sem])
    have hc1 : w1.cell? ⟨w.heap.size, 1, none⟩ = some (.int .i64 b) := (hB.cell (p := ⟨w.heap.size, 1, none⟩) (by simp <;> omega)).trans (by simp [go_sem])
    have hf0 : w1.frozen? ⟨w.heap.size, 0, none⟩ = false := (hB.frozen (p := ⟨w.heap.size, 0, none⟩) (by simp <;> omega)).trans (by simp [go_sem])
    have hf1 : w1.frozen? ⟨w.heap.size, 1, none⟩ = false := (hB.frozen (p := ⟨w.heap.size, 1, none⟩) (by simp <;> omega)).trans (by simp [go_sem])
    go_wp2_with fail
    refine (RDown_any _ _ _ (by omega) (by omega)).mono ?_
    rintro e w3 ⟨rfl, rfl⟩
    go_wp2_with fail
    go_ret2
    exact ⟨by rw [hr.out]; rfl, (by repeat (first | exact Below.refl _ _ | assumption | refine b_then ?_ (by assumption) | refine b_alloc ?_ _ | refine b_drewN ?_ _ | refine b_drew ?_ | refine b_set ?_ (by omega) _ | refine b_set ?_ (by simp) _))⟩
  · have Hc := hid (vb_no hv)
    have hr := hid (floorR_no hv)
    go_enter Try.func24, Try.ntmps24
    go_wp2_with fail
    refine (RValid_any _ _ _).mono ?_
    rintro e w1 ⟨rfl, hB⟩
    rw [Hc.out]
    go_wp2_with fail
    go_ret2
    exact ⟨by rw [hr.out]; rfl, (by repeat (first | exact Below.refl _ _ | assumption | refine b_then ?_ (by assumption) | refine b_alloc ?_ _ | refine b_drewN ?_ _ | refine b_drew ?_ | refine b_set ?_ (by omega) _ | refine b_set ?_ (by simp) _))⟩

set_option maxHeartbeats 800000 in
/-- Less of the reference. -/
theorem RLess_any (a b c d : Int) (w : World) : Calls Try.prog 23 #[.agg #[.int .i64 a, .int .i64 b], .agg #[.int .i64 c, .int .i64 d]] w fun e w' => e = .returned (.tuple #[.bool (lessR a b c d).1, .int .i64 (lessR a b c d).2]) ∧ Below w.heap.size w w' := by
  by_cases hv1 : Vld a b
  · have Hc1 := hid (vb_ok hv1)
    by_cases hv2 : Vld c d
    · have Hc2 := hid (vb_ok hv2)
      have hr := hid (lessR_ok ⟨hv1, hv2⟩)
      obtain ⟨hb1, hb2, ha1, ha2, _⟩ := hv1
      obtain ⟨hd1, hd2, hc1, hc2, _⟩ := hv2
      have p1 := prod_bd (x := a) (y := d) (by omega) (by omega)
      have p2 := prod_bd (x := c) (y := b) (by omega) (by omega)
      go_enter Try.func23, Try.ntmps23
      go_wp2_with fail
      refine (RValid_any _ _ _).mono ?_
      rintro e w1 ⟨rfl, hB⟩
      rw [Hc1.out]
      have hc0 : w1.cell? ⟨w.heap.size, 0, none⟩ = some (.int .i64 a) := (hB.cell (p := ⟨w.heap.size, 0, none⟩) (by simp <;> omega)).trans (by simp [go_sem])
      have hc1 : w1.cell? ⟨w.heap.size, 1, none⟩ = some (.int .i64 b) := (hB.cell (p := ⟨w.heap.size, 1, none⟩) (by simp <;> omega)).trans (by simp [go_sem])
      have hc2 : w1.cell? ⟨w.heap.size + 1, 0, none⟩ = some (.int .i64 c) := (hB.cell (p := ⟨w.heap.size + 1, 0, none⟩) (by simp <;> omega)).trans (by simp [go_sem])
      have hc3 : w1.cell? ⟨w.heap.size + 1, 1, none⟩ = some (.int .i64 d) := (hB.cell (p := ⟨w.heap.size + 1, 1, none⟩) (by simp <;> omega)).trans (by simp [go_sem])
      have hf0 : w1.frozen? ⟨w.heap.size, 0, none⟩ = false := (hB.frozen (p := ⟨w.heap.size, 0, none⟩) (by simp <;> omega)).trans (by simp [go_sem])
      have hf1 : w1.frozen? ⟨w.heap.size, 1, none⟩ = false := (hB.frozen (p := ⟨w.heap.size, 1, none⟩) (by simp <;> omega)).trans (by simp [go_sem])
      have hf2 : w1.frozen? ⟨w.heap.size + 1, 0, none⟩ = false := (hB.frozen (p := ⟨w.heap.size + 1, 0, none⟩) (by simp <;> omega)).trans (by simp [go_sem])
      have hf3 : w1.frozen? ⟨w.heap.size + 1, 1, none⟩ = false := (hB.frozen (p := ⟨w.heap.size + 1, 1, none⟩) (by simp <;> omega)).trans (by simp [go_sem])
      have hs := hB.size
      simp only [World.size_alloc] at hs
      go_wp2_with fail
      refine (RValid_any _ _ _).mono ?_
      rintro e w2 ⟨rfl, hB2⟩
      rw [Hc2.out]
      have gc0 : w2.cell? ⟨w.heap.size, 0, none⟩ = some (.int .i64 a) := (hB2.cell (p := ⟨w.heap.size, 0, none⟩) (by simp only []; omega)).trans hc0
      have gf0 : w2.frozen? ⟨w.heap.size, 0, none⟩ = false := (hB2.frozen (p := ⟨w.heap.size, 0, none⟩) (by simp only []; omega)).trans hf0
      have gc1 : w2.cell? ⟨w.heap.size, 1, none⟩ = some (.int .i64 b) := (hB2.cell (p := ⟨w.heap.size, 1, none⟩) (by simp only []; omega)).trans hc1
      have gf1 : w2.frozen? ⟨w.heap.size, 1, none⟩ = false := (hB2.frozen (p := ⟨w.heap.size, 1, none⟩) (by simp only []; omega)).trans hf1
      have gc2 : w2.cell? ⟨w.heap.size + 1, 0, none⟩ = some (.int .i64 c) := (hB2.cell (p := ⟨w.heap.size + 1, 0, none⟩) (by simp only []; omega)).trans hc2
      have gf2 : w2.frozen? ⟨w.heap.size + 1, 0, none⟩ = false := (hB2.frozen (p := ⟨w.heap.size + 1, 0, none⟩) (by simp only []; omega)).trans hf2
      have gc3 : w2.cell? ⟨w.heap.size + 1, 1, none⟩ = some (.int .i64 d) := (hB2.cell (p := ⟨w.heap.size + 1, 1, none⟩) (by simp only []; omega)).trans hc3
      have gf3 : w2.frozen? ⟨w.heap.size + 1, 1, none⟩ = false := (hB2.frozen (p := ⟨w.heap.size + 1, 1, none⟩) (by simp only []; omega)).trans hf3
      have hb' : Below w.heap.size w w1 := (by repeat (first | exact Below.refl _ _ | assumption | refine b_then ?_ (by assumption) | refine b_alloc ?_ _ | refine b_drewN ?_ _ | refine b_drew ?_ | refine b_set ?_ (by omega) _ | refine b_set ?_ (by simp) _))
      clear hB hc0 hc1 hc2 hc3 hf0 hf1 hf2 hf3
      go_wp2_with fail
      go_ret2
      exact ⟨by rw [hr.out]; rfl, (by repeat (first | exact Below.refl _ _ | assumption | refine b_then ?_ (by assumption) | refine b_alloc ?_ _ | refine b_drewN ?_ _ | refine b_drew ?_ | refine b_set ?_ (by omega) _ | refine b_set ?_ (by simp) _))⟩
    · have Hc2 := hid (vb_no hv2)
      have hr := hid (lessR_no (a := a) (b := b) (c := c) (d := d) (fun h => hv2 h.2))
      go_enter Try.func23, Try.ntmps23
      go_wp2_with fail
      refine (RValid_any _ _ _).mono ?_
      rintro e w1 ⟨rfl, hB⟩
      rw [Hc1.out]
      have hc0 : w1.cell? ⟨w.heap.size, 0, none⟩ = some (.int .i64 a) := (hB.cell (p := ⟨w.heap.size, 0, none⟩) (by simp <;> omega)).trans (by simp [go_sem])
      have hc1 : w1.cell? ⟨w.heap.size, 1, none⟩ = some (.int .i64 b) := (hB.cell (p := ⟨w.heap.size, 1, none⟩) (by simp <;> omega)).trans (by simp [go_sem])
      have hc2 : w1.cell? ⟨w.heap.size + 1, 0, none⟩ = some (.int .i64 c) := (hB.cell (p := ⟨w.heap.size + 1, 0, none⟩) (by simp <;> omega)).trans (by simp [go_sem])
      have hc3 : w1.cell? ⟨w.heap.size + 1, 1, none⟩ = some (.int .i64 d) := (hB.cell (p := ⟨w.heap.size + 1, 1, none⟩) (by simp <;> omega)).trans (by simp [go_sem])
      have hf0 : w1.frozen? ⟨w.heap.size, 0, none⟩ = false := (hB.frozen (p := ⟨w.heap.size, 0, none⟩) (by simp <;> omega)).trans (by simp [go_sem])
      have hf1 : w1.frozen? ⟨w.heap.size, 1, none⟩ = false := (hB.frozen (p := ⟨w.heap.size, 1, none⟩) (by simp <;> omega)).trans (by simp [go_sem])
      have hf2 : w1.frozen? ⟨w.heap.size + 1, 0, none⟩ = false := (hB.frozen (p := ⟨w.heap.size + 1, 0, none⟩) (by simp <;> omega)).trans (by simp [go_sem])
      have hf3 : w1.frozen? ⟨w.heap.size + 1, 1, none⟩ = false := (hB.frozen (p := ⟨w.heap.size + 1, 1, none⟩) (by simp <;> omega)).trans (by simp [go_sem])
      go_wp2_with fail
      refine (RValid_any _ _ _).mono ?_
      rintro e w2 ⟨rfl, hB2⟩
      rw [Hc2.out]
      have hb' : Below w.heap.size w w1 := (by repeat (first | exact Below.refl _ _ | assumption | refine b_then ?_ (by assumption) | refine b_alloc ?_ _ | refine b_drewN ?_ _ | refine b_drew ?_ | refine b_set ?_ (by omega) _ | refine b_set ?_ (by simp) _))
      clear hB hc0 hc1 hc2 hc3 hf0 hf1 hf2 hf3
      go_wp2_with fail
      go_ret2
      exact ⟨by rw [hr.out]; rfl, (by repeat (first | exact Below.refl _ _ | assumption | refine b_then ?_ (by assumption) | refine b_alloc ?_ _ | refine b_drewN ?_ _ | refine b_drew ?_ | refine b_set ?_ (by omega) _ | refine b_set ?_ (by simp) _))⟩
  · have Hc1 := hid (vb_no hv1)
    have hr := hid (lessR_no (a := a) (b := b) (c := c) (d := d) (fun h => hv1 h.1))
    go_enter Try.func23, Try.ntmps23
    go_wp2_with fail
    refine (RValid_any _ _ _).mono ?_
    rintro e w1 ⟨rfl, hB⟩
    rw [Hc1.out]
    go_wp2_with fail
    go_ret2
    exact ⟨by rw [hr.out]; rfl, (by repeat (first | exact Below.refl _ _ | assumption | refine b_then ?_ (by assumption) | refine b_alloc ?_ _ | refine b_drewN ?_ _ | refine b_drew ?_ | refine b_set ?_ (by omega) _ | refine b_set ?_ (by simp) _))⟩

end Go.Proofs.Ytfcibldknamekaa
