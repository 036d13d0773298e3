/- Contracts over package rational: Add, Mul, Inverse. -/
import Derived.Test.YtfcibldknamekaaE
namespace Go.Proofs.Ytfcibldknamekaa
open Go.RowKit
open Go.Lib (hid)

def calR (a b c d : Int) (q : Rat) : Int × Int × Int := res (Vld a b ∧ Vld c d) q

theorem prod_bd {x y : Int} (h1 : -2147483647 ≤ x ∧ x ≤ 2147483647) (h2 : -2147483647 ≤ y ∧ y ≤ 2147483647) : -4611686014132420609 ≤ x * y ∧ x * y ≤ 4611686014132420609 := by
  have hx : x.natAbs ≤ 2147483647 := by omega
  have hy : y.natAbs ≤ 2147483647 := by omega
  have := Nat.mul_le_mul hx hy
  rw [← Int.natAbs_mul] at this
  omega

theorem prod_pos {x y : Int} (h1 : 1 ≤ x) (h2 : 1 ≤ y) : 1 ≤ x * y := by
  have := Int.mul_pos (show 0 < x by omega) (show 0 < y by omega)
  omega

theorem NeedPost.iff {p q : Prop} {w w' : World} {e : Ending} (h : NeedPost p w e w') (hi : p ↔ q) : NeedPost q w e w' := by
  have := propext hi
  subst this
  exact h

theorem need2 (k : Nat) (a b c d : Int) (w : World) (hb : k < w.heap.size) (h0 : w.cell? ⟨k, 0, none⟩ = some (.int .i64 a)) (h1 : w.cell? ⟨k, 1, none⟩ = some (.int .i64 b)) (h2 : w.cell? ⟨k, 2, none⟩ = some (.int .i64 c)) (h3 : w.cell? ⟨k, 3, none⟩ = some (.int .i64 d)) :
    Calls Try.prog 31 #[.slice (some ⟨k, 0, none⟩) 2 2] w (NeedPost (Vld a b ∧ Vld c d) w) := by
  refine (need_any k 2 (fun i => if i = 0 then a else c) (fun i => if i = 0 then b else d) w (by omega) hb ?_ ?_).mono fun e w' h => h.iff ⟨fun h => ⟨h 0 (by omega), h 1 (by omega)⟩, fun h i hi => ?_⟩
  · intro i hi
    match i, hi with
    | 0, _ => exact h0
    | 1, _ => exact h2
  · intro i hi
    match i, hi with
    | 0, _ => exact h1
    | 1, _ => exact h3
  · match i, hi with
    | 0, _ => exact h.1
    | 1, _ => exact h.2

theorem need1 (k : Nat) (a b : Int) (w : World) (hb : k < w.heap.size) (h0 : w.cell? ⟨k, 0, none⟩ = some (.int .i64 a)) (h1 : w.cell? ⟨k, 1, none⟩ = some (.int .i64 b)) :
    Calls Try.prog 31 #[.slice (some ⟨k, 0, none⟩) 1 1] w (NeedPost (Vld a b) w) := by
  refine (need_any k 1 (fun _ => a) (fun _ => b) w (by omega) hb ?_ ?_).mono fun e w' h => h.iff ⟨fun h => h 0 (by omega), fun h i hi => h⟩
  · intro i hi
    match i, hi with
    | 0, _ => exact h0
  · intro i hi
    match i, hi with
    | 0, _ => exact h1

theorem calR_ok {a b c d : Int} {q : Rat} (h : Vld a b ∧ Vld c d) (hf : Fits q) : calR a b c d q = (q.num, (q.den : Int), 0) := by simp [calR, res, h, hf]
theorem calR_fit {a b c d : Int} {q : Rat} (hf : ¬ Fits q) : calR a b c d q = (0, 0, 70) := by simp [calR, res, hf]
theorem calR_no {a b c d : Int} {q : Rat} (h : ¬ (Vld a b ∧ Vld c d)) : calR a b c d q = (0, 0, 70) := by
  unfold calR res
  rw [if_neg (fun x => h x.1)]

set_option maxHeartbeats 1600000 in
/-- Add. -/
theorem Add_any (a b c d : Int) (w : World) : Calls Try.prog 16 #[.agg #[.int .i64 a, .int .i64 b], .agg #[.int .i64 c, .int .i64 d]] w fun e w' => e = .returned (ratV (calR a b c d (Rat.divInt (a * d + c * b) (b * d)))) ∧ Below w.heap.size w w' := by
  by_cases hv : Vld a b ∧ Vld c d
  · have Hv := hid hv
    obtain ⟨⟨hb1, hb2, ha1, ha2, _⟩, ⟨hd1, hd2, hc1, hc2, _⟩⟩ := hv
    have p1 := prod_bd (x := a) (y := d) (by omega) (by omega)
    have p2 := prod_bd (x := c) (y := b) (by omega) (by omega)
    have p3 := prod_bd (x := b) (y := d) (by omega) (by omega)
    have p5 := prod_bd (x := a) (y := c) (by omega) (by omega)
    have p4 := prod_pos (x := b) (y := d) (by omega) (by omega)
    go_enter_defers Try.func16, Try.ntmps16
    go_wp2_with fail
    refine (need2 _ a b c d _ (by simp) (by simp [go_sem]) (by simp [go_sem]) (by simp [go_sem]) (by simp [go_sem])).mono ?_
    rintro e w1 ⟨⟨_, rfl⟩ | ⟨h, _⟩, hB⟩
    · have hs := hB.size
      simp only [World.size_alloc] at hs
      have hc0 : w1.cell? ⟨w.heap.size, 0, none⟩ = some (.int .i64 a) := (hB.cell (p := ⟨w.heap.size, 0, none⟩) (by simp <;> omega)).trans (by simp [go_sem])
      have hc1 : w1.cell? ⟨w.heap.size, 1, none⟩ = some (.int .i64 b) := (hB.cell (p := ⟨w.heap.size, 1, none⟩) (by simp <;> omega)).trans (by simp [go_sem])
      have hc2 : w1.cell? ⟨w.heap.size + 1, 0, none⟩ = some (.int .i64 c) := (hB.cell (p := ⟨w.heap.size + 1, 0, none⟩) (by simp <;> omega)).trans (by simp [go_sem])
      have hc3 : w1.cell? ⟨w.heap.size + 1, 1, none⟩ = some (.int .i64 d) := (hB.cell (p := ⟨w.heap.size + 1, 1, none⟩) (by simp <;> omega)).trans (by simp [go_sem])
      have hc4 : w1.cell? ⟨w.heap.size + 1 + 1, 0, none⟩ = some (.int .i64 0) := (hB.cell (p := ⟨w.heap.size + 1 + 1, 0, none⟩) (by simp <;> omega)).trans (by simp [go_sem])
      have hc5 : w1.cell? ⟨w.heap.size + 1 + 1, 1, none⟩ = some (.int .i64 0) := (hB.cell (p := ⟨w.heap.size + 1 + 1, 1, none⟩) (by simp <;> omega)).trans (by simp [go_sem])
      have hc6 : w1.cell? ⟨w.heap.size + 1 + 1 + 1, 0, none⟩ = some (.int .i64 0) := (hB.cell (p := ⟨w.heap.size + 1 + 1 + 1, 0, none⟩) (by simp <;> omega)).trans (by simp [go_sem])
      have hf0 : w1.frozen? ⟨w.heap.size, 0, none⟩ = false := (hB.frozen (p := ⟨w.heap.size, 0, none⟩) (by simp <;> omega)).trans (by simp [go_sem])
      have hf1 : w1.frozen? ⟨w.heap.size, 1, none⟩ = false := (hB.frozen (p := ⟨w.heap.size, 1, none⟩) (by simp <;> omega)).trans (by simp [go_sem])
      have hf2 : w1.frozen? ⟨w.heap.size + 1, 0, none⟩ = false := (hB.frozen (p := ⟨w.heap.size + 1, 0, none⟩) (by simp <;> omega)).trans (by simp [go_sem])
      have hf3 : w1.frozen? ⟨w.heap.size + 1, 1, none⟩ = false := (hB.frozen (p := ⟨w.heap.size + 1, 1, none⟩) (by simp <;> omega)).trans (by simp [go_sem])
      have hf4 : w1.frozen? ⟨w.heap.size + 1 + 1, 0, none⟩ = false := (hB.frozen (p := ⟨w.heap.size + 1 + 1, 0, none⟩) (by simp <;> omega)).trans (by simp [go_sem])
      have hf5 : w1.frozen? ⟨w.heap.size + 1 + 1, 1, none⟩ = false := (hB.frozen (p := ⟨w.heap.size + 1 + 1, 1, none⟩) (by simp <;> omega)).trans (by simp [go_sem])
      have hf6 : w1.frozen? ⟨w.heap.size + 1 + 1 + 1, 0, none⟩ = false := (hB.frozen (p := ⟨w.heap.size + 1 + 1 + 1, 0, none⟩) (by simp <;> omega)).trans (by simp [go_sem])
      go_wp2_with fail
      refine (reduce_any _ _ _ (by omega) (by omega) (by omega)).mono ?_
      rintro e w2 ⟨hq, hB2⟩
      have hb' : Below w.heap.size w w1 := (by repeat (first | exact Below.refl _ _ | assumption | refine b_then ?_ (by assumption) | refine b_alloc ?_ _ | refine b_drewN ?_ _ | refine b_drew ?_ | refine b_set ?_ (by omega) _ | refine b_set ?_ (by simp) _))
      have gc0 : w2.cell? ⟨w.heap.size + 1 + 1, 0, none⟩ = some (.int .i64 0) := (hB2.cell (p := ⟨w.heap.size + 1 + 1, 0, none⟩) (by simp only []; omega)).trans hc4
      have gf0 : w2.frozen? ⟨w.heap.size + 1 + 1, 0, none⟩ = false := (hB2.frozen (p := ⟨w.heap.size + 1 + 1, 0, none⟩) (by simp only []; omega)).trans hf4
      have gc1 : w2.cell? ⟨w.heap.size + 1 + 1, 1, none⟩ = some (.int .i64 0) := (hB2.cell (p := ⟨w.heap.size + 1 + 1, 1, none⟩) (by simp only []; omega)).trans hc5
      have gf1 : w2.frozen? ⟨w.heap.size + 1 + 1, 1, none⟩ = false := (hB2.frozen (p := ⟨w.heap.size + 1 + 1, 1, none⟩) (by simp only []; omega)).trans hf5
      have gc2 : w2.cell? ⟨w.heap.size + 1 + 1 + 1, 0, none⟩ = some (.int .i64 0) := (hB2.cell (p := ⟨w.heap.size + 1 + 1 + 1, 0, none⟩) (by simp only []; omega)).trans hc6
      have gf2 : w2.frozen? ⟨w.heap.size + 1 + 1 + 1, 0, none⟩ = false := (hB2.frozen (p := ⟨w.heap.size + 1 + 1 + 1, 0, none⟩) (by simp only []; omega)).trans hf6
      by_cases hf : Fits (Rat.divInt (a * d + c * b) (b * d))
      · have hr := hid (calR_ok Hv.out hf)
        rw [if_pos hf] at hq
        subst hq
        generalize (Rat.divInt (a * d + c * b) (b * d)).num = A at hr ⊢
        generalize ((Rat.divInt (a * d + c * b) (b * d)).den : Int) = B at hr ⊢
        clear p1 p2 p3 p4 p5 hB hc0 hc1 hc2 hc3 hc4 hc5 hc6 hf0 hf1 hf2 hf3 hf4 hf5 hf6
        go_wp2_with fail
        refine leave_ok (r := w.heap.size + 1 + 1) (e := w.heap.size + 1 + 1 + 1) rfl rfl rfl A B 0 (by simp [go_sem, gc0]) (by simp [go_sem, gc1]) (by simp [go_sem, gc2]) ⟨by rw [hr.out], (by repeat (first | exact Below.refl _ _ | assumption | refine b_then ?_ (by assumption) | refine b_alloc ?_ _ | refine b_drewN ?_ _ | refine b_drew ?_ | refine b_set ?_ (by omega) _ | refine b_set ?_ (by simp) _))⟩
      · have hr := hid (calR_fit (a := a) (b := b) (c := c) (d := d) hf)
        rw [if_neg hf] at hq
        subst hq
        clear p1 p2 p3 p4 p5 hB hc0 hc1 hc2 hc3 hc4 hc5 hc6 hf0 hf1 hf2 hf3 hf4 hf5 hf6
        go_wp2_with fail
        refine leave_caught (r := w.heap.size + 1 + 1) (e := w.heap.size + 1 + 1 + 1) rfl rfl rfl _ _ _ gc0 gc1 gc2 gf0 gf1 gf2 (by omega) ⟨by rw [hr.out], (by repeat (first | exact Below.refl _ _ | assumption | refine b_then ?_ (by assumption) | refine b_alloc ?_ _ | refine b_drewN ?_ _ | refine b_drew ?_ | refine b_set ?_ (by omega) _ | refine b_set ?_ (by simp) _))⟩
    · exact absurd Hv.out h
  · have hr := hid (calR_no (q := Rat.divInt (a * d + c * b) (b * d)) hv)
    have Hv := hid hv
    clear hv
    go_enter_defers Try.func16, Try.ntmps16
    go_wp2_with fail
    refine (need2 _ a b c d _ (by simp) (by simp [go_sem]) (by simp [go_sem]) (by simp [go_sem]) (by simp [go_sem])).mono ?_
    rintro e w1 ⟨⟨h, _⟩ | ⟨_, rfl⟩, hB⟩
    · exact absurd h Hv.out
    · have hs := hB.size
      simp only [World.size_alloc] at hs
      have hc0 : w1.cell? ⟨w.heap.size, 0, none⟩ = some (.int .i64 a) := (hB.cell (p := ⟨w.heap.size, 0, none⟩) (by simp <;> omega)).trans (by simp [go_sem])
      have hc1 : w1.cell? ⟨w.heap.size, 1, none⟩ = some (.int .i64 b) := (hB.cell (p := ⟨w.heap.size, 1, none⟩) (by simp <;> omega)).trans (by simp [go_sem])
      have hc2 : w1.cell? ⟨w.heap.size + 1, 0, none⟩ = some (.int .i64 c) := (hB.cell (p := ⟨w.heap.size + 1, 0, none⟩) (by simp <;> omega)).trans (by simp [go_sem])
      have hc3 : w1.cell? ⟨w.heap.size + 1, 1, none⟩ = some (.int .i64 d) := (hB.cell (p := ⟨w.heap.size + 1, 1, none⟩) (by simp <;> omega)).trans (by simp [go_sem])
      have hc4 : w1.cell? ⟨w.heap.size + 1 + 1, 0, none⟩ = some (.int .i64 0) := (hB.cell (p := ⟨w.heap.size + 1 + 1, 0, none⟩) (by simp <;> omega)).trans (by simp [go_sem])
      have hc5 : w1.cell? ⟨w.heap.size + 1 + 1, 1, none⟩ = some (.int .i64 0) := (hB.cell (p := ⟨w.heap.size + 1 + 1, 1, none⟩) (by simp <;> omega)).trans (by simp [go_sem])
      have hc6 : w1.cell? ⟨w.heap.size + 1 + 1 + 1, 0, none⟩ = some (.int .i64 0) := (hB.cell (p := ⟨w.heap.size + 1 + 1 + 1, 0, none⟩) (by simp <;> omega)).trans (by simp [go_sem])
      have hf0 : w1.frozen? ⟨w.heap.size, 0, none⟩ = false := (hB.frozen (p := ⟨w.heap.size, 0, none⟩) (by simp <;> omega)).trans (by simp [go_sem])
      have hf1 : w1.frozen? ⟨w.heap.size, 1, none⟩ = false := (hB.frozen (p := ⟨w.heap.size, 1, none⟩) (by simp <;> omega)).trans (by simp [go_sem])
      have hf2 : w1.frozen? ⟨w.heap.size + 1, 0, none⟩ = false := (hB.frozen (p := ⟨w.heap.size + 1, 0, none⟩) (by simp <;> omega)).trans (by simp [go_sem])
      have hf3 : w1.frozen? ⟨w.heap.size + 1, 1, none⟩ = false := (hB.frozen (p := ⟨w.heap.size + 1, 1, none⟩) (by simp <;> omega)).trans (by simp [go_sem])
      have hf4 : w1.frozen? ⟨w.heap.size + 1 + 1, 0, none⟩ = false := (hB.frozen (p := ⟨w.heap.size + 1 + 1, 0, none⟩) (by simp <;> omega)).trans (by simp [go_sem])
      have hf5 : w1.frozen? ⟨w.heap.size + 1 + 1, 1, none⟩ = false := (hB.frozen (p := ⟨w.heap.size + 1 + 1, 1, none⟩) (by simp <;> omega)).trans (by simp [go_sem])
      have hf6 : w1.frozen? ⟨w.heap.size + 1 + 1 + 1, 0, none⟩ = false := (hB.frozen (p := ⟨w.heap.size + 1 + 1 + 1, 0, none⟩) (by simp <;> omega)).trans (by simp [go_sem])
      go_wp2_with fail
      refine leave_caught (r := w.heap.size + 1 + 1) (e := w.heap.size + 1 + 1 + 1) rfl rfl rfl _ _ _ hc4 hc5 hc6 hf4 hf5 hf6 (by omega) ⟨by rw [hr.out], (by repeat (first | exact Below.refl _ _ | assumption | refine b_then ?_ (by assumption) | refine b_alloc ?_ _ | refine b_drewN ?_ _ | refine b_drew ?_ | refine b_set ?_ (by omega) _ | refine b_set ?_ (by simp) _))⟩

set_option maxHeartbeats 1600000 in
/-- Mul. -/
theorem Mul_any (a b c d : Int) (w : World) : Calls Try.prog 18 #[.agg #[.int .i64 a, .int .i64 b], .agg #[.int .i64 c, .int .i64 d]] w fun e w' => e = .returned (ratV (calR a b c d (Rat.divInt (a * c) (b * d)))) ∧ Below w.heap.size w w' := by
  by_cases hv : Vld a b ∧ Vld c d
  · have Hv := hid hv
    obtain ⟨⟨hb1, hb2, ha1, ha2, _⟩, ⟨hd1, hd2, hc1, hc2, _⟩⟩ := hv
    have p1 := prod_bd (x := a) (y := d) (by omega) (by omega)
    have p2 := prod_bd (x := c) (y := b) (by omega) (by omega)
    have p3 := prod_bd (x := b) (y := d) (by omega) (by omega)
    have p5 := prod_bd (x := a) (y := c) (by omega) (by omega)
    have p4 := prod_pos (x := b) (y := d) (by omega) (by omega)
    go_enter_defers Try.func18, Try.ntmps18
    go_wp2_with fail
    refine (need2 _ a b c d _ (by simp) (by simp [go_sem]) (by simp [go_sem]) (by simp [go_sem]) (by simp [go_sem])).mono ?_
    rintro e w1 ⟨⟨_, rfl⟩ | ⟨h, _⟩, hB⟩
    · have hs := hB.size
      simp only [World.size_alloc] at hs
      have hc0 : w1.cell? ⟨w.heap.size, 0, none⟩ = some (.int .i64 a) := (hB.cell (p := ⟨w.heap.size, 0, none⟩) (by simp <;> omega)).trans (by simp [go_sem])
      have hc1 : w1.cell? ⟨w.heap.size, 1, none⟩ = some (.int .i64 b) := (hB.cell (p := ⟨w.heap.size, 1, none⟩) (by simp <;> omega)).trans (by simp [go_sem])
      have hc2 : w1.cell? ⟨w.heap.size + 1, 0, none⟩ = some (.int .i64 c) := (hB.cell (p := ⟨w.heap.size + 1, 0, none⟩) (by simp <;> omega)).trans (by simp [go_sem])
      have hc3 : w1.cell? ⟨w.heap.size + 1, 1, none⟩ = some (.int .i64 d) := (hB.cell (p := ⟨w.heap.size + 1, 1, none⟩) (by simp <;> omega)).trans (by simp [go_sem])
      have hc4 : w1.cell? ⟨w.heap.size + 1 + 1, 0, none⟩ = some (.int .i64 0) := (hB.cell (p := ⟨w.heap.size + 1 + 1, 0, none⟩) (by simp <;> omega)).trans (by simp [go_sem])
      have hc5 : w1.cell? ⟨w.heap.size + 1 + 1, 1, none⟩ = some (.int .i64 0) := (hB.cell (p := ⟨w.heap.size + 1 + 1, 1, none⟩) (by simp <;> omega)).trans (by simp [go_sem])
      have hc6 : w1.cell? ⟨w.heap.size + 1 + 1 + 1, 0, none⟩ = some (.int .i64 0) := (hB.cell (p := ⟨w.heap.size + 1 + 1 + 1, 0, none⟩) (by simp <;> omega)).trans (by simp [go_sem])
      have hf0 : w1.frozen? ⟨w.heap.size, 0, none⟩ = false := (hB.frozen (p := ⟨w.heap.size, 0, none⟩) (by simp <;> omega)).trans (by simp [go_sem])
      have hf1 : w1.frozen? ⟨w.heap.size, 1, none⟩ = false := (hB.frozen (p := ⟨w.heap.size, 1, none⟩) (by simp <;> omega)).trans (by simp [go_sem])
      have hf2 : w1.frozen? ⟨w.heap.size + 1, 0, none⟩ = false := (hB.frozen (p := ⟨w.heap.size + 1, 0, none⟩) (by simp <;> omega)).trans (by simp [go_sem])
      have hf3 : w1.frozen? ⟨w.heap.size + 1, 1, none⟩ = false := (hB.frozen (p := ⟨w.heap.size + 1, 1, none⟩) (by simp <;> omega)).trans (by simp [go_sem])
      have hf4 : w1.frozen? ⟨w.heap.size + 1 + 1, 0, none⟩ = false := (hB.frozen (p := ⟨w.heap.size + 1 + 1, 0, none⟩) (by simp <;> omega)).trans (by simp [go_sem])
      have hf5 : w1.frozen? ⟨w.heap.size + 1 + 1, 1, none⟩ = false := (hB.frozen (p := ⟨w.heap.size + 1 + 1, 1, none⟩) (by simp <;> omega)).trans (by simp [go_sem])
      have hf6 : w1.frozen? ⟨w.heap.size + 1 + 1 + 1, 0, none⟩ = false := (hB.frozen (p := ⟨w.heap.size + 1 + 1 + 1, 0, none⟩) (by simp <;> omega)).trans (by simp [go_sem])
      go_wp2_with fail
      refine (reduce_any _ _ _ (by omega) (by omega) (by omega)).mono ?_
      rintro e w2 ⟨hq, hB2⟩
      have hb' : Below w.heap.size w w1 := (by repeat (first | exact Below.refl _ _ | assumption | refine b_then ?_ (by assumption) | refine b_alloc ?_ _ | refine b_drewN ?_ _ | refine b_drew ?_ | refine b_set ?_ (by omega) _ | refine b_set ?_ (by simp) _))
      have gc0 : w2.cell? ⟨w.heap.size + 1 + 1, 0, none⟩ = some (.int .i64 0) := (hB2.cell (p := ⟨w.heap.size + 1 + 1, 0, none⟩) (by simp only []; omega)).trans hc4
      have gf0 : w2.frozen? ⟨w.heap.size + 1 + 1, 0, none⟩ = false := (hB2.frozen (p := ⟨w.heap.size + 1 + 1, 0, none⟩) (by simp only []; omega)).trans hf4
      have gc1 : w2.cell? ⟨w.heap.size + 1 + 1, 1, none⟩ = some (.int .i64 0) := (hB2.cell (p := ⟨w.heap.size + 1 + 1, 1, none⟩) (by simp only []; omega)).trans hc5
      have gf1 : w2.frozen? ⟨w.heap.size + 1 + 1, 1, none⟩ = false := (hB2.frozen (p := ⟨w.heap.size + 1 + 1, 1, none⟩) (by simp only []; omega)).trans hf5
      have gc2 : w2.cell? ⟨w.heap.size + 1 + 1 + 1, 0, none⟩ = some (.int .i64 0) := (hB2.cell (p := ⟨w.heap.size + 1 + 1 + 1, 0, none⟩) (by simp only []; omega)).trans hc6
      have gf2 : w2.frozen? ⟨w.heap.size + 1 + 1 + 1, 0, none⟩ = false := (hB2.frozen (p := ⟨w.heap.size + 1 + 1 + 1, 0, none⟩) (by simp only []; omega)).trans hf6
      by_cases hf : Fits (Rat.divInt (a * c) (b * d))
      · have hr := hid (calR_ok Hv.out hf)
        rw [if_pos hf] at hq
        subst hq
        generalize (Rat.divInt (a * c) (b * d)).num = A at hr ⊢
        generalize ((Rat.divInt (a * c) (b * d)).den : Int) = B at hr ⊢
        clear p1 p2 p3 p4 p5 hB hc0 hc1 hc2 hc3 hc4 hc5 hc6 hf0 hf1 hf2 hf3 hf4 hf5 hf6
        go_wp2_with fail
        refine leave_ok (r := w.heap.size + 1 + 1) (e := w.heap.size + 1 + 1 + 1) rfl rfl rfl A B 0 (by simp [go_sem, gc0]) (by simp [go_sem, gc1]) (by simp [go_sem, gc2]) ⟨by rw [hr.out], (by repeat (first | exact Below.refl _ _ | assumption | refine b_then ?_ (by assumption) | refine b_alloc ?_ _ | refine b_drewN ?_ _ | refine b_drew ?_ | refine b_set ?_ (by omega) _ | refine b_set ?_ (by simp) _))⟩
      · have hr := hid (calR_fit (a := a) (b := b) (c := c) (d := d) hf)
        rw [if_neg hf] at hq
        subst hq
        clear p1 p2 p3 p4 p5 hB hc0 hc1 hc2 hc3 hc4 hc5 hc6 hf0 hf1 hf2 hf3 hf4 hf5 hf6
        go_wp2_with fail
        refine leave_caught (r := w.heap.size + 1 + 1) (e := w.heap.size + 1 + 1 + 1) rfl rfl rfl _ _ _ gc0 gc1 gc2 gf0 gf1 gf2 (by omega) ⟨by rw [hr.out], (by repeat (first | exact Below.refl _ _ | assumption | refine b_then ?_ (by assumption) | refine b_alloc ?_ _ | refine b_drewN ?_ _ | refine b_drew ?_ | refine b_set ?_ (by omega) _ | refine b_set ?_ (by simp) _))⟩
    · exact absurd Hv.out h
  · have hr := hid (calR_no (q := Rat.divInt (a * c) (b * d)) hv)
    have Hv := hid hv
    clear hv
    go_enter_defers Try.func18, Try.ntmps18
    go_wp2_with fail
    refine (need2 _ a b c d _ (by simp) (by simp [go_sem]) (by simp [go_sem]) (by simp [go_sem]) (by simp [go_sem])).mono ?_
    rintro e w1 ⟨⟨h, _⟩ | ⟨_, rfl⟩, hB⟩
    · exact absurd h Hv.out
    · have hs := hB.size
      simp only [World.size_alloc] at hs
      have hc0 : w1.cell? ⟨w.heap.size, 0, none⟩ = some (.int .i64 a) := (hB.cell (p := ⟨w.heap.size, 0, none⟩) (by simp <;> omega)).trans (by simp [go_sem])
      have hc1 : w1.cell? ⟨w.heap.size, 1, none⟩ = some (.int .i64 b) := (hB.cell (p := ⟨w.heap.size, 1, none⟩) (by simp <;> omega)).trans (by simp [go_sem])
      have hc2 : w1.cell? ⟨w.heap.size + 1, 0, none⟩ = some (.int .i64 c) := (hB.cell (p := ⟨w.heap.size + 1, 0, none⟩) (by simp <;> omega)).trans (by simp [go_sem])
      have hc3 : w1.cell? ⟨w.heap.size + 1, 1, none⟩ = some (.int .i64 d) := (hB.cell (p := ⟨w.heap.size + 1, 1, none⟩) (by simp <;> omega)).trans (by simp [go_sem])
      have hc4 : w1.cell? ⟨w.heap.size + 1 + 1, 0, none⟩ = some (.int .i64 0) := (hB.cell (p := ⟨w.heap.size + 1 + 1, 0, none⟩) (by simp <;> omega)).trans (by simp [go_sem])
      have hc5 : w1.cell? ⟨w.heap.size + 1 + 1, 1, none⟩ = some (.int .i64 0) := (hB.cell (p := ⟨w.heap.size + 1 + 1, 1, none⟩) (by simp <;> omega)).trans (by simp [go_sem])
      have hc6 : w1.cell? ⟨w.heap.size + 1 + 1 + 1, 0, none⟩ = some (.int .i64 0) := (hB.cell (p := ⟨w.heap.size + 1 + 1 + 1, 0, none⟩) (by simp <;> omega)).trans (by simp [go_sem])
      have hf0 : w1.frozen? ⟨w.heap.size, 0, none⟩ = false := (hB.frozen (p := ⟨w.heap.size, 0, none⟩) (by simp <;> omega)).trans (by simp [go_sem])
      have hf1 : w1.frozen? ⟨w.heap.size, 1, none⟩ = false := (hB.frozen (p := ⟨w.heap.size, 1, none⟩) (by simp <;> omega)).trans (by simp [go_sem])
      have hf2 : w1.frozen? ⟨w.heap.size + 1, 0, none⟩ = false := (hB.frozen (p := ⟨w.heap.size + 1, 0, none⟩) (by simp <;> omega)).trans (by simp [go_sem])
      have hf3 : w1.frozen? ⟨w.heap.size + 1, 1, none⟩ = false := (hB.frozen (p := ⟨w.heap.size + 1, 1, none⟩) (by simp <;> omega)).trans (by simp [go_sem])
      have hf4 : w1.frozen? ⟨w.heap.size + 1 + 1, 0, none⟩ = false := (hB.frozen (p := ⟨w.heap.size + 1 + 1, 0, none⟩) (by simp <;> omega)).trans (by simp [go_sem])
      have hf5 : w1.frozen? ⟨w.heap.size + 1 + 1, 1, none⟩ = false := (hB.frozen (p := ⟨w.heap.size + 1 + 1, 1, none⟩) (by simp <;> omega)).trans (by simp [go_sem])
      have hf6 : w1.frozen? ⟨w.heap.size + 1 + 1 + 1, 0, none⟩ = false := (hB.frozen (p := ⟨w.heap.size + 1 + 1 + 1, 0, none⟩) (by simp <;> omega)).trans (by simp [go_sem])
      go_wp2_with fail
      refine leave_caught (r := w.heap.size + 1 + 1) (e := w.heap.size + 1 + 1 + 1) rfl rfl rfl _ _ _ hc4 hc5 hc6 hf4 hf5 hf6 (by omega) ⟨by rw [hr.out], (by repeat (first | exact Below.refl _ _ | assumption | refine b_then ?_ (by assumption) | refine b_alloc ?_ _ | refine b_drewN ?_ _ | refine b_drew ?_ | refine b_set ?_ (by omega) _ | refine b_set ?_ (by simp) _))⟩

end Go.Proofs.Ytfcibldknamekaa
