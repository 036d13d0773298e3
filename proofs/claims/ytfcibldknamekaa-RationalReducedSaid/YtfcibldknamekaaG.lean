/- Contracts over package rational: Inverse, Less, Floor. -/
import Derived.Test.YtfcibldknamekaaF
namespace Go.Proofs.Ytfcibldknamekaa
open Go.RowKit
open Go.Lib (hid)

def invR (a b : Int) : Int × Int × Int := if Vld a b then (if a = 0 then (0, 0, 1) else res True (Rat.divInt b a)) else (0, 0, 70)
theorem invR_ok {a b : Int} (h : Vld a b) (ha : a ≠ 0) (hf : Fits (Rat.divInt b a)) : invR a b = ((Rat.divInt b a).num, ((Rat.divInt b a).den : Int), 0) := by simp [invR, res, h, ha, hf]
theorem invR_fit {a b : Int} (h : Vld a b) (ha : a ≠ 0) (hf : ¬ Fits (Rat.divInt b a)) : invR a b = (0, 0, 70) := by simp [invR, res, h, ha, hf]
theorem invR_zero {b : Int} (h : Vld 0 b) : invR 0 b = (0, 0, 1) := by simp [invR, h]
theorem invR_no {a b : Int} (h : ¬ Vld a b) : invR a b = (0, 0, 70) := by simp [invR, h]

set_option maxHeartbeats 1600000 in
/-- Inverse. -/
theorem Inverse_any (a b : Int) (w : World) : Calls Try.prog 20 #[.agg #[.int .i64 a, .int .i64 b]] w fun e w' => e = .returned (ratV (invR a b)) ∧ Below w.heap.size w w' := by
  by_cases hv : Vld a b
  · have Hv := hid hv
    obtain ⟨hb1, hb2, ha1, ha2, _⟩ := hv
    by_cases hz : a = 0
    · subst hz
      have hr := hid (invR_zero Hv.out)
      go_enter_defers Try.func20, Try.ntmps20
      go_wp2_with fail
      refine (need1 _ 0 b _ (by simp) (by simp [go_sem]) (by simp [go_sem])).mono ?_
      rintro e w1 ⟨⟨_, rfl⟩ | ⟨h, _⟩, hB⟩
      · have hs := hB.size
        simp only [World.size_alloc] at hs
        have hc0 : w1.cell? ⟨w.heap.size, 0, none⟩ = some (.int .i64 0) := (hB.cell (p := ⟨w.heap.size, 0, none⟩) (by simp <;> omega)).trans (by simp [go_sem])
        have hc1 : w1.cell? ⟨w.heap.size, 1, none⟩ = some (.int .i64 b) := (hB.cell (p := ⟨w.heap.size, 1, none⟩) (by simp <;> omega)).trans (by simp [go_sem])
        have hc2 : w1.cell? ⟨w.heap.size + 1, 0, none⟩ = some (.int .i64 0) := (hB.cell (p := ⟨w.heap.size + 1, 0, none⟩) (by simp <;> omega)).trans (by simp [go_sem])
        have hc3 : w1.cell? ⟨w.heap.size + 1, 1, none⟩ = some (.int .i64 0) := (hB.cell (p := ⟨w.heap.size + 1, 1, none⟩) (by simp <;> omega)).trans (by simp [go_sem])
        have hc4 : w1.cell? ⟨w.heap.size + 1 + 1, 0, none⟩ = some (.int .i64 0) := (hB.cell (p := ⟨w.heap.size + 1 + 1, 0, none⟩) (by simp <;> omega)).trans (by simp [go_sem])
        have hf0 : w1.frozen? ⟨w.heap.size, 0, none⟩ = false := (hB.frozen (p := ⟨w.heap.size, 0, none⟩) (by simp <;> omega)).trans (by simp [go_sem])
        have hf1 : w1.frozen? ⟨w.heap.size, 1, none⟩ = false := (hB.frozen (p := ⟨w.heap.size, 1, none⟩) (by simp <;> omega)).trans (by simp [go_sem])
        have hf2 : w1.frozen? ⟨w.heap.size + 1, 0, none⟩ = false := (hB.frozen (p := ⟨w.heap.size + 1, 0, none⟩) (by simp <;> omega)).trans (by simp [go_sem])
        have hf3 : w1.frozen? ⟨w.heap.size + 1, 1, none⟩ = false := (hB.frozen (p := ⟨w.heap.size + 1, 1, none⟩) (by simp <;> omega)).trans (by simp [go_sem])
        have hf4 : w1.frozen? ⟨w.heap.size + 1 + 1, 0, none⟩ = false := (hB.frozen (p := ⟨w.heap.size + 1 + 1, 0, none⟩) (by simp <;> omega)).trans (by simp [go_sem])
        go_wp2_with fail
        refine (sign_any _ _).mono ?_
        rintro e w2 ⟨rfl, rfl⟩
        rw [show cmp3 0 0 = 0 from by decide]
        go_wp2_with fail
        refine leave_ok (r := w.heap.size + 1) (e := w.heap.size + 1 + 1) rfl rfl rfl 0 0 1 (by simp [go_sem, hc2]) (by simp [go_sem, hc3]) (by simp [go_sem, hc4]) ⟨by rw [hr.out], (by repeat (first | exact Below.refl _ _ | assumption | refine b_then ?_ (by assumption) | refine b_alloc ?_ _ | refine b_drewN ?_ _ | refine b_drew ?_ | refine b_set ?_ (by omega) _ | refine b_set ?_ (by simp) _))⟩
      · exact absurd Hv.out h
    · have hcz : Hid (cmp3 a 0 = -1 ∨ cmp3 a 0 = 1) := by
        unfold cmp3 Hid
        split
        · exact .inl rfl
        · rw [if_pos (by omega)]; exact .inr rfl
      go_enter_defers Try.func20, Try.ntmps20
      go_wp2_with fail
      refine (need1 _ a b _ (by simp) (by simp [go_sem]) (by simp [go_sem])).mono ?_
      rintro e w1 ⟨⟨_, rfl⟩ | ⟨h, _⟩, hB⟩
      · have hs := hB.size
        simp only [World.size_alloc] at hs
        have hb' : Below w.heap.size w w1 := (by repeat (first | exact Below.refl _ _ | assumption | refine b_then ?_ (by assumption) | refine b_alloc ?_ _ | refine b_drewN ?_ _ | refine b_drew ?_ | refine b_set ?_ (by omega) _ | refine b_set ?_ (by simp) _))
        have hc0 : w1.cell? ⟨w.heap.size, 0, none⟩ = some (.int .i64 a) := (hB.cell (p := ⟨w.heap.size, 0, none⟩) (by simp <;> omega)).trans (by simp [go_sem])
        have hc1 : w1.cell? ⟨w.heap.size, 1, none⟩ = some (.int .i64 b) := (hB.cell (p := ⟨w.heap.size, 1, none⟩) (by simp <;> omega)).trans (by simp [go_sem])
        have hc2 : w1.cell? ⟨w.heap.size + 1, 0, none⟩ = some (.int .i64 0) := (hB.cell (p := ⟨w.heap.size + 1, 0, none⟩) (by simp <;> omega)).trans (by simp [go_sem])
        have hc3 : w1.cell? ⟨w.heap.size + 1, 1, none⟩ = some (.int .i64 0) := (hB.cell (p := ⟨w.heap.size + 1, 1, none⟩) (by simp <;> omega)).trans (by simp [go_sem])
        have hc4 : w1.cell? ⟨w.heap.size + 1 + 1, 0, none⟩ = some (.int .i64 0) := (hB.cell (p := ⟨w.heap.size + 1 + 1, 0, none⟩) (by simp <;> omega)).trans (by simp [go_sem])
        have hf0 : w1.frozen? ⟨w.heap.size, 0, none⟩ = false := (hB.frozen (p := ⟨w.heap.size, 0, none⟩) (by simp <;> omega)).trans (by simp [go_sem])
        have hf1 : w1.frozen? ⟨w.heap.size, 1, none⟩ = false := (hB.frozen (p := ⟨w.heap.size, 1, none⟩) (by simp <;> omega)).trans (by simp [go_sem])
        have hf2 : w1.frozen? ⟨w.heap.size + 1, 0, none⟩ = false := (hB.frozen (p := ⟨w.heap.size + 1, 0, none⟩) (by simp <;> omega)).trans (by simp [go_sem])
        have hf3 : w1.frozen? ⟨w.heap.size + 1, 1, none⟩ = false := (hB.frozen (p := ⟨w.heap.size + 1, 1, none⟩) (by simp <;> omega)).trans (by simp [go_sem])
        have hf4 : w1.frozen? ⟨w.heap.size + 1 + 1, 0, none⟩ = false := (hB.frozen (p := ⟨w.heap.size + 1 + 1, 0, none⟩) (by simp <;> omega)).trans (by simp [go_sem])
        go_wp2_with fail
        refine (sign_any _ _).mono ?_
        rintro e w2 ⟨rfl, rfl⟩
        obtain hsg | hsg := hcz.out
        all_goals
          rw [hsg]
          clear hsg hcz
          go_wp2_with fail
          refine (reduce_any _ _ _ (by omega) (by omega) (by omega)).mono ?_
          rintro e w2 ⟨hq, hB2⟩
          have gc0 : w2.cell? ⟨w.heap.size + 1, 0, none⟩ = some (.int .i64 0) := (hB2.cell (p := ⟨w.heap.size + 1, 0, none⟩) (by simp only []; omega)).trans hc2
          have gf0 : w2.frozen? ⟨w.heap.size + 1, 0, none⟩ = false := (hB2.frozen (p := ⟨w.heap.size + 1, 0, none⟩) (by simp only []; omega)).trans hf2
          have gc1 : w2.cell? ⟨w.heap.size + 1, 1, none⟩ = some (.int .i64 0) := (hB2.cell (p := ⟨w.heap.size + 1, 1, none⟩) (by simp only []; omega)).trans hc3
          have gf1 : w2.frozen? ⟨w.heap.size + 1, 1, none⟩ = false := (hB2.frozen (p := ⟨w.heap.size + 1, 1, none⟩) (by simp only []; omega)).trans hf3
          have gc2 : w2.cell? ⟨w.heap.size + 1 + 1, 0, none⟩ = some (.int .i64 0) := (hB2.cell (p := ⟨w.heap.size + 1 + 1, 0, none⟩) (by simp only []; omega)).trans hc4
          have gf2 : w2.frozen? ⟨w.heap.size + 1 + 1, 0, none⟩ = false := (hB2.frozen (p := ⟨w.heap.size + 1 + 1, 0, none⟩) (by simp only []; omega)).trans hf4
          by_cases hf : Fits (Rat.divInt b a)
          · have hr := hid (invR_ok Hv.out hz hf)
            rw [if_pos hf] at hq
            subst hq
            generalize (Rat.divInt b a).num = A at hr ⊢
            generalize ((Rat.divInt b a).den : Int) = B at hr ⊢
            clear hB hc0 hc1 hc2 hc3 hc4 hf0 hf1 hf2 hf3 hf4
            go_wp2_with fail
            refine leave_ok (r := w.heap.size + 1) (e := w.heap.size + 1 + 1) rfl rfl rfl A B 0 (by simp [go_sem, gc0]) (by simp [go_sem, gc1]) (by simp [go_sem, gc2]) ⟨by rw [hr.out], (by repeat (first | exact Below.refl _ _ | assumption | refine b_then ?_ (by assumption) | refine b_alloc ?_ _ | refine b_drewN ?_ _ | refine b_drew ?_ | refine b_set ?_ (by omega) _ | refine b_set ?_ (by simp) _))⟩
          · have hr := hid (invR_fit Hv.out hz hf)
            rw [if_neg hf] at hq
            subst hq
            clear hB hc0 hc1 hc2 hc3 hc4 hf0 hf1 hf2 hf3 hf4
            go_wp2_with fail
            refine leave_caught (r := w.heap.size + 1) (e := w.heap.size + 1 + 1) rfl rfl rfl _ _ _ gc0 gc1 gc2 gf0 gf1 gf2 (by omega) ⟨by rw [hr.out], (by repeat (first | exact Below.refl _ _ | assumption | refine b_then ?_ (by assumption) | refine b_alloc ?_ _ | refine b_drewN ?_ _ | refine b_drew ?_ | refine b_set ?_ (by omega) _ | refine b_set ?_ (by simp) _))⟩
      · exact absurd Hv.out h
  · have hr := hid (invR_no hv)
    have Hv := hid hv
    clear hv
    go_enter_defers Try.func20, Try.ntmps20
    go_wp2_with fail
    refine (need1 _ a b _ (by simp) (by simp [go_sem]) (by simp [go_sem])).mono ?_
    rintro e w1 ⟨⟨h, _⟩ | ⟨_, rfl⟩, hB⟩
    · exact absurd h Hv.out
    · have hs := hB.size
      simp only [World.size_alloc] at hs
      have hc0 : w1.cell? ⟨w.heap.size, 0, none⟩ = some (.int .i64 a) := (hB.cell (p := ⟨w.heap.size, 0, none⟩) (by simp <;> omega)).trans (by simp [go_sem])
      have hc1 : w1.cell? ⟨w.heap.size, 1, none⟩ = some (.int .i64 b) := (hB.cell (p := ⟨w.heap.size, 1, none⟩) (by simp <;> omega)).trans (by simp [go_sem])
      have hc2 : w1.cell? ⟨w.heap.size + 1, 0, none⟩ = some (.int .i64 0) := (hB.cell (p := ⟨w.heap.size + 1, 0, none⟩) (by simp <;> omega)).trans (by simp [go_sem])
      have hc3 : w1.cell? ⟨w.heap.size + 1, 1, none⟩ = some (.int .i64 0) := (hB.cell (p := ⟨w.heap.size + 1, 1, none⟩) (by simp <;> omega)).trans (by simp [go_sem])
      have hc4 : w1.cell? ⟨w.heap.size + 1 + 1, 0, none⟩ = some (.int .i64 0) := (hB.cell (p := ⟨w.heap.size + 1 + 1, 0, none⟩) (by simp <;> omega)).trans (by simp [go_sem])
      have hf0 : w1.frozen? ⟨w.heap.size, 0, none⟩ = false := (hB.frozen (p := ⟨w.heap.size, 0, none⟩) (by simp <;> omega)).trans (by simp [go_sem])
      have hf1 : w1.frozen? ⟨w.heap.size, 1, none⟩ = false := (hB.frozen (p := ⟨w.heap.size, 1, none⟩) (by simp <;> omega)).trans (by simp [go_sem])
      have hf2 : w1.frozen? ⟨w.heap.size + 1, 0, none⟩ = false := (hB.frozen (p := ⟨w.heap.size + 1, 0, none⟩) (by simp <;> omega)).trans (by simp [go_sem])
      have hf3 : w1.frozen? ⟨w.heap.size + 1, 1, none⟩ = false := (hB.frozen (p := ⟨w.heap.size + 1, 1, none⟩) (by simp <;> omega)).trans (by simp [go_sem])
      have hf4 : w1.frozen? ⟨w.heap.size + 1 + 1, 0, none⟩ = false := (hB.frozen (p := ⟨w.heap.size + 1 + 1, 0, none⟩) (by simp <;> omega)).trans (by simp [go_sem])
      go_wp2_with fail
      refine leave_caught (r := w.heap.size + 1) (e := w.heap.size + 1 + 1) rfl rfl rfl _ _ _ hc2 hc3 hc4 hf2 hf3 hf4 (by omega) ⟨by rw [hr.out], (by repeat (first | exact Below.refl _ _ | assumption | refine b_then ?_ (by assumption) | refine b_alloc ?_ _ | refine b_drewN ?_ _ | refine b_drew ?_ | refine b_set ?_ (by omega) _ | refine b_set ?_ (by simp) _))⟩

def lessR (a b c d : Int) : Bool × Int := if Vld a b ∧ Vld c d then (decide (a * d < c * b), 0) else (false, 70)
theorem lessR_ok {a b c d : Int} (h : Vld a b ∧ Vld c d) : lessR a b c d = (decide (a * d < c * b), 0) := if_pos h
theorem lessR_no {a b c d : Int} (h : ¬ (Vld a b ∧ Vld c d)) : lessR a b c d = (false, 70) := if_neg h

theorem cmp3_lt (x : Int) : decide (cmp3 x 0 < 0) = decide (x < 0) := by
  unfold cmp3
  rw [decide_eq_decide]
  split
  · omega
  · split <;> omega

set_option maxHeartbeats 1600000 in
/-- Less. -/
theorem Less_any (a b c d : Int) (w : World) : Calls Try.prog 22 #[.agg #[.int .i64 a, .int .i64 b], .agg #[.int .i64 c, .int .i64 d]] w fun e w' => e = .returned (.tuple #[.bool (lessR a b c d).1, .int .i64 (lessR a b c d).2]) ∧ Below w.heap.size w w' := by
  by_cases hv1 : Vld a b
  · have Hc1 := hid (chk_ok hv1)
    have Hv1 := hid hv1
    by_cases hv2 : Vld c d
    · have Hc2 := hid (chk_ok hv2)
      have Hv2 := hid hv2
      have hr := hid (lessR_ok ⟨hv1, hv2⟩)
      obtain ⟨hb1, hb2, ha1, ha2, _⟩ := hv1
      obtain ⟨hd1, hd2, hc1, hc2, _⟩ := hv2
      have p1 := prod_bd (x := a) (y := d) (by omega) (by omega)
      have p2 := prod_bd (x := c) (y := b) (by omega) (by omega)
      go_enter Try.func22, Try.ntmps22
      go_wp2_with fail
      refine (Check_any _ _ _).mono ?_
      rintro e w1 ⟨rfl, hB⟩
      rw [Hc1.out]
      have hc0 : w1.cell? ⟨w.heap.size, 0, none⟩ = some (.int .i64 a) := (hB.cell (p := ⟨w.heap.size, 0, none⟩) (by simp <;> omega)).trans (by simp [go_sem])
      have hc1 : w1.cell? ⟨w.heap.size, 1, none⟩ = some (.int .i64 b) := (hB.cell (p := ⟨w.heap.size, 1, none⟩) (by simp <;> omega)).trans (by simp [go_sem])
      have hc2 : w1.cell? ⟨w.heap.size + 1, 0, none⟩ = some (.int .i64 c) := (hB.cell (p := ⟨w.heap.size + 1, 0, none⟩) (by simp <;> omega)).trans (by simp [go_sem])
      have hc3 : w1.cell? ⟨w.heap.size + 1, 1, none⟩ = some (.int .i64 d) := (hB.cell (p := ⟨w.heap.size + 1, 1, none⟩) (by simp <;> omega)).trans (by simp [go_sem])
      have hf0 : w1.frozen? ⟨w.heap.size, 0, none⟩ = false := (hB.frozen (p := ⟨w.heap.size, 0, none⟩) (by simp <;> omega)).trans (by simp [go_sem])
      have hf1 : w1.frozen? ⟨w.heap.size, 1, none⟩ = false := (hB.frozen (p := ⟨w.heap.size, 1, none⟩) (by simp <;> omega)).trans (by simp [go_sem])
      have hf2 : w1.frozen? ⟨w.heap.size + 1, 0, none⟩ = false := (hB.frozen (p := ⟨w.heap.size + 1, 0, none⟩) (by simp <;> omega)).trans (by simp [go_sem])
      have hf3 : w1.frozen? ⟨w.heap.size + 1, 1, none⟩ = false := (hB.frozen (p := ⟨w.heap.size + 1, 1, none⟩) (by simp <;> omega)).trans (by simp [go_sem])
      have hs := hB.size
      simp only [World.size_alloc] at hs
      go_wp2_with fail
      refine (Check_any _ _ _).mono ?_
      rintro e w2 ⟨rfl, hB2⟩
      rw [Hc2.out]
      have gc0 : w2.cell? ⟨w.heap.size, 0, none⟩ = some (.int .i64 a) := (hB2.cell (p := ⟨w.heap.size, 0, none⟩) (by simp only []; omega)).trans hc0
      have gf0 : w2.frozen? ⟨w.heap.size, 0, none⟩ = false := (hB2.frozen (p := ⟨w.heap.size, 0, none⟩) (by simp only []; omega)).trans hf0
      have gc1 : w2.cell? ⟨w.heap.size, 1, none⟩ = some (.int .i64 b) := (hB2.cell (p := ⟨w.heap.size, 1, none⟩) (by simp only []; omega)).trans hc1
      have gf1 : w2.frozen? ⟨w.heap.size, 1, none⟩ = false := (hB2.frozen (p := ⟨w.heap.size, 1, none⟩) (by simp only []; omega)).trans hf1
      have gc2 : w2.cell? ⟨w.heap.size + 1, 0, none⟩ = some (.int .i64 c) := (hB2.cell (p := ⟨w.heap.size + 1, 0, none⟩) (by simp only []; omega)).trans hc2
      have gf2 : w2.frozen? ⟨w.heap.size + 1, 0, none⟩ = false := (hB2.frozen (p := ⟨w.heap.size + 1, 0, none⟩) (by simp only []; omega)).trans hf2
      have gc3 : w2.cell? ⟨w.heap.size + 1, 1, none⟩ = some (.int .i64 d) := (hB2.cell (p := ⟨w.heap.size + 1, 1, none⟩) (by simp only []; omega)).trans hc3
      have gf3 : w2.frozen? ⟨w.heap.size + 1, 1, none⟩ = false := (hB2.frozen (p := ⟨w.heap.size + 1, 1, none⟩) (by simp only []; omega)).trans hf3
      have hb' : Below w.heap.size w w1 := (by repeat (first | exact Below.refl _ _ | assumption | refine b_then ?_ (by assumption) | refine b_alloc ?_ _ | refine b_drewN ?_ _ | refine b_drew ?_ | refine b_set ?_ (by omega) _ | refine b_set ?_ (by simp) _))
      clear hB hc0 hc1 hc2 hc3 hf0 hf1 hf2 hf3
      go_wp2_with fail
      refine (sign_any _ _).mono ?_
      rintro e w3 ⟨rfl, rfl⟩
      have hlt := hid (cmp3_lt (a * d - c * b))
      generalize cmp3 (a * d - c * b) 0 = z at hlt ⊢
      go_wp2_with fail
      go_ret2
      refine ⟨?_, (by repeat (first | exact Below.refl _ _ | assumption | refine b_then ?_ (by assumption) | refine b_alloc ?_ _ | refine b_drewN ?_ _ | refine b_drew ?_ | refine b_set ?_ (by omega) _ | refine b_set ?_ (by simp) _))⟩
      rw [hr.out]
      simp [hlt.out]
      omega
    · have Hc2 := hid (chk_no hv2)
      have hr := hid (lessR_no (a := a) (b := b) (c := c) (d := d) (fun h => hv2 h.2))
      go_enter Try.func22, Try.ntmps22
      go_wp2_with fail
      refine (Check_any _ _ _).mono ?_
      rintro e w1 ⟨rfl, hB⟩
      rw [Hc1.out]
      have hc0 : w1.cell? ⟨w.heap.size, 0, none⟩ = some (.int .i64 a) := (hB.cell (p := ⟨w.heap.size, 0, none⟩) (by simp <;> omega)).trans (by simp [go_sem])
      have hc1 : w1.cell? ⟨w.heap.size, 1, none⟩ = some (.int .i64 b) := (hB.cell (p := ⟨w.heap.size, 1, none⟩) (by simp <;> omega)).trans (by simp [go_sem])
      have hc2 : w1.cell? ⟨w.heap.size + 1, 0, none⟩ = some (.int .i64 c) := (hB.cell (p := ⟨w.heap.size + 1, 0, none⟩) (by simp <;> omega)).trans (by simp [go_sem])
      have hc3 : w1.cell? ⟨w.heap.size + 1, 1, none⟩ = some (.int .i64 d) := (hB.cell (p := ⟨w.heap.size + 1, 1, none⟩) (by simp <;> omega)).trans (by simp [go_sem])
      have hf0 : w1.frozen? ⟨w.heap.size, 0, none⟩ = false := (hB.frozen (p := ⟨w.heap.size, 0, none⟩) (by simp <;> omega)).trans (by simp [go_sem])
      have hf1 : w1.frozen? ⟨w.heap.size, 1, none⟩ = false := (hB.frozen (p := ⟨w.heap.size, 1, none⟩) (by simp <;> omega)).trans (by simp [go_sem])
      have hf2 : w1.frozen? ⟨w.heap.size + 1, 0, none⟩ = false := (hB.frozen (p := ⟨w.heap.size + 1, 0, none⟩) (by simp <;> omega)).trans (by simp [go_sem])
      have hf3 : w1.frozen? ⟨w.heap.size + 1, 1, none⟩ = false := (hB.frozen (p := ⟨w.heap.size + 1, 1, none⟩) (by simp <;> omega)).trans (by simp [go_sem])
      go_wp2_with fail
      refine (Check_any _ _ _).mono ?_
      rintro e w2 ⟨rfl, hB2⟩
      rw [Hc2.out]
      have hb' : Below w.heap.size w w1 := (by repeat (first | exact Below.refl _ _ | assumption | refine b_then ?_ (by assumption) | refine b_alloc ?_ _ | refine b_drewN ?_ _ | refine b_drew ?_ | refine b_set ?_ (by omega) _ | refine b_set ?_ (by simp) _))
      clear hB hc0 hc1 hc2 hc3 hf0 hf1 hf2 hf3
      go_wp2_with fail
      go_ret2
      exact ⟨by rw [hr.out]; rfl, (by repeat (first | exact Below.refl _ _ | assumption | refine b_then ?_ (by assumption) | refine b_alloc ?_ _ | refine b_drewN ?_ _ | refine b_drew ?_ | refine b_set ?_ (by omega) _ | refine b_set ?_ (by simp) _))⟩
  · have Hc1 := hid (chk_no hv1)
    have hr := hid (lessR_no (a := a) (b := b) (c := c) (d := d) (fun h => hv1 h.1))
    go_enter Try.func22, Try.ntmps22
    go_wp2_with fail
    refine (Check_any _ _ _).mono ?_
    rintro e w1 ⟨rfl, hB⟩
    rw [Hc1.out]
    go_wp2_with fail
    go_ret2
    exact ⟨by rw [hr.out]; rfl, (by repeat (first | exact Below.refl _ _ | assumption | refine b_then ?_ (by assumption) | refine b_alloc ?_ _ | refine b_drewN ?_ _ | refine b_drew ?_ | refine b_set ?_ (by omega) _ | refine b_set ?_ (by simp) _))⟩

def floorR (a b : Int) : Int × Int := if Vld a b then (a / b, 0) else (0, 70)
theorem floorR_ok {a b : Int} (h : Vld a b) : floorR a b = (a / b, 0) := if_pos h
theorem floorR_no {a b : Int} (h : ¬ Vld a b) : floorR a b = (0, 70) := if_neg h

theorem tdiv_exact {a b : Int} (h : a.tmod b = 0) : a.tdiv b = a / b := Int.tdiv_eq_ediv_of_dvd (Int.dvd_of_tmod_eq_zero h)
theorem tdiv_down {a b : Int} (ha : a < 0) (hb : 1 ≤ b) (h : ¬ a.tmod b = 0) : a.tdiv b - 1 = a / b := by
  rw [Int.tdiv_eq_ediv, if_neg, Int.sign_eq_one_iff_pos.2 (by omega)]
  · omega
  · rintro (h1 | h1)
    · omega
    · exact h (Int.tmod_eq_zero_of_dvd h1)
theorem tdiv_bd {a b : Int} (ha : -2147483647 ≤ a ∧ a ≤ 2147483647) : -2147483647 ≤ a.tdiv b ∧ a.tdiv b ≤ 2147483647 := by
  have h : (a.tdiv b).natAbs ≤ a.natAbs := by rw [Int.natAbs_tdiv]; exact Nat.div_le_self ..
  omega

set_option maxHeartbeats 1600000 in
/-- Floor. -/
theorem Floor_any (a b : Int) (w : World) : Calls Try.prog 15 #[.agg #[.int .i64 a, .int .i64 b]] w fun e w' => e = .returned (.tuple #[.int .i64 (floorR a b).1, .int .i64 (floorR a b).2]) ∧ Below w.heap.size w w' := by
  by_cases hv : Vld a b
  · have Hc := hid (chk_ok hv)
    have hr := hid (floorR_ok hv)
    obtain ⟨hb1, hb2, ha1, ha2, _⟩ := hv
    by_cases hneg : a < 0
    · have hs1 : Hid (cmp3 a 0 = -1) := by unfold cmp3; exact if_pos hneg
      have htb := tdiv_bd (a := a) (b := b) ⟨ha1, ha2⟩
      by_cases hm : a.tmod b = 0
      · have htd := hid (tdiv_exact hm)
        go_enter Try.func15, Try.ntmps15
        go_wp2_with fail
        refine (Check_any _ _ _).mono ?_
        rintro e w1 ⟨rfl, hB⟩
        rw [Hc.out]
        have hc0 : w1.cell? ⟨w.heap.size, 0, none⟩ = some (.int .i64 a) := (hB.cell (p := ⟨w.heap.size, 0, none⟩) (by simp <;> omega)).trans (by simp [go_sem])
        have hc1 : w1.cell? ⟨w.heap.size, 1, none⟩ = some (.int .i64 b) := (hB.cell (p := ⟨w.heap.size, 1, none⟩) (by simp <;> omega)).trans (by simp [go_sem])
        have hf0 : w1.frozen? ⟨w.heap.size, 0, none⟩ = false := (hB.frozen (p := ⟨w.heap.size, 0, none⟩) (by simp <;> omega)).trans (by simp [go_sem])
        have hf1 : w1.frozen? ⟨w.heap.size, 1, none⟩ = false := (hB.frozen (p := ⟨w.heap.size, 1, none⟩) (by simp <;> omega)).trans (by simp [go_sem])
        go_wp2_with fail
        refine (sign_any _ _).mono ?_
        rintro e w3 ⟨rfl, rfl⟩
        rw [hs1.out]
        go_wp2_with fail
        go_ret2
        exact ⟨by rw [hr.out, ← htd.out]; rfl, (by repeat (first | exact Below.refl _ _ | assumption | refine b_then ?_ (by assumption) | refine b_alloc ?_ _ | refine b_drewN ?_ _ | refine b_drew ?_ | refine b_set ?_ (by omega) _ | refine b_set ?_ (by simp) _))⟩
      · have htd := hid (tdiv_down hneg hb1 hm)
        have hmb : (a.tmod b != 0) = true := bne_iff_ne.2 hm
        go_enter Try.func15, Try.ntmps15
        go_wp2_with fail
        refine (Check_any _ _ _).mono ?_
        rintro e w1 ⟨rfl, hB⟩
        rw [Hc.out]
        have hc0 : w1.cell? ⟨w.heap.size, 0, none⟩ = some (.int .i64 a) := (hB.cell (p := ⟨w.heap.size, 0, none⟩) (by simp <;> omega)).trans (by simp [go_sem])
        have hc1 : w1.cell? ⟨w.heap.size, 1, none⟩ = some (.int .i64 b) := (hB.cell (p := ⟨w.heap.size, 1, none⟩) (by simp <;> omega)).trans (by simp [go_sem])
        have hf0 : w1.frozen? ⟨w.heap.size, 0, none⟩ = false := (hB.frozen (p := ⟨w.heap.size, 0, none⟩) (by simp <;> omega)).trans (by simp [go_sem])
        have hf1 : w1.frozen? ⟨w.heap.size, 1, none⟩ = false := (hB.frozen (p := ⟨w.heap.size, 1, none⟩) (by simp <;> omega)).trans (by simp [go_sem])
        go_wp2_with fail
        refine (sign_any _ _).mono ?_
        rintro e w3 ⟨rfl, rfl⟩
        rw [hs1.out]
        go_wp2_with fail
        go_ret2
        exact ⟨by rw [hr.out, ← htd.out]; rfl, (by repeat (first | exact Below.refl _ _ | assumption | refine b_then ?_ (by assumption) | refine b_alloc ?_ _ | refine b_drewN ?_ _ | refine b_drew ?_ | refine b_set ?_ (by omega) _ | refine b_set ?_ (by simp) _))⟩
    · have hs1 : Hid (¬ cmp3 a 0 < 0) := by
        unfold cmp3 Hid
        rw [if_neg hneg]
        split <;> omega
      have hnn : 0 ≤ a := by omega
      go_enter Try.func15, Try.ntmps15
      go_wp2_with fail
      refine (Check_any _ _ _).mono ?_
      rintro e w1 ⟨rfl, hB⟩
      rw [Hc.out]
      have hc0 : w1.cell? ⟨w.heap.size, 0, none⟩ = some (.int .i64 a) := (hB.cell (p := ⟨w.heap.size, 0, none⟩) (by simp <;> omega)).trans (by simp [go_sem])
      have hc1 : w1.cell? ⟨w.heap.size, 1, none⟩ = some (.int .i64 b) := (hB.cell (p := ⟨w.heap.size, 1, none⟩) (by simp <;> omega)).trans (by simp [go_sem])
      have hf0 : w1.frozen? ⟨w.heap.size, 0, none⟩ = false := (hB.frozen (p := ⟨w.heap.size, 0, none⟩) (by simp <;> omega)).trans (by simp [go_sem])
      have hf1 : w1.frozen? ⟨w.heap.size, 1, none⟩ = false := (hB.frozen (p := ⟨w.heap.size, 1, none⟩) (by simp <;> omega)).trans (by simp [go_sem])
      go_wp2_with fail
      refine (sign_any _ _).mono ?_
      rintro e w3 ⟨rfl, rfl⟩
      have hs2 := hs1.out
      generalize cmp3 a 0 = z at hs2 ⊢
      clear hs1
      go_wp2_with fail
      go_ret2
      exact ⟨by rw [hr.out]; rfl, (by repeat (first | exact Below.refl _ _ | assumption | refine b_then ?_ (by assumption) | refine b_alloc ?_ _ | refine b_drewN ?_ _ | refine b_drew ?_ | refine b_set ?_ (by omega) _ | refine b_set ?_ (by simp) _))⟩
  · have Hc := hid (chk_no hv)
    have hr := hid (floorR_no hv)
    go_enter Try.func15, Try.ntmps15
    go_wp2_with fail
    refine (Check_any _ _ _).mono ?_
    rintro e w1 ⟨rfl, hB⟩
    rw [Hc.out]
    go_wp2_with fail
    go_ret2
    exact ⟨by rw [hr.out]; rfl, (by repeat (first | exact Below.refl _ _ | assumption | refine b_then ?_ (by assumption) | refine b_alloc ?_ _ | refine b_drewN ?_ _ | refine b_drew ?_ | refine b_set ?_ (by omega) _ | refine b_set ?_ (by simp) _))⟩

end Go.Proofs.Ytfcibldknamekaa
