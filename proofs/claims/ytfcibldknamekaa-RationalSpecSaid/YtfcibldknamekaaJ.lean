/- Contracts over the reference of package rational: Make, Add, Mul, Inverse. -/
import Derived.Test.YtfcibldknamekaaI
namespace Go.Proofs.Ytfcibldknamekaa
open Go.RowKit
open Go.Lib (hid)

theorem res_tmp {fn : Func} {tmps : Array Value} {w : World} {r : Nat} {t u : Tmp} (hres : fn.results = #[.cell t 23, .tmp u]) (ht : tmps.getD t undef = .pointer (some ⟨r, 0, none⟩)) (N D E : Int) (hu : tmps.getD u undef = .int .i64 E)
    (hc0 : w.cell? ⟨r, 0, none⟩ = some (.int .i64 N)) (hc1 : w.cell? ⟨r, 1, none⟩ = some (.int .i64 D)) :
    (results fn tmps).run Try.prog w = .ok (ratV (N, D, E)) w := by
  simp only [Array.getD_eq_getD_getElem?] at ht hu
  simp [results, hres, go_sem, ht, hu, hc0, hc1, ratV]

set_option maxHeartbeats 1600000 in
/-- Make of the reference. -/
theorem RMake_any (n d : Int) (w : World) : Calls Try.prog 12 #[.int .i64 n, .int .i64 d] w fun e w' => e = .returned (ratV (makeR n d)) ∧ Below w.heap.size w w' := by
  by_cases c0 : d = 0
  · have hr := hid (makeR_arg (n := n) (d := d) (fun h => h.1 c0))
    subst c0
    go_enter Try.func12, Try.ntmps12
    go_wp2_with fail
    refine bodyPost_ret (res_tmp (t := 4) (u := 5) (r := w.heap.size) rfl rfl 0 0 1 rfl (by simp [go_sem]) (by simp [go_sem])) rfl ⟨by rw [hr.out], (by repeat (first | exact Below.refl _ _ | assumption | refine b_then ?_ (by assumption) | refine b_alloc ?_ _ | refine b_drewN ?_ _ | refine b_drew ?_ | refine b_set ?_ (by omega) _ | refine b_set ?_ (by simp) _))⟩
  · have hbz : (d == 0) = false := beq_eq_false_iff_ne.2 c0
    by_cases c1 : -4611686018427387904 ≤ n
    · by_cases c2 : n ≤ 4611686018427387904
      · by_cases c3 : -4611686018427387904 ≤ d
        · by_cases c4 : d ≤ 4611686018427387904
          · go_enter Try.func12, Try.ntmps12
            go_wp2_with fail
            refine (reduced_any _ _ _ (by omega) (by omega) (by omega)).mono ?_
            rintro e w2 ⟨rfl, hB2⟩
            have hc0 : w2.cell? ⟨w.heap.size, 0, none⟩ = some (.int .i64 0) := (hB2.cell (p := ⟨w.heap.size, 0, none⟩) (by simp <;> omega)).trans (by simp [go_sem])
            have hc1 : w2.cell? ⟨w.heap.size, 1, none⟩ = some (.int .i64 0) := (hB2.cell (p := ⟨w.heap.size, 1, none⟩) (by simp <;> omega)).trans (by simp [go_sem])
            have hf0 : w2.frozen? ⟨w.heap.size, 0, none⟩ = false := (hB2.frozen (p := ⟨w.heap.size, 0, none⟩) (by simp <;> omega)).trans (by simp [go_sem])
            have hf1 : w2.frozen? ⟨w.heap.size, 1, none⟩ = false := (hB2.frozen (p := ⟨w.heap.size, 1, none⟩) (by simp <;> omega)).trans (by simp [go_sem])
            have hlt : w.heap.size < w2.heap.size := by have := hB2.size; simp at this; omega
            by_cases hf : Fits (Rat.divInt n d)
            · have hr := hid (makeR_ok (n := n) (d := d) ⟨c0, c1, c2, c3, c4⟩ hf)
              rw [if_pos hf]
              generalize (Rat.divInt n d).num = A at hr ⊢
              generalize ((Rat.divInt n d).den : Int) = B at hr ⊢
              go_wp2_with fail
              refine bodyPost_ret (res_tmp (t := 4) (u := 5) (r := w.heap.size) rfl rfl A B 0 rfl (by simp [go_sem, hc0, hlt]) (by simp [go_sem, hc1, hlt])) rfl ⟨by rw [hr.out], (by repeat (first | exact Below.refl _ _ | assumption | refine b_then ?_ (by assumption) | refine b_alloc ?_ _ | refine b_drewN ?_ _ | refine b_drew ?_ | refine b_set ?_ (by omega) _ | refine b_set ?_ (by simp) _))⟩
            · have hr := hid (makeR_no (n := n) (d := d) ⟨c0, c1, c2, c3, c4⟩ hf)
              rw [if_neg hf]
              go_wp2_with fail
              refine bodyPost_ret (res_tmp (t := 4) (u := 5) (r := w.heap.size) rfl rfl 0 0 70 rfl (by simp [go_sem, hc0, hlt]) (by simp [go_sem, hc1, hlt])) rfl ⟨by rw [hr.out], (by repeat (first | exact Below.refl _ _ | assumption | refine b_then ?_ (by assumption) | refine b_alloc ?_ _ | refine b_drewN ?_ _ | refine b_drew ?_ | refine b_set ?_ (by omega) _ | refine b_set ?_ (by simp) _))⟩
          · have c' : 4611686018427387904 < d := by omega
            have hr := hid (makeR_arg (n := n) (d := d) (fun h => c4 h.2.2.2.2))
            go_enter Try.func12, Try.ntmps12
            go_wp2_with fail
            refine bodyPost_ret (res_tmp (t := 4) (u := 5) (r := w.heap.size) rfl rfl 0 0 1 rfl (by simp [go_sem]) (by simp [go_sem])) rfl ⟨by rw [hr.out], (by repeat (first | exact Below.refl _ _ | assumption | refine b_then ?_ (by assumption) | refine b_alloc ?_ _ | refine b_drewN ?_ _ | refine b_drew ?_ | refine b_set ?_ (by omega) _ | refine b_set ?_ (by simp) _))⟩
        · have c' : d < -4611686018427387904 := by omega
          have hr := hid (makeR_arg (n := n) (d := d) (fun h => c3 h.2.2.2.1))
          go_enter Try.func12, Try.ntmps12
          go_wp2_with fail
          refine bodyPost_ret (res_tmp (t := 4) (u := 5) (r := w.heap.size) rfl rfl 0 0 1 rfl (by simp [go_sem]) (by simp [go_sem])) rfl ⟨by rw [hr.out], (by repeat (first | exact Below.refl _ _ | assumption | refine b_then ?_ (by assumption) | refine b_alloc ?_ _ | refine b_drewN ?_ _ | refine b_drew ?_ | refine b_set ?_ (by omega) _ | refine b_set ?_ (by simp) _))⟩
      · have c' : 4611686018427387904 < n := by omega
        have hr := hid (makeR_arg (n := n) (d := d) (fun h => c2 h.2.2.1))
        go_enter Try.func12, Try.ntmps12
        go_wp2_with fail
        refine bodyPost_ret (res_tmp (t := 4) (u := 5) (r := w.heap.size) rfl rfl 0 0 1 rfl (by simp [go_sem]) (by simp [go_sem])) rfl ⟨by rw [hr.out], (by repeat (first | exact Below.refl _ _ | assumption | refine b_then ?_ (by assumption) | refine b_alloc ?_ _ | refine b_drewN ?_ _ | refine b_drew ?_ | refine b_set ?_ (by omega) _ | refine b_set ?_ (by simp) _))⟩
    · have c' : n < -4611686018427387904 := by omega
      have hr := hid (makeR_arg (n := n) (d := d) (fun h => c1 h.2.1))
      go_enter Try.func12, Try.ntmps12
      go_wp2_with fail
      refine bodyPost_ret (res_tmp (t := 4) (u := 5) (r := w.heap.size) rfl rfl 0 0 1 rfl (by simp [go_sem]) (by simp [go_sem])) rfl ⟨by rw [hr.out], (by repeat (first | exact Below.refl _ _ | assumption | refine b_then ?_ (by assumption) | refine b_alloc ?_ _ | refine b_drewN ?_ _ | refine b_drew ?_ | refine b_set ?_ (by omega) _ | refine b_set ?_ (by simp) _))⟩

set_option maxHeartbeats 1600000 in
/-- Add of the reference. -/
theorem RAdd_any (a b c d : Int) (w : World) : Calls Try.prog 17 #[.agg #[.int .i64 a, .int .i64 b], .agg #[.int .i64 c, .int .i64 d]] w fun e w' => e = .returned (ratV (calR a b c d (Rat.divInt (a * d + c * b) (b * d)))) ∧ Below w.heap.size w w' := by
  by_cases hv1 : Vld a b
  · have Hc1 := hid (vb_ok hv1)
    by_cases hv2 : Vld c d
    · have Hc2 := hid (vb_ok hv2)
      have Hv := hid (And.intro hv1 hv2)
      obtain ⟨hb1, hb2, ha1, ha2, _⟩ := hv1
      obtain ⟨hd1, hd2, hc1, hc2, _⟩ := hv2
      have p1 := prod_bd (x := a) (y := d) (by omega) (by omega)
      have p2 := prod_bd (x := c) (y := b) (by omega) (by omega)
      have p3 := prod_bd (x := b) (y := d) (by omega) (by omega)
      have p5 := prod_bd (x := a) (y := c) (by omega) (by omega)
      have p4 := prod_pos (x := b) (y := d) (by omega) (by omega)
      go_enter Try.func17, Try.ntmps17
      go_wp2_with fail
      refine (RValid_any _ _ _).mono ?_
      rintro e w1 ⟨rfl, hB⟩
      rw [Hc1.out]
      have hc0 : w1.cell? ⟨w.heap.size, 0, none⟩ = some (.int .i64 a) := (hB.cell (p := ⟨w.heap.size, 0, none⟩) (by simp <;> omega)).trans (by simp [go_sem])
      have hc1 : w1.cell? ⟨w.heap.size, 1, none⟩ = some (.int .i64 b) := (hB.cell (p := ⟨w.heap.size, 1, none⟩) (by simp <;> omega)).trans (by simp [go_sem])
      have hc2 : w1.cell? ⟨w.heap.size + 1, 0, none⟩ = some (.int .i64 c) := (hB.cell (p := ⟨w.heap.size + 1, 0, none⟩) (by simp <;> omega)).trans (by simp [go_sem])
      have hc3 : w1.cell? ⟨w.heap.size + 1, 1, none⟩ = some (.int .i64 d) := (hB.cell (p := ⟨w.heap.size + 1, 1, none⟩) (by simp <;> omega)).trans (by simp [go_sem])
      have hc4 : w1.cell? ⟨w.heap.size + 1 + 1, 0, none⟩ = some (.int .i64 0) := (hB.cell (p := ⟨w.heap.size + 1 + 1, 0, none⟩) (by simp <;> omega)).trans (by simp [go_sem])
      have hc5 : w1.cell? ⟨w.heap.size + 1 + 1, 1, none⟩ = some (.int .i64 0) := (hB.cell (p := ⟨w.heap.size + 1 + 1, 1, none⟩) (by simp <;> omega)).trans (by simp [go_sem])
      have hf0 : w1.frozen? ⟨w.heap.size, 0, none⟩ = false := (hB.frozen (p := ⟨w.heap.size, 0, none⟩) (by simp <;> omega)).trans (by simp [go_sem])
      have hf1 : w1.frozen? ⟨w.heap.size, 1, none⟩ = false := (hB.frozen (p := ⟨w.heap.size, 1, none⟩) (by simp <;> omega)).trans (by simp [go_sem])
      have hf2 : w1.frozen? ⟨w.heap.size + 1, 0, none⟩ = false := (hB.frozen (p := ⟨w.heap.size + 1, 0, none⟩) (by simp <;> omega)).trans (by simp [go_sem])
      have hf3 : w1.frozen? ⟨w.heap.size + 1, 1, none⟩ = false := (hB.frozen (p := ⟨w.heap.size + 1, 1, none⟩) (by simp <;> omega)).trans (by simp [go_sem])
      have hf4 : w1.frozen? ⟨w.heap.size + 1 + 1, 0, none⟩ = false := (hB.frozen (p := ⟨w.heap.size + 1 + 1, 0, none⟩) (by simp <;> omega)).trans (by simp [go_sem])
      have hf5 : w1.frozen? ⟨w.heap.size + 1 + 1, 1, none⟩ = false := (hB.frozen (p := ⟨w.heap.size + 1 + 1, 1, none⟩) (by simp <;> omega)).trans (by simp [go_sem])
      have hs := hB.size
      simp only [World.size_alloc] at hs
      go_wp2_with fail
      refine (RValid_any _ _ _).mono ?_
      rintro e w2 ⟨rfl, hB2⟩
      rw [Hc2.out]
      have gc0 : w2.cell? ⟨w.heap.size, 0, none⟩ = some (.int .i64 a) := (hB2.cell (p := ⟨w.heap.size, 0, none⟩) (by simp only []; omega)).trans hc0
      have gf0 : w2.frozen? ⟨w.heap.size, 0, none⟩ = false := (hB2.frozen (p := ⟨w.heap.size, 0, none⟩) (by simp only []; omega)).trans hf0
      have gc1 : w2.cell? ⟨w.heap.size, 1, none⟩ = some (.int .i64 b) := (hB2.cell (p := ⟨w.heap.size, 1, none⟩) (by simp only []; omega)).trans hc1
      have gf1 : w2.frozen? ⟨w.heap.size, 1, none⟩ = false := (hB2.frozen (p := ⟨w.heap.size, 1, none⟩) (by simp only []; omega)).trans hf1
      have gc2 : w2.cell? ⟨w.heap.size + 1, 0, none⟩ = some (.int .i64 c) := (hB2.cell (p := ⟨w.heap.size + 1, 0, none⟩) (by simp only []; omega)).trans hc2
      have gf2 : w2.frozen? ⟨w.heap.size + 1, 0, none⟩ = false := (hB2.frozen (p := ⟨w.heap.size + 1, 0, none⟩) (by simp only []; omega)).trans hf2
      have gc3 : w2.cell? ⟨w.heap.size + 1, 1, none⟩ = some (.int .i64 d) := (hB2.cell (p := ⟨w.heap.size + 1, 1, none⟩) (by simp only []; omega)).trans hc3
      have gf3 : w2.frozen? ⟨w.heap.size + 1, 1, none⟩ = false := (hB2.frozen (p := ⟨w.heap.size + 1, 1, none⟩) (by simp only []; omega)).trans hf3
      have gc4 : w2.cell? ⟨w.heap.size + 1 + 1, 0, none⟩ = some (.int .i64 0) := (hB2.cell (p := ⟨w.heap.size + 1 + 1, 0, none⟩) (by simp only []; omega)).trans hc4
      have gf4 : w2.frozen? ⟨w.heap.size + 1 + 1, 0, none⟩ = false := (hB2.frozen (p := ⟨w.heap.size + 1 + 1, 0, none⟩) (by simp only []; omega)).trans hf4
      have gc5 : w2.cell? ⟨w.heap.size + 1 + 1, 1, none⟩ = some (.int .i64 0) := (hB2.cell (p := ⟨w.heap.size + 1 + 1, 1, none⟩) (by simp only []; omega)).trans hc5
      have gf5 : w2.frozen? ⟨w.heap.size + 1 + 1, 1, none⟩ = false := (hB2.frozen (p := ⟨w.heap.size + 1 + 1, 1, none⟩) (by simp only []; omega)).trans hf5
      have hb' : Below w.heap.size w w2 := b_then (by repeat (first | exact Below.refl _ _ | assumption | refine b_then ?_ (by assumption) | refine b_alloc ?_ _ | refine b_drewN ?_ _ | refine b_drew ?_ | refine b_set ?_ (by omega) _ | refine b_set ?_ (by simp) _)) hB2
      have hs2 : w.heap.size + 1 + 1 < w2.heap.size := by have := hB2.size; omega
      clear hB hB2 hc0 hc1 hc2 hc3 hc4 hc5 hf0 hf1 hf2 hf3 hf4 hf5
      go_wp2_with fail
      refine (reduced_any _ _ _ (by omega) (by omega) (by omega)).mono ?_
      rintro e w3 ⟨rfl, hB3⟩
      have ec0 : w3.cell? ⟨w.heap.size + 1 + 1, 0, none⟩ = some (.int .i64 0) := (hB3.cell (p := ⟨w.heap.size + 1 + 1, 0, none⟩) hs2).trans gc4
      have ec1 : w3.cell? ⟨w.heap.size + 1 + 1, 1, none⟩ = some (.int .i64 0) := (hB3.cell (p := ⟨w.heap.size + 1 + 1, 1, none⟩) hs2).trans gc5
      have ef0 : w3.frozen? ⟨w.heap.size + 1 + 1, 0, none⟩ = false := (hB3.frozen (p := ⟨w.heap.size + 1 + 1, 0, none⟩) hs2).trans gf4
      have ef1 : w3.frozen? ⟨w.heap.size + 1 + 1, 1, none⟩ = false := (hB3.frozen (p := ⟨w.heap.size + 1 + 1, 1, none⟩) hs2).trans gf5
      have hlt : w.heap.size + 1 + 1 < w3.heap.size := by have := hB3.size; omega
      clear gc0 gc1 gc2 gc3 gc4 gc5 gf0 gf1 gf2 gf3 gf4 gf5
      by_cases hf : Fits (Rat.divInt (a * d + c * b) (b * d))
      · have hr := hid (calR_ok Hv.out hf)
        rw [if_pos hf]
        generalize (Rat.divInt (a * d + c * b) (b * d)).num = A at hr ⊢
        generalize ((Rat.divInt (a * d + c * b) (b * d)).den : Int) = B at hr ⊢
        go_wp2_with fail
        refine bodyPost_ret (res_tmp (t := 4) (u := 5) (r := w.heap.size + 1 + 1) rfl rfl A B 0 rfl (by simp [go_sem, ec0, hlt]) (by simp [go_sem, ec1, hlt])) rfl ⟨by rw [hr.out], (by repeat (first | exact Below.refl _ _ | assumption | refine b_then ?_ (by assumption) | refine b_alloc ?_ _ | refine b_drewN ?_ _ | refine b_drew ?_ | refine b_set ?_ (by omega) _ | refine b_set ?_ (by simp) _))⟩
      · have hr := hid (calR_fit (a := a) (b := b) (c := c) (d := d) hf)
        rw [if_neg hf]
        go_wp2_with fail
        refine bodyPost_ret (res_tmp (t := 4) (u := 5) (r := w.heap.size + 1 + 1) rfl rfl 0 0 70 rfl (by simp [go_sem, ec0, hlt]) (by simp [go_sem, ec1, hlt])) rfl ⟨by rw [hr.out], (by repeat (first | exact Below.refl _ _ | assumption | refine b_then ?_ (by assumption) | refine b_alloc ?_ _ | refine b_drewN ?_ _ | refine b_drew ?_ | refine b_set ?_ (by omega) _ | refine b_set ?_ (by simp) _))⟩
    · have Hc2 := hid (vb_no hv2)
      have hr := hid (calR_no (a := a) (b := b) (c := c) (d := d) (q := Rat.divInt (a * d + c * b) (b * d)) (fun h => hv2 h.2))
      go_enter Try.func17, Try.ntmps17
      go_wp2_with fail
      refine (RValid_any _ _ _).mono ?_
      rintro e w1 ⟨rfl, hB⟩
      rw [Hc1.out]
      have hc0 : w1.cell? ⟨w.heap.size, 0, none⟩ = some (.int .i64 a) := (hB.cell (p := ⟨w.heap.size, 0, none⟩) (by simp <;> omega)).trans (by simp [go_sem])
      have hc1 : w1.cell? ⟨w.heap.size, 1, none⟩ = some (.int .i64 b) := (hB.cell (p := ⟨w.heap.size, 1, none⟩) (by simp <;> omega)).trans (by simp [go_sem])
      have hc2 : w1.cell? ⟨w.heap.size + 1, 0, none⟩ = some (.int .i64 c) := (hB.cell (p := ⟨w.heap.size + 1, 0, none⟩) (by simp <;> omega)).trans (by simp [go_sem])
      have hc3 : w1.cell? ⟨w.heap.size + 1, 1, none⟩ = some (.int .i64 d) := (hB.cell (p := ⟨w.heap.size + 1, 1, none⟩) (by simp <;> omega)).trans (by simp [go_sem])
      have hc4 : w1.cell? ⟨w.heap.size + 1 + 1, 0, none⟩ = some (.int .i64 0) := (hB.cell (p := ⟨w.heap.size + 1 + 1, 0, none⟩) (by simp <;> omega)).trans (by simp [go_sem])
      have hc5 : w1.cell? ⟨w.heap.size + 1 + 1, 1, none⟩ = some (.int .i64 0) := (hB.cell (p := ⟨w.heap.size + 1 + 1, 1, none⟩) (by simp <;> omega)).trans (by simp [go_sem])
      have hf0 : w1.frozen? ⟨w.heap.size, 0, none⟩ = false := (hB.frozen (p := ⟨w.heap.size, 0, none⟩) (by simp <;> omega)).trans (by simp [go_sem])
      have hf1 : w1.frozen? ⟨w.heap.size, 1, none⟩ = false := (hB.frozen (p := ⟨w.heap.size, 1, none⟩) (by simp <;> omega)).trans (by simp [go_sem])
      have hf2 : w1.frozen? ⟨w.heap.size + 1, 0, none⟩ = false := (hB.frozen (p := ⟨w.heap.size + 1, 0, none⟩) (by simp <;> omega)).trans (by simp [go_sem])
      have hf3 : w1.frozen? ⟨w.heap.size + 1, 1, none⟩ = false := (hB.frozen (p := ⟨w.heap.size + 1, 1, none⟩) (by simp <;> omega)).trans (by simp [go_sem])
      have hf4 : w1.frozen? ⟨w.heap.size + 1 + 1, 0, none⟩ = false := (hB.frozen (p := ⟨w.heap.size + 1 + 1, 0, none⟩) (by simp <;> omega)).trans (by simp [go_sem])
      have hf5 : w1.frozen? ⟨w.heap.size + 1 + 1, 1, none⟩ = false := (hB.frozen (p := ⟨w.heap.size + 1 + 1, 1, none⟩) (by simp <;> omega)).trans (by simp [go_sem])
      have hs := hB.size
      simp only [World.size_alloc] at hs
      go_wp2_with fail
      refine (RValid_any _ _ _).mono ?_
      rintro e w2 ⟨rfl, hB2⟩
      rw [Hc2.out]
      have gc0 : w2.cell? ⟨w.heap.size + 1 + 1, 0, none⟩ = some (.int .i64 0) := (hB2.cell (p := ⟨w.heap.size + 1 + 1, 0, none⟩) (by simp only []; omega)).trans hc4
      have gf0 : w2.frozen? ⟨w.heap.size + 1 + 1, 0, none⟩ = false := (hB2.frozen (p := ⟨w.heap.size + 1 + 1, 0, none⟩) (by simp only []; omega)).trans hf4
      have gc1 : w2.cell? ⟨w.heap.size + 1 + 1, 1, none⟩ = some (.int .i64 0) := (hB2.cell (p := ⟨w.heap.size + 1 + 1, 1, none⟩) (by simp only []; omega)).trans hc5
      have gf1 : w2.frozen? ⟨w.heap.size + 1 + 1, 1, none⟩ = false := (hB2.frozen (p := ⟨w.heap.size + 1 + 1, 1, none⟩) (by simp only []; omega)).trans hf5
      have hb' : Below w.heap.size w w1 := (by repeat (first | exact Below.refl _ _ | assumption | refine b_then ?_ (by assumption) | refine b_alloc ?_ _ | refine b_drewN ?_ _ | refine b_drew ?_ | refine b_set ?_ (by omega) _ | refine b_set ?_ (by simp) _))
      clear hB hc0 hc1 hc2 hc3 hf0 hf1 hf2 hf3
      go_wp2_with fail
      refine bodyPost_ret (res_tmp (t := 4) (u := 5) (r := w.heap.size + 1 + 1) rfl rfl 0 0 70 rfl (by simp [go_sem, gc0]) (by simp [go_sem, gc1])) rfl ⟨by rw [hr.out], (by repeat (first | exact Below.refl _ _ | assumption | refine b_then ?_ (by assumption) | refine b_alloc ?_ _ | refine b_drewN ?_ _ | refine b_drew ?_ | refine b_set ?_ (by omega) _ | refine b_set ?_ (by simp) _))⟩
  · have Hc1 := hid (vb_no hv1)
    have hr := hid (calR_no (a := a) (b := b) (c := c) (d := d) (q := Rat.divInt (a * d + c * b) (b * d)) (fun h => hv1 h.1))
    go_enter Try.func17, Try.ntmps17
    go_wp2_with fail
    refine (RValid_any _ _ _).mono ?_
    rintro e w1 ⟨rfl, hB⟩
    rw [Hc1.out]
    have hc0 : w1.cell? ⟨w.heap.size + 1 + 1, 0, none⟩ = some (.int .i64 0) := (hB.cell (p := ⟨w.heap.size + 1 + 1, 0, none⟩) (by simp <;> omega)).trans (by simp [go_sem])
    have hc1 : w1.cell? ⟨w.heap.size + 1 + 1, 1, none⟩ = some (.int .i64 0) := (hB.cell (p := ⟨w.heap.size + 1 + 1, 1, none⟩) (by simp <;> omega)).trans (by simp [go_sem])
    have hf0 : w1.frozen? ⟨w.heap.size + 1 + 1, 0, none⟩ = false := (hB.frozen (p := ⟨w.heap.size + 1 + 1, 0, none⟩) (by simp <;> omega)).trans (by simp [go_sem])
    have hf1 : w1.frozen? ⟨w.heap.size + 1 + 1, 1, none⟩ = false := (hB.frozen (p := ⟨w.heap.size + 1 + 1, 1, none⟩) (by simp <;> omega)).trans (by simp [go_sem])
    go_wp2_with fail
    refine bodyPost_ret (res_tmp (t := 4) (u := 5) (r := w.heap.size + 1 + 1) rfl rfl 0 0 70 rfl (by simp [go_sem, hc0]) (by simp [go_sem, hc1])) rfl ⟨by rw [hr.out], (by repeat (first | exact Below.refl _ _ | assumption | refine b_then ?_ (by assumption) | refine b_alloc ?_ _ | refine b_drewN ?_ _ | refine b_drew ?_ | refine b_set ?_ (by omega) _ | refine b_set ?_ (by simp) _))⟩

set_option maxHeartbeats 1600000 in
/-- Mul of the reference. -/
theorem RMul_any (a b c d : Int) (w : World) : Calls Try.prog 19 #[.agg #[.int .i64 a, .int .i64 b], .agg #[.int .i64 c, .int .i64 d]] w fun e w' => e = .returned (ratV (calR a b c d (Rat.divInt (a * c) (b * d)))) ∧ Below w.heap.size w w' := by
  by_cases hv1 : Vld a b
  · have Hc1 := hid (vb_ok hv1)
    by_cases hv2 : Vld c d
    · have Hc2 := hid (vb_ok hv2)
      have Hv := hid (And.intro hv1 hv2)
      obtain ⟨hb1, hb2, ha1, ha2, _⟩ := hv1
      obtain ⟨hd1, hd2, hc1, hc2, _⟩ := hv2
      have p1 := prod_bd (x := a) (y := d) (by omega) (by omega)
      have p2 := prod_bd (x := c) (y := b) (by omega) (by omega)
      have p3 := prod_bd (x := b) (y := d) (by omega) (by omega)
      have p5 := prod_bd (x := a) (y := c) (by omega) (by omega)
      have p4 := prod_pos (x := b) (y := d) (by omega) (by omega)
      go_enter Try.func19, Try.ntmps19
      go_wp2_with fail
      refine (RValid_any _ _ _).mono ?_
      rintro e w1 ⟨rfl, hB⟩
      rw [Hc1.out]
      have hc0 : w1.cell? ⟨w.heap.size, 0, none⟩ = some (.int .i64 a) := (hB.cell (p := ⟨w.heap.size, 0, none⟩) (by simp <;> omega)).trans (by simp [go_sem])
      have hc1 : w1.cell? ⟨w.heap.size, 1, none⟩ = some (.int .i64 b) := (hB.cell (p := ⟨w.heap.size, 1, none⟩) (by simp <;> omega)).trans (by simp [go_sem])
      have hc2 : w1.cell? ⟨w.heap.size + 1, 0, none⟩ = some (.int .i64 c) := (hB.cell (p := ⟨w.heap.size + 1, 0, none⟩) (by simp <;> omega)).trans (by simp [go_sem])
      have hc3 : w1.cell? ⟨w.heap.size + 1, 1, none⟩ = some (.int .i64 d) := (hB.cell (p := ⟨w.heap.size + 1, 1, none⟩) (by simp <;> omega)).trans (by simp [go_sem])
      have hc4 : w1.cell? ⟨w.heap.size + 1 + 1, 0, none⟩ = some (.int .i64 0) := (hB.cell (p := ⟨w.heap.size + 1 + 1, 0, none⟩) (by simp <;> omega)).trans (by simp [go_sem])
      have hc5 : w1.cell? ⟨w.heap.size + 1 + 1, 1, none⟩ = some (.int .i64 0) := (hB.cell (p := ⟨w.heap.size + 1 + 1, 1, none⟩) (by simp <;> omega)).trans (by simp [go_sem])
      have hf0 : w1.frozen? ⟨w.heap.size, 0, none⟩ = false := (hB.frozen (p := ⟨w.heap.size, 0, none⟩) (by simp <;> omega)).trans (by simp [go_sem])
      have hf1 : w1.frozen? ⟨w.heap.size, 1, none⟩ = false := (hB.frozen (p := ⟨w.heap.size, 1, none⟩) (by simp <;> omega)).trans (by simp [go_sem])
      have hf2 : w1.frozen? ⟨w.heap.size + 1, 0, none⟩ = false := (hB.frozen (p := ⟨w.heap.size + 1, 0, none⟩) (by simp <;> omega)).trans (by simp [go_sem])
      have hf3 : w1.frozen? ⟨w.heap.size + 1, 1, none⟩ = false := (hB.frozen (p := ⟨w.heap.size + 1, 1, none⟩) (by simp <;> omega)).trans (by simp [go_sem])
      have hf4 : w1.frozen? ⟨w.heap.size + 1 + 1, 0, none⟩ = false := (hB.frozen (p := ⟨w.heap.size + 1 + 1, 0, none⟩) (by simp <;> omega)).trans (by simp [go_sem])
      have hf5 : w1.frozen? ⟨w.heap.size + 1 + 1, 1, none⟩ = false := (hB.frozen (p := ⟨w.heap.size + 1 + 1, 1, none⟩) (by simp <;> omega)).trans (by simp [go_sem])
      have hs := hB.size
      simp only [World.size_alloc] at hs
      go_wp2_with fail
      refine (RValid_any _ _ _).mono ?_
      rintro e w2 ⟨rfl, hB2⟩
      rw [Hc2.out]
      have gc0 : w2.cell? ⟨w.heap.size, 0, none⟩ = some (.int .i64 a) := (hB2.cell (p := ⟨w.heap.size, 0, none⟩) (by simp only []; omega)).trans hc0
      have gf0 : w2.frozen? ⟨w.heap.size, 0, none⟩ = false := (hB2.frozen (p := ⟨w.heap.size, 0, none⟩) (by simp only []; omega)).trans hf0
      have gc1 : w2.cell? ⟨w.heap.size, 1, none⟩ = some (.int .i64 b) := (hB2.cell (p := ⟨w.heap.size, 1, none⟩) (by simp only []; omega)).trans hc1
      have gf1 : w2.frozen? ⟨w.heap.size, 1, none⟩ = false := (hB2.frozen (p := ⟨w.heap.size, 1, none⟩) (by simp only []; omega)).trans hf1
      have gc2 : w2.cell? ⟨w.heap.size + 1, 0, none⟩ = some (.int .i64 c) := (hB2.cell (p := ⟨w.heap.size + 1, 0, none⟩) (by simp only []; omega)).trans hc2
      have gf2 : w2.frozen? ⟨w.heap.size + 1, 0, none⟩ = false := (hB2.frozen (p := ⟨w.heap.size + 1, 0, none⟩) (by simp only []; omega)).trans hf2
      have gc3 : w2.cell? ⟨w.heap.size + 1, 1, none⟩ = some (.int .i64 d) := (hB2.cell (p := ⟨w.heap.size + 1, 1, none⟩) (by simp only []; omega)).trans hc3
      have gf3 : w2.frozen? ⟨w.heap.size + 1, 1, none⟩ = false := (hB2.frozen (p := ⟨w.heap.size + 1, 1, none⟩) (by simp only []; omega)).trans hf3
      have gc4 : w2.cell? ⟨w.heap.size + 1 + 1, 0, none⟩ = some (.int .i64 0) := (hB2.cell (p := ⟨w.heap.size + 1 + 1, 0, none⟩) (by simp only []; omega)).trans hc4
      have gf4 : w2.frozen? ⟨w.heap.size + 1 + 1, 0, none⟩ = false := (hB2.frozen (p := ⟨w.heap.size + 1 + 1, 0, none⟩) (by simp only []; omega)).trans hf4
      have gc5 : w2.cell? ⟨w.heap.size + 1 + 1, 1, none⟩ = some (.int .i64 0) := (hB2.cell (p := ⟨w.heap.size + 1 + 1, 1, none⟩) (by simp only []; omega)).trans hc5
      have gf5 : w2.frozen? ⟨w.heap.size + 1 + 1, 1, none⟩ = false := (hB2.frozen (p := ⟨w.heap.size + 1 + 1, 1, none⟩) (by simp only []; omega)).trans hf5
      have hb' : Below w.heap.size w w2 := b_then (by repeat (first | exact Below.refl _ _ | assumption | refine b_then ?_ (by assumption) | refine b_alloc ?_ _ | refine b_drewN ?_ _ | refine b_drew ?_ | refine b_set ?_ (by omega) _ | refine b_set ?_ (by simp) _)) hB2
      have hs2 : w.heap.size + 1 + 1 < w2.heap.size := by have := hB2.size; omega
      clear hB hB2 hc0 hc1 hc2 hc3 hc4 hc5 hf0 hf1 hf2 hf3 hf4 hf5
      go_wp2_with fail
      refine (reduced_any _ _ _ (by omega) (by omega) (by omega)).mono ?_
      rintro e w3 ⟨rfl, hB3⟩
      have ec0 : w3.cell? ⟨w.heap.size + 1 + 1, 0, none⟩ = some (.int .i64 0) := (hB3.cell (p := ⟨w.heap.size + 1 + 1, 0, none⟩) hs2).trans gc4
      have ec1 : w3.cell? ⟨w.heap.size + 1 + 1, 1, none⟩ = some (.int .i64 0) := (hB3.cell (p := ⟨w.heap.size + 1 + 1, 1, none⟩) hs2).trans gc5
      have ef0 : w3.frozen? ⟨w.heap.size + 1 + 1, 0, none⟩ = false := (hB3.frozen (p := ⟨w.heap.size + 1 + 1, 0, none⟩) hs2).trans gf4
      have ef1 : w3.frozen? ⟨w.heap.size + 1 + 1, 1, none⟩ = false := (hB3.frozen (p := ⟨w.heap.size + 1 + 1, 1, none⟩) hs2).trans gf5
      have hlt : w.heap.size + 1 + 1 < w3.heap.size := by have := hB3.size; omega
      clear gc0 gc1 gc2 gc3 gc4 gc5 gf0 gf1 gf2 gf3 gf4 gf5
      by_cases hf : Fits (Rat.divInt (a * c) (b * d))
      · have hr := hid (calR_ok Hv.out hf)
        rw [if_pos hf]
        generalize (Rat.divInt (a * c) (b * d)).num = A at hr ⊢
        generalize ((Rat.divInt (a * c) (b * d)).den : Int) = B at hr ⊢
        go_wp2_with fail
        refine bodyPost_ret (res_tmp (t := 4) (u := 5) (r := w.heap.size + 1 + 1) rfl rfl A B 0 rfl (by simp [go_sem, ec0, hlt]) (by simp [go_sem, ec1, hlt])) rfl ⟨by rw [hr.out], (by repeat (first | exact Below.refl _ _ | assumption | refine b_then ?_ (by assumption) | refine b_alloc ?_ _ | refine b_drewN ?_ _ | refine b_drew ?_ | refine b_set ?_ (by omega) _ | refine b_set ?_ (by simp) _))⟩
      · have hr := hid (calR_fit (a := a) (b := b) (c := c) (d := d) hf)
        rw [if_neg hf]
        go_wp2_with fail
        refine bodyPost_ret (res_tmp (t := 4) (u := 5) (r := w.heap.size + 1 + 1) rfl rfl 0 0 70 rfl (by simp [go_sem, ec0, hlt]) (by simp [go_sem, ec1, hlt])) rfl ⟨by rw [hr.out], (by repeat (first | exact Below.refl _ _ | assumption | refine b_then ?_ (by assumption) | refine b_alloc ?_ _ | refine b_drewN ?_ _ | refine b_drew ?_ | refine b_set ?_ (by omega) _ | refine b_set ?_ (by simp) _))⟩
    · have Hc2 := hid (vb_no hv2)
      have hr := hid (calR_no (a := a) (b := b) (c := c) (d := d) (q := Rat.divInt (a * c) (b * d)) (fun h => hv2 h.2))
      go_enter Try.func19, Try.ntmps19
      go_wp2_with fail
      refine (RValid_any _ _ _).mono ?_
      rintro e w1 ⟨rfl, hB⟩
      rw [Hc1.out]
      have hc0 : w1.cell? ⟨w.heap.size, 0, none⟩ = some (.int .i64 a) := (hB.cell (p := ⟨w.heap.size, 0, none⟩) (by simp <;> omega)).trans (by simp [go_sem])
      have hc1 : w1.cell? ⟨w.heap.size, 1, none⟩ = some (.int .i64 b) := (hB.cell (p := ⟨w.heap.size, 1, none⟩) (by simp <;> omega)).trans (by simp [go_sem])
      have hc2 : w1.cell? ⟨w.heap.size + 1, 0, none⟩ = some (.int .i64 c) := (hB.cell (p := ⟨w.heap.size + 1, 0, none⟩) (by simp <;> omega)).trans (by simp [go_sem])
      have hc3 : w1.cell? ⟨w.heap.size + 1, 1, none⟩ = some (.int .i64 d) := (hB.cell (p := ⟨w.heap.size + 1, 1, none⟩) (by simp <;> omega)).trans (by simp [go_sem])
      have hc4 : w1.cell? ⟨w.heap.size + 1 + 1, 0, none⟩ = some (.int .i64 0) := (hB.cell (p := ⟨w.heap.size + 1 + 1, 0, none⟩) (by simp <;> omega)).trans (by simp [go_sem])
      have hc5 : w1.cell? ⟨w.heap.size + 1 + 1, 1, none⟩ = some (.int .i64 0) := (hB.cell (p := ⟨w.heap.size + 1 + 1, 1, none⟩) (by simp <;> omega)).trans (by simp [go_sem])
      have hf0 : w1.frozen? ⟨w.heap.size, 0, none⟩ = false := (hB.frozen (p := ⟨w.heap.size, 0, none⟩) (by simp <;> omega)).trans (by simp [go_sem])
      have hf1 : w1.frozen? ⟨w.heap.size, 1, none⟩ = false := (hB.frozen (p := ⟨w.heap.size, 1, none⟩) (by simp <;> omega)).trans (by simp [go_sem])
      have hf2 : w1.frozen? ⟨w.heap.size + 1, 0, none⟩ = false := (hB.frozen (p := ⟨w.heap.size + 1, 0, none⟩) (by simp <;> omega)).trans (by simp [go_sem])
      have hf3 : w1.frozen? ⟨w.heap.size + 1, 1, none⟩ = false := (hB.frozen (p := ⟨w.heap.size + 1, 1, none⟩) (by simp <;> omega)).trans (by simp [go_sem])
      have hf4 : w1.frozen? ⟨w.heap.size + 1 + 1, 0, none⟩ = false := (hB.frozen (p := ⟨w.heap.size + 1 + 1, 0, none⟩) (by simp <;> omega)).trans (by simp [go_sem])
      have hf5 : w1.frozen? ⟨w.heap.size + 1 + 1, 1, none⟩ = false := (hB.frozen (p := ⟨w.heap.size + 1 + 1, 1, none⟩) (by simp <;> omega)).trans (by simp [go_sem])
      have hs := hB.size
      simp only [World.size_alloc] at hs
      go_wp2_with fail
      refine (RValid_any _ _ _).mono ?_
      rintro e w2 ⟨rfl, hB2⟩
      rw [Hc2.out]
      have gc0 : w2.cell? ⟨w.heap.size + 1 + 1, 0, none⟩ = some (.int .i64 0) := (hB2.cell (p := ⟨w.heap.size + 1 + 1, 0, none⟩) (by simp only []; omega)).trans hc4
      have gf0 : w2.frozen? ⟨w.heap.size + 1 + 1, 0, none⟩ = false := (hB2.frozen (p := ⟨w.heap.size + 1 + 1, 0, none⟩) (by simp only []; omega)).trans hf4
      have gc1 : w2.cell? ⟨w.heap.size + 1 + 1, 1, none⟩ = some (.int .i64 0) := (hB2.cell (p := ⟨w.heap.size + 1 + 1, 1, none⟩) (by simp only []; omega)).trans hc5
      have gf1 : w2.frozen? ⟨w.heap.size + 1 + 1, 1, none⟩ = false := (hB2.frozen (p := ⟨w.heap.size + 1 + 1, 1, none⟩) (by simp only []; omega)).trans hf5
      have hb' : Below w.heap.size w w1 := (by repeat (first | exact Below.refl _ _ | assumption | refine b_then ?_ (by assumption) | refine b_alloc ?_ _ | refine b_drewN ?_ _ | refine b_drew ?_ | refine b_set ?_ (by omega) _ | refine b_set ?_ (by simp) _))
      clear hB hc0 hc1 hc2 hc3 hf0 hf1 hf2 hf3
      go_wp2_with fail
      refine bodyPost_ret (res_tmp (t := 4) (u := 5) (r := w.heap.size + 1 + 1) rfl rfl 0 0 70 rfl (by simp [go_sem, gc0]) (by simp [go_sem, gc1])) rfl ⟨by rw [hr.out], (by repeat (first | exact Below.refl _ _ | assumption | refine b_then ?_ (by assumption) | refine b_alloc ?_ _ | refine b_drewN ?_ _ | refine b_drew ?_ | refine b_set ?_ (by omega) _ | refine b_set ?_ (by simp) _))⟩
  · have Hc1 := hid (vb_no hv1)
    have hr := hid (calR_no (a := a) (b := b) (c := c) (d := d) (q := Rat.divInt (a * c) (b * d)) (fun h => hv1 h.1))
    go_enter Try.func19, Try.ntmps19
    go_wp2_with fail
    refine (RValid_any _ _ _).mono ?_
    rintro e w1 ⟨rfl, hB⟩
    rw [Hc1.out]
    have hc0 : w1.cell? ⟨w.heap.size + 1 + 1, 0, none⟩ = some (.int .i64 0) := (hB.cell (p := ⟨w.heap.size + 1 + 1, 0, none⟩) (by simp <;> omega)).trans (by simp [go_sem])
    have hc1 : w1.cell? ⟨w.heap.size + 1 + 1, 1, none⟩ = some (.int .i64 0) := (hB.cell (p := ⟨w.heap.size + 1 + 1, 1, none⟩) (by simp <;> omega)).trans (by simp [go_sem])
    have hf0 : w1.frozen? ⟨w.heap.size + 1 + 1, 0, none⟩ = false := (hB.frozen (p := ⟨w.heap.size + 1 + 1, 0, none⟩) (by simp <;> omega)).trans (by simp [go_sem])
    have hf1 : w1.frozen? ⟨w.heap.size + 1 + 1, 1, none⟩ = false := (hB.frozen (p := ⟨w.heap.size + 1 + 1, 1, none⟩) (by simp <;> omega)).trans (by simp [go_sem])
    go_wp2_with fail
    refine bodyPost_ret (res_tmp (t := 4) (u := 5) (r := w.heap.size + 1 + 1) rfl rfl 0 0 70 rfl (by simp [go_sem, hc0]) (by simp [go_sem, hc1])) rfl ⟨by rw [hr.out], (by repeat (first | exact Below.refl _ _ | assumption | refine b_then ?_ (by assumption) | refine b_alloc ?_ _ | refine b_drewN ?_ _ | refine b_drew ?_ | refine b_set ?_ (by omega) _ | refine b_set ?_ (by simp) _))⟩

theorem inv_fits {a b : Int} (h : Vld a b) (ha : a ≠ 0) : Fits (Rat.divInt b a) := by
  obtain ⟨h1, h2, h3, h4, _⟩ := h
  have hn := num_le b a
  have hd := den_le b a ha
  exact ⟨by omega, by omega, by omega⟩

set_option maxHeartbeats 1600000 in
/-- Inverse of the reference. -/
theorem RInverse_any (a b : Int) (w : World) : Calls Try.prog 21 #[.agg #[.int .i64 a, .int .i64 b]] w fun e w' => e = .returned (ratV (invR a b)) ∧ Below w.heap.size w w' := by
  by_cases hv : Vld a b
  · have Hv := hid hv
    have Hc := hid (vb_ok hv)
    obtain ⟨hb1, hb2, ha1, ha2, _⟩ := hv
    by_cases hz : a = 0
    · subst hz
      have hr := hid (invR_zero Hv.out)
      go_enter Try.func21, Try.ntmps21
      go_wp2_with fail
      refine (RValid_any _ _ _).mono ?_
      rintro e w1 ⟨rfl, hB⟩
      rw [Hc.out]
      have hc0 : w1.cell? ⟨w.heap.size, 0, none⟩ = some (.int .i64 0) := (hB.cell (p := ⟨w.heap.size, 0, none⟩) (by simp <;> omega)).trans (by simp [go_sem])
      have hc1 : w1.cell? ⟨w.heap.size, 1, none⟩ = some (.int .i64 b) := (hB.cell (p := ⟨w.heap.size, 1, none⟩) (by simp <;> omega)).trans (by simp [go_sem])
      have hc2 : w1.cell? ⟨w.heap.size + 1, 0, none⟩ = some (.int .i64 0) := (hB.cell (p := ⟨w.heap.size + 1, 0, none⟩) (by simp <;> omega)).trans (by simp [go_sem])
      have hc3 : w1.cell? ⟨w.heap.size + 1, 1, none⟩ = some (.int .i64 0) := (hB.cell (p := ⟨w.heap.size + 1, 1, none⟩) (by simp <;> omega)).trans (by simp [go_sem])
      have hf0 : w1.frozen? ⟨w.heap.size, 0, none⟩ = false := (hB.frozen (p := ⟨w.heap.size, 0, none⟩) (by simp <;> omega)).trans (by simp [go_sem])
      have hf1 : w1.frozen? ⟨w.heap.size, 1, none⟩ = false := (hB.frozen (p := ⟨w.heap.size, 1, none⟩) (by simp <;> omega)).trans (by simp [go_sem])
      have hf2 : w1.frozen? ⟨w.heap.size + 1, 0, none⟩ = false := (hB.frozen (p := ⟨w.heap.size + 1, 0, none⟩) (by simp <;> omega)).trans (by simp [go_sem])
      have hf3 : w1.frozen? ⟨w.heap.size + 1, 1, none⟩ = false := (hB.frozen (p := ⟨w.heap.size + 1, 1, none⟩) (by simp <;> omega)).trans (by simp [go_sem])
      go_wp2_with fail
      refine bodyPost_ret (res_tmp (t := 2) (u := 3) (r := w.heap.size + 1) rfl rfl 0 0 1 rfl (by simp [go_sem, hc2]) (by simp [go_sem, hc3])) rfl ⟨by rw [hr.out], (by repeat (first | exact Below.refl _ _ | assumption | refine b_then ?_ (by assumption) | refine b_alloc ?_ _ | refine b_drewN ?_ _ | refine b_drew ?_ | refine b_set ?_ (by omega) _ | refine b_set ?_ (by simp) _))⟩
    · have hf := inv_fits Hv.out hz
      have hr := hid (invR_ok Hv.out hz hf)
      have hbz : (a == 0) = false := beq_eq_false_iff_ne.2 hz
      go_enter Try.func21, Try.ntmps21
      go_wp2_with fail
      refine (RValid_any _ _ _).mono ?_
      rintro e w1 ⟨rfl, hB⟩
      rw [Hc.out]
      have hc0 : w1.cell? ⟨w.heap.size, 0, none⟩ = some (.int .i64 a) := (hB.cell (p := ⟨w.heap.size, 0, none⟩) (by simp <;> omega)).trans (by simp [go_sem])
      have hc1 : w1.cell? ⟨w.heap.size, 1, none⟩ = some (.int .i64 b) := (hB.cell (p := ⟨w.heap.size, 1, none⟩) (by simp <;> omega)).trans (by simp [go_sem])
      have hc2 : w1.cell? ⟨w.heap.size + 1, 0, none⟩ = some (.int .i64 0) := (hB.cell (p := ⟨w.heap.size + 1, 0, none⟩) (by simp <;> omega)).trans (by simp [go_sem])
      have hc3 : w1.cell? ⟨w.heap.size + 1, 1, none⟩ = some (.int .i64 0) := (hB.cell (p := ⟨w.heap.size + 1, 1, none⟩) (by simp <;> omega)).trans (by simp [go_sem])
      have hf0 : w1.frozen? ⟨w.heap.size, 0, none⟩ = false := (hB.frozen (p := ⟨w.heap.size, 0, none⟩) (by simp <;> omega)).trans (by simp [go_sem])
      have hf1 : w1.frozen? ⟨w.heap.size, 1, none⟩ = false := (hB.frozen (p := ⟨w.heap.size, 1, none⟩) (by simp <;> omega)).trans (by simp [go_sem])
      have hf2 : w1.frozen? ⟨w.heap.size + 1, 0, none⟩ = false := (hB.frozen (p := ⟨w.heap.size + 1, 0, none⟩) (by simp <;> omega)).trans (by simp [go_sem])
      have hf3 : w1.frozen? ⟨w.heap.size + 1, 1, none⟩ = false := (hB.frozen (p := ⟨w.heap.size + 1, 1, none⟩) (by simp <;> omega)).trans (by simp [go_sem])
      have hs := hB.size
      simp only [World.size_alloc] at hs
      go_wp2_with fail
      refine (reduced_any _ _ _ (by omega) (by omega) (by omega)).mono ?_
      rintro e w3 ⟨rfl, hB3⟩
      have gc0 : w3.cell? ⟨w.heap.size + 1, 0, none⟩ = some (.int .i64 0) := (hB3.cell (p := ⟨w.heap.size + 1, 0, none⟩) (by simp only []; omega)).trans hc2
      have gf0 : w3.frozen? ⟨w.heap.size + 1, 0, none⟩ = false := (hB3.frozen (p := ⟨w.heap.size + 1, 0, none⟩) (by simp only []; omega)).trans hf2
      have gc1 : w3.cell? ⟨w.heap.size + 1, 1, none⟩ = some (.int .i64 0) := (hB3.cell (p := ⟨w.heap.size + 1, 1, none⟩) (by simp only []; omega)).trans hc3
      have gf1 : w3.frozen? ⟨w.heap.size + 1, 1, none⟩ = false := (hB3.frozen (p := ⟨w.heap.size + 1, 1, none⟩) (by simp only []; omega)).trans hf3
      have hlt : w.heap.size + 1 < w3.heap.size := by have := hB3.size; omega
      have hb' : Below w.heap.size w w3 := b_then (by repeat (first | exact Below.refl _ _ | assumption | refine b_then ?_ (by assumption) | refine b_alloc ?_ _ | refine b_drewN ?_ _ | refine b_drew ?_ | refine b_set ?_ (by omega) _ | refine b_set ?_ (by simp) _)) hB3
      clear hB hB3 hc0 hc1 hc2 hc3 hf0 hf1 hf2 hf3
      rw [if_pos hf]
      clear hf
      generalize (Rat.divInt b a).num = A at hr ⊢
      generalize ((Rat.divInt b a).den : Int) = B at hr ⊢
      go_wp2_with fail
      refine bodyPost_ret (res_tmp (t := 2) (u := 3) (r := w.heap.size + 1) rfl rfl A B 0 rfl (by simp [go_sem, gc0, hlt]) (by simp [go_sem, gc1, hlt])) rfl ⟨by rw [hr.out], (by repeat (first | exact Below.refl _ _ | assumption | refine b_then ?_ (by assumption) | refine b_alloc ?_ _ | refine b_drewN ?_ _ | refine b_drew ?_ | refine b_set ?_ (by omega) _ | refine b_set ?_ (by simp) _))⟩
  · have hr := hid (invR_no hv)
    have Hc := hid (vb_no hv)
    go_enter Try.func21, Try.ntmps21
    go_wp2_with fail
    refine (RValid_any _ _ _).mono ?_
    rintro e w1 ⟨rfl, hB⟩
    rw [Hc.out]
    have hc0 : w1.cell? ⟨w.heap.size, 0, none⟩ = some (.int .i64 a) := (hB.cell (p := ⟨w.heap.size, 0, none⟩) (by simp <;> omega)).trans (by simp [go_sem])
    have hc1 : w1.cell? ⟨w.heap.size, 1, none⟩ = some (.int .i64 b) := (hB.cell (p := ⟨w.heap.size, 1, none⟩) (by simp <;> omega)).trans (by simp [go_sem])
    have hc2 : w1.cell? ⟨w.heap.size + 1, 0, none⟩ = some (.int .i64 0) := (hB.cell (p := ⟨w.heap.size + 1, 0, none⟩) (by simp <;> omega)).trans (by simp [go_sem])
    have hc3 : w1.cell? ⟨w.heap.size + 1, 1, none⟩ = some (.int .i64 0) := (hB.cell (p := ⟨w.heap.size + 1, 1, none⟩) (by simp <;> omega)).trans (by simp [go_sem])
    have hf0 : w1.frozen? ⟨w.heap.size, 0, none⟩ = false := (hB.frozen (p := ⟨w.heap.size, 0, none⟩) (by simp <;> omega)).trans (by simp [go_sem])
    have hf1 : w1.frozen? ⟨w.heap.size, 1, none⟩ = false := (hB.frozen (p := ⟨w.heap.size, 1, none⟩) (by simp <;> omega)).trans (by simp [go_sem])
    have hf2 : w1.frozen? ⟨w.heap.size + 1, 0, none⟩ = false := (hB.frozen (p := ⟨w.heap.size + 1, 0, none⟩) (by simp <;> omega)).trans (by simp [go_sem])
    have hf3 : w1.frozen? ⟨w.heap.size + 1, 1, none⟩ = false := (hB.frozen (p := ⟨w.heap.size + 1, 1, none⟩) (by simp <;> omega)).trans (by simp [go_sem])
    go_wp2_with fail
    refine bodyPost_ret (res_tmp (t := 2) (u := 3) (r := w.heap.size + 1) rfl rfl 0 0 70 rfl (by simp [go_sem, hc2]) (by simp [go_sem, hc3])) rfl ⟨by rw [hr.out], (by repeat (first | exact Below.refl _ _ | assumption | refine b_then ?_ (by assumption) | refine b_alloc ?_ _ | refine b_drewN ?_ _ | refine b_drew ?_ | refine b_set ?_ (by omega) _ | refine b_set ?_ (by simp) _))⟩

end Go.Proofs.Ytfcibldknamekaa
