/- fixed: Clip, down, the forms of a line and a bend. -/
import Derived.Test.YtbppajenihjfhaaC1
import Derived.IntWalk
namespace Go.Proofs.Ytbppajenihjfhaa
open Go.RowKit
open Go.Lib (hid)

/-- A sample, clipped. -/
def clipT (x : Int) : Int := if x < -2147483648 then -2147483648 else if 2147483647 < x then 2147483647 else x
theorem clip_in {x : Int} (h1 : -2147483648 ≤ x) (h2 : x ≤ 2147483647) : clipT x = x := by
  unfold clipT; rw [if_neg (by omega), if_neg (by omega)]
theorem clip_rng (x : Int) : -2147483648 ≤ clipT x ∧ clipT x ≤ 2147483647 := by
  unfold clipT; split
  · omega
  · split <;> omega
set_option maxRecDepth 100000 in
set_option maxHeartbeats 4000000 in
theorem Clip_any (x : Int) (w : World) : Calls Try.prog 109 #[.int .i64 x] w fun e w' => e = .returned (.int .i64 (clipT x)) ∧ w = w' := by
  go_enter Try.func109, Try.ntmps109
  rcases h1 : decide (x < -2147483648) with _ | _
  · rcases h2 : decide (2147483647 < x) with _ | _
    · have hc := hid (show clipT x = x from clip_in (by simp at h1; omega) (by simp at h2; omega))
      go_wp2_with fail
      exact bodyPost_ret (v := .int .i64 x) (by simp [results, Try.results109, go_sem]) rfl ⟨by rw [hc.out], rfl⟩
    · have hc := hid (show clipT x = 2147483647 by unfold clipT; rw [if_neg (by simpa using h1), if_pos (by simpa using h2)])
      go_wp2_with fail
      exact bodyPost_ret (v := .int .i64 2147483647) (by simp [results, Try.results109, go_sem]) rfl ⟨by rw [hc.out], rfl⟩
  · have hc := hid (show clipT x = -2147483648 by unfold clipT; rw [if_pos (by simpa using h1)])
    go_wp2_with fail
    exact bodyPost_ret (v := .int .i64 (-2147483648)) (by simp [results, Try.results109, go_sem]) rfl ⟨by rw [hc.out], rfl⟩
theorem neg_div {a b : Int} (hb : 0 < b) : -((-a + b - 1) / b) = a / b := by
  have h1 := Int.mul_ediv_self_le (x := a) (k := b) (by omega)
  have h2 := Int.lt_mul_ediv_self_add (x := a) hb
  have e1 : -(a / b) * b = -(b * (a / b)) := by grind
  have e2 : (-(a / b) + 1) * b = -(b * (a / b)) + b := by grind
  have l1 := Int.le_ediv_of_mul_le hb (show -(a / b) * b ≤ -a + b - 1 by omega)
  have l2 := Int.ediv_lt_of_lt_mul hb (show -a + b - 1 < (-(a / b) + 1) * b by omega)
  omega
set_option maxRecDepth 100000 in
set_option maxHeartbeats 4000000 in
theorem down_any (x y : Int) (w : World) (h1 : -2305843009213693952 ≤ x) (h2 : x ≤ 2305843009213693952) (h3 : 0 < y) (h4 : y ≤ 2305843009213693952) : Calls Try.prog 108 #[.int .i64 x, .int .i64 y] w fun e w' => e = .returned (.int .i64 (x / y)) ∧ w = w' := by
  by_cases hx : 0 ≤ x
  · have d1 : decide (0 ≤ x) = true := decide_eq_true hx
    have w1 : IntKind.i64.wrap (x.tdiv y) = x / y := IntWalk.i64_quo _ _ (by omega)
    have z1 : ¬ y = 0 := by omega
    go_enter Try.func108, Try.ntmps108
    go_wp2_with fail
    exact bodyPost_ret (v := .int .i64 (x / y)) (by simp [results, Try.results108, go_sem]) rfl ⟨rfl, rfl⟩
  · have d1 : decide (0 ≤ x) = false := decide_eq_false hx
    have e1 : 0 ≤ (-x + y - 1) / y := Int.ediv_nonneg (by omega) (by omega)
    have e2 : (-x + y - 1) / y ≤ -x + y - 1 := Int.ediv_le_self _ (by omega)
    have w1 : IntKind.i64.wrap (-x) = -x := IntWalk.i64_in _ (by omega)
    have w2 : IntKind.i64.wrap (-x + y) = -x + y := IntWalk.i64_in _ (by omega)
    have w3 : IntKind.i64.wrap (-x + y - 1) = -x + y - 1 := IntWalk.i64_in _ (by omega)
    have w4 : IntKind.i64.wrap ((-x + y - 1).tdiv y) = (-x + y - 1) / y := IntWalk.i64_quo _ _ (by omega)
    have w5 : IntKind.i64.wrap (-((-x + y - 1) / y)) = -((-x + y - 1) / y) := IntWalk.i64_in _ (by omega)
    have z1 : ¬ y = 0 := by omega
    have hn := hid (neg_div (a := x) h3)
    go_enter Try.func108, Try.ntmps108
    go_wp2_with fail
    exact bodyPost_ret (v := .int .i64 (-((-x + y - 1) / y))) (by simp [results, Try.results108, go_sem]) rfl ⟨by rw [hn.out], rfl⟩
/-- Bounds of a weighted sum of two samples. -/
theorem mix_bd {va vb p q B : Int} (a1 : -2147483648 ≤ va) (a2 : va ≤ 2147483647) (b1 : -2147483648 ≤ vb) (b2 : vb ≤ 2147483647) (hp0 : 0 ≤ p) (hp : p ≤ B) (hq0 : 0 ≤ q) (hq : q ≤ B) :
    -(2147483648 * B) ≤ va * p ∧ va * p ≤ 2147483648 * B ∧ -(2147483648 * B) ≤ vb * q ∧ vb * q ≤ 2147483648 * B := by
  have x1 := Int.mul_le_mul_of_nonneg_right (show va ≤ 2147483648 by omega) hp0
  have x2 := Int.mul_le_mul_of_nonneg_right a1 hp0
  have y1 := Int.mul_le_mul_of_nonneg_right (show vb ≤ 2147483648 by omega) hq0
  have y2 := Int.mul_le_mul_of_nonneg_right b1 hq0
  refine ⟨?_, ?_, ?_, ?_⟩ <;> omega
set_option maxRecDepth 100000 in
set_option maxHeartbeats 4000000 in
theorem line1_any (va vb dn lf : Int) (p q : Nat) (w : World) (a1 : -2147483648 ≤ va) (a2 : va ≤ 2147483647) (b1 : -2147483648 ≤ vb) (b2 : vb ≤ 2147483647) (hd0 : 0 ≤ dn) (hd : dn ≤ 16777216) (hl0 : 0 ≤ lf) (hl : lf ≤ 16777216) (hs : 0 < dn + lf)
    (h1 : w.cell? ⟨p, 0, none⟩ = some (.int .i64 va)) (h2 : w.cell? ⟨q, 0, none⟩ = some (.int .i64 vb)) :
    Calls Try.prog 107 #[.int .i64 dn, .int .i64 lf, .pointer (some ⟨p, 0, none⟩), .pointer (some ⟨q, 0, none⟩)] w fun e w' => e = .returned (.int .i64 ((va * lf + vb * dn) / (dn + lf))) ∧ Below w.heap.size w w' := by
  have c1 := after_cell (cell_lt h1) h1
  have c2 := after_cell (cell_lt h2) h2
  obtain ⟨m1, m2, m3, m4⟩ := mix_bd a1 a2 b1 b2 hl0 hl hd0 hd
  have e1 := clip_in a1 a2
  have e2 := clip_in b1 b2
  have k1 : ∀ (x : Int) (y : After w), Calls Try.prog 109 #[.int .i64 x] y.w fun e w'' => e = .returned (.int .i64 (clipT x)) ∧ ∃ u : After w, w'' = u.w := fun x y => after_same (Clip_any x y.w)
  have k3 : ∀ y : After w, Calls Try.prog 108 #[.int .i64 (va * lf + vb * dn), .int .i64 (dn + lf)] y.w fun e w'' => e = .returned (.int .i64 ((va * lf + vb * dn) / (dn + lf))) ∧ ∃ u : After w, w'' = u.w := fun y => after_same (down_any _ _ y.w (by omega) (by omega) hs (by omega))
  have w1 : IntKind.i64.wrap (va * lf) = va * lf := IntWalk.i64_in _ (by omega)
  have w2 : IntKind.i64.wrap (vb * dn) = vb * dn := IntWalk.i64_in _ (by omega)
  have w3 : IntKind.i64.wrap (va * lf + vb * dn) = va * lf + vb * dn := IntWalk.i64_in _ (by omega)
  have w4 : IntKind.i64.wrap (dn + lf) = dn + lf := IntWalk.i64_in _ (by omega)
  clear m1 m2 m3 m4 h1 h2
  go_enter Try.func107, Try.ntmps107
  go_wp2_with fail
  obtain ⟨u, hu⟩ : ∃ u : After w, u.w = w := ⟨After.here w, rfl⟩
  rw [← hu]
  clear hu
  refine wp_region_since (by kernel_rfl) (by kernel_rfl) ?_
  repeat (go_big_quiet_step (((first | (go_at_call 109; exact k1 _ _) | (go_at_call 108; exact k3 _)))))
  refine wpQuiet_nil ?_
  intro u9
  go_wp2_with fail
  exact bodyPost_ret (v := .int .i64 ((va * lf + vb * dn) / (dn + lf))) (by simp [results, Try.results107, go_sem]) rfl ⟨rfl, u9.2⟩
set_option maxRecDepth 100000 in
set_option maxHeartbeats 4000000 in
theorem bend1_any (va vb dn lf wa wb : Int) (p q r s : Nat) (w : World) (a1 : -2147483648 ≤ va) (a2 : va ≤ 2147483647) (b1 : -2147483648 ≤ vb) (b2 : vb ≤ 2147483647) (hd0 : 0 ≤ dn) (hd : dn ≤ 16777216) (hl0 : 0 ≤ lf) (hl : lf ≤ 16777216) (hs : 0 < dn + lf)
    (x1 : 1 ≤ wa) (x2 : wa ≤ 16) (y1 : 1 ≤ wb) (y2 : wb ≤ 16)
    (h1 : w.cell? ⟨p, 0, none⟩ = some (.int .i64 wb)) (h2 : w.cell? ⟨q, 0, none⟩ = some (.int .i64 wa)) (h3 : w.cell? ⟨r, 0, none⟩ = some (.int .i64 va)) (h4 : w.cell? ⟨s, 0, none⟩ = some (.int .i64 vb)) :
    Calls Try.prog 110 #[.int .i64 dn, .int .i64 lf, .pointer (some ⟨p, 0, none⟩), .pointer (some ⟨q, 0, none⟩), .pointer (some ⟨r, 0, none⟩), .pointer (some ⟨s, 0, none⟩)] w
      fun e w' => e = .returned (.int .i64 ((va * (lf * wa) + vb * (dn * wb)) / (dn * wb + lf * wa))) ∧ Below w.heap.size w w' := by
  have c1 := after_cell (cell_lt h1) h1
  have c2 := after_cell (cell_lt h2) h2
  have c3 := after_cell (cell_lt h3) h3
  have c4 := after_cell (cell_lt h4) h4
  have n1 := mul_bd hl0 hl (show 0 ≤ wa by omega) x2
  have n2 := mul_bd hd0 hd (show 0 ≤ wb by omega) y2
  have n3 : 0 < dn * wb + lf * wa := by
    have p1 := Int.mul_le_mul_of_nonneg_left y1 hd0
    have p2 := Int.mul_le_mul_of_nonneg_left x1 hl0
    omega
  have w5 : IntKind.i64.wrap (lf * wa) = lf * wa := IntWalk.i64_in _ (by omega)
  have w6 : IntKind.i64.wrap (dn * wb) = dn * wb := IntWalk.i64_in _ (by omega)
  obtain ⟨m1, m2, m3, m4⟩ := mix_bd a1 a2 b1 b2 n1.1 n1.2 n2.1 n2.2
  have e1 := clip_in a1 a2
  have e2 := clip_in b1 b2
  have k1 : ∀ (x : Int) (y : After w), Calls Try.prog 109 #[.int .i64 x] y.w fun e w'' => e = .returned (.int .i64 (clipT x)) ∧ ∃ u : After w, w'' = u.w := fun x y => after_same (Clip_any x y.w)
  have k3 : ∀ y : After w, Calls Try.prog 108 #[.int .i64 (va * (lf * wa) + vb * (dn * wb)), .int .i64 (dn * wb + lf * wa)] y.w fun e w'' => e = .returned (.int .i64 ((va * (lf * wa) + vb * (dn * wb)) / (dn * wb + lf * wa))) ∧ ∃ u : After w, w'' = u.w := fun y => after_same (down_any _ _ y.w (by omega) (by omega) n3 (by omega))
  have w1 : IntKind.i64.wrap (va * (lf * wa)) = va * (lf * wa) := IntWalk.i64_in _ (by omega)
  have w2 : IntKind.i64.wrap (vb * (dn * wb)) = vb * (dn * wb) := IntWalk.i64_in _ (by omega)
  have w3 : IntKind.i64.wrap (va * (lf * wa) + vb * (dn * wb)) = va * (lf * wa) + vb * (dn * wb) := IntWalk.i64_in _ (by omega)
  have w4 : IntKind.i64.wrap (dn * wb + lf * wa) = dn * wb + lf * wa := IntWalk.i64_in _ (by omega)
  clear m1 m2 m3 m4 h1 h2 h3 h4 n1 n2 n3
  go_enter Try.func110, Try.ntmps110
  go_wp2_with fail
  obtain ⟨u, hu⟩ : ∃ u : After w, u.w = w := ⟨After.here w, rfl⟩
  rw [← hu]
  clear hu
  refine wp_region_since (by kernel_rfl) (by kernel_rfl) ?_
  repeat (go_big_quiet_step (fail))
  refine wpQuiet_nil ?_
  intro u9
  go_wp2_with fail
  clear w5 w6
  obtain ⟨L, hL⟩ : ∃ L, lf * wa = L := ⟨_, rfl⟩
  obtain ⟨D, hD⟩ : ∃ D, dn * wb = D := ⟨_, rfl⟩
  simp only [hL, hD] at w1 w2 w3 w4 k3 ⊢
  have HL := hid hL; have HD := hid hD; clear hL hD
  refine wp_region_since (by kernel_rfl) (by kernel_rfl) ?_
  repeat (go_big_quiet_step (((first | (go_at_call 109; exact k1 _ _) | (go_at_call 108; exact k3 _)))))
  refine wpQuiet_nil ?_
  intro u8
  go_wp2_with fail
  exact bodyPost_ret (v := .int .i64 ((va * L + vb * D) / (D + L))) (by simp [results, Try.results110, go_sem]) rfl ⟨by rw [HL.out, HD.out], u8.2⟩
end Go.Proofs.Ytbppajenihjfhaa
