/- part.sample. -/
import Derived.Test.YtbppajenihjfhaaD
import Derived.Test.YtbppajenihjfhaaP
import Derived.IntWalk
namespace Go.Proofs.Ytbppajenihjfhaa
open Go.RowKit
open Go.Lib (hid)

/-- A part of a map. -/
def partV (p q : Tp) (pos : Int) : Value := .agg #[.int .i64 p.k, .int .i64 p.n, .int .i64 p.d, .bool p.r, .int .i64 q.k, .int .i64 q.n, .int .i64 q.d, .bool q.r, .int .i64 pos]

set_option maxRecDepth 100000 in
set_option maxHeartbeats 4000000 in
theorem sample_flat (p q : Tp) (pos tick : Int) (w : World) (h : Leg p q) (hr : p.r = false) (h0 : 0 ≤ p.k) (h1 : p.k ≤ tick) (h2 : tick ≤ 33554432) (h3 : 0 ≤ pos) (h4 : pos ≤ 1125899906842624) :
    Calls Try.prog 84 #[partV p q pos, .int .i64 tick] w fun e w' => e = .returned (.int .i64 (pos + dur p q (tick - p.k))) ∧ Below w.heap.size w w' := by
  have HF := hid (show dur p q (tick - p.k) = (tick - p.k) * p.n / p.d by rw [dur, if_neg (by rw [hr]; decide)])
  unfold partV
  go_enter Try.func84, Try.ntmps84
  have n1 := h.n1; have n2 := h.n2; have d1 := h.d1; have d2 := h.d2
  have m1 := mul_bd (show 0 ≤ tick - p.k by omega) (show tick - p.k ≤ 33554432 by omega) (show 0 ≤ p.n by omega) n2
  go_upto_region 3 with fail
  obtain ⟨V, hV⟩ : ∃ V, V = w.alloc (.cells #[.int .i64 p.k, .int .i64 p.n, .int .i64 p.d, .bool false, .int .i64 q.k, .int .i64 q.n, .int .i64 q.d, .bool q.r, .int .i64 pos] 104) := ⟨_, rfl⟩
  have hwV : Below w.heap.size w V := by rw [hV]; exact b_alloc (Below.refl _ _) _
  have x0 : ∀ v : After V, v.w.cell? ⟨w.heap.size, 0, none⟩ = some (.int .i64 p.k) := new_cell hV rfl rfl
  have x1 : ∀ v : After V, v.w.cell? ⟨w.heap.size, 1, none⟩ = some (.int .i64 p.n) := new_cell hV rfl rfl
  have x2 : ∀ v : After V, v.w.cell? ⟨w.heap.size, 2, none⟩ = some (.int .i64 p.d) := new_cell hV rfl rfl
  have x3 : ∀ v : After V, v.w.cell? ⟨w.heap.size, 3, none⟩ = some (.bool false) := new_cell hV rfl rfl
  have x4 : ∀ v : After V, v.w.cell? ⟨w.heap.size, 4, none⟩ = some (.int .i64 q.k) := new_cell hV rfl rfl
  have x5 : ∀ v : After V, v.w.cell? ⟨w.heap.size, 5, none⟩ = some (.int .i64 q.n) := new_cell hV rfl rfl
  have x6 : ∀ v : After V, v.w.cell? ⟨w.heap.size, 6, none⟩ = some (.int .i64 q.d) := new_cell hV rfl rfl
  have x8 : ∀ v : After V, v.w.cell? ⟨w.heap.size, 8, none⟩ = some (.int .i64 pos) := new_cell hV rfl rfl
  rw [← hV]
  obtain ⟨u, hu⟩ : ∃ u : After V, u.w = V := ⟨After.here V, rfl⟩
  rw [← hu]
  clear hu hV
  obtain ⟨t, ht⟩ : ∃ t, tick - p.k = t := ⟨_, rfl⟩
  rw [ht] at m1 ⊢
  have HT := hid ht; clear ht
  have W1 : IntKind.i64.wrap (t * p.n) = t * p.n := IntWalk.i64_in _ (by omega)
  have W2 : IntKind.i64.wrap ((t * p.n).tdiv p.d) = t * p.n / p.d := IntWalk.i64_quo _ _ (by omega)
  have e1 : 0 ≤ t * p.n / p.d := Int.ediv_nonneg m1.1 (by omega)
  have e2 : t * p.n / p.d ≤ t * p.n := Int.ediv_le_self _ m1.1
  have W3 : IntKind.i64.wrap (pos + t * p.n / p.d) = pos + t * p.n / p.d := IntWalk.i64_in _ (by omega)
  have z1 : (p.d = 0) = False := by simp; omega
  clear m1 e1 e2 n1 n2 d1 d2
  refine wp_region_since (by kernel_rfl) (by kernel_rfl) ?_
  repeat (go_big_quiet_step (fail))
  refine wpQuiet_nil ?_
  intro u7
  go_wp2_with fail
  exact bodyPost_ret (v := .int .i64 (pos + t * p.n / p.d)) (by simp [results, Try.results84, go_sem]) rfl ⟨by rw [HF.out, HT.out], b_then hwV u7.2⟩

set_option maxRecDepth 100000 in
set_option maxHeartbeats 4000000 in
theorem sample_ramp (p q : Tp) (pos tick : Int) (w : World) (h : Leg p q) (hr : p.r = true) (_h0 : 0 ≤ p.k) (h1 : p.k ≤ tick) (_h2 : tick ≤ 33554432) (h3 : 0 ≤ pos) (h4 : pos ≤ 1125899906842624) (ht1 : tick - p.k ≤ q.k - p.k) (_hq : q.k ≤ 33554432) :
    Calls Try.prog 84 #[partV p q pos, .int .i64 tick] w fun e w' => e = .returned (.int .i64 (pos + dur p q (tick - p.k))) ∧ Below w.heap.size w w' := by
  have HF := hid (show dur p q (tick - p.k) = (2 * (q.k - p.k) * p.n * q.d * (tick - p.k) + (q.n * p.d - p.n * q.d) * (tick - p.k) * (tick - p.k)) / (2 * (q.k - p.k) * p.d * q.d) by rw [dur, if_pos hr]; rfl)
  have hn0' := rnum_nonneg h (t := tick - p.k) (by omega) ht1
  unfold rnum at hn0'
  unfold partV
  go_enter Try.func84, Try.ntmps84
  have n1 := h.n1; have n2 := h.n2; have d1 := h.d1; have d2 := h.d2; have k1 := h.w1 hr; have k2 := h.w2 hr
  have bd := ramp_bd h hr (t := tick - p.k) (by omega) (by omega)
  go_upto_region 5 with fail
  obtain ⟨V, hV⟩ : ∃ V, V = w.alloc (.cells #[.int .i64 p.k, .int .i64 p.n, .int .i64 p.d, .bool true, .int .i64 q.k, .int .i64 q.n, .int .i64 q.d, .bool q.r, .int .i64 pos] 104) := ⟨_, rfl⟩
  have hwV : Below w.heap.size w V := by rw [hV]; exact b_alloc (Below.refl _ _) _
  have x0 : ∀ v : After V, v.w.cell? ⟨w.heap.size, 0, none⟩ = some (.int .i64 p.k) := new_cell hV rfl rfl
  have x1 : ∀ v : After V, v.w.cell? ⟨w.heap.size, 1, none⟩ = some (.int .i64 p.n) := new_cell hV rfl rfl
  have x2 : ∀ v : After V, v.w.cell? ⟨w.heap.size, 2, none⟩ = some (.int .i64 p.d) := new_cell hV rfl rfl
  have x3 : ∀ v : After V, v.w.cell? ⟨w.heap.size, 3, none⟩ = some (.bool true) := new_cell hV rfl rfl
  have x4 : ∀ v : After V, v.w.cell? ⟨w.heap.size, 4, none⟩ = some (.int .i64 q.k) := new_cell hV rfl rfl
  have x5 : ∀ v : After V, v.w.cell? ⟨w.heap.size, 5, none⟩ = some (.int .i64 q.n) := new_cell hV rfl rfl
  have x6 : ∀ v : After V, v.w.cell? ⟨w.heap.size, 6, none⟩ = some (.int .i64 q.d) := new_cell hV rfl rfl
  have x8 : ∀ v : After V, v.w.cell? ⟨w.heap.size, 8, none⟩ = some (.int .i64 pos) := new_cell hV rfl rfl
  rw [← hV]
  obtain ⟨u, hu⟩ : ∃ u : After V, u.w = V := ⟨After.here V, rfl⟩
  rw [← hu]
  clear hu hV
  obtain ⟨t, ht⟩ : ∃ t, tick - p.k = t := ⟨_, rfl⟩
  obtain ⟨wh, hwh⟩ : ∃ t, q.k - p.k = t := ⟨_, rfl⟩
  rw [ht] at bd ht1 hn0' ⊢
  rw [hwh] at bd k1 k2 ht1 hn0' ⊢
  have HT := hid ht; have HWH := hid hwh; clear ht hwh
  obtain ⟨b1, b2, b3, b4, b5, b6, b7, b8, b9⟩ := bd
  have W0 : IntKind.i64.wrap (2 * wh) = 2 * wh := IntWalk.i64_in _ (by omega)
  have W1 : IntKind.i64.wrap (2 * wh * p.n) = 2 * wh * p.n := IntWalk.i64_in _ (by omega)
  have W2 : IntKind.i64.wrap (2 * wh * p.n * q.d) = 2 * wh * p.n * q.d := IntWalk.i64_in _ (by omega)
  have W3 : IntKind.i64.wrap (2 * wh * p.n * q.d * t) = 2 * wh * p.n * q.d * t := IntWalk.i64_in _ (by omega)
  have W4 : IntKind.i64.wrap (q.n * p.d) = q.n * p.d := IntWalk.i64_in _ (by omega)
  have W5 : IntKind.i64.wrap (p.n * q.d) = p.n * q.d := IntWalk.i64_in _ (by omega)
  have W6 : IntKind.i64.wrap (q.n * p.d - p.n * q.d) = q.n * p.d - p.n * q.d := IntWalk.i64_in _ (by omega)
  have W7 : IntKind.i64.wrap ((q.n * p.d - p.n * q.d) * t) = (q.n * p.d - p.n * q.d) * t := IntWalk.i64_in _ (by omega)
  have W8 : IntKind.i64.wrap ((q.n * p.d - p.n * q.d) * t * t) = (q.n * p.d - p.n * q.d) * t * t := IntWalk.i64_in _ (by omega)
  have W9 : IntKind.i64.wrap (2 * wh * p.n * q.d * t + (q.n * p.d - p.n * q.d) * t * t) = 2 * wh * p.n * q.d * t + (q.n * p.d - p.n * q.d) * t * t := IntWalk.i64_in _ (by omega)
  have Wa : IntKind.i64.wrap (2 * wh * p.d) = 2 * wh * p.d := IntWalk.i64_in _ (by omega)
  have Wb : IntKind.i64.wrap (2 * wh * p.d * q.d) = 2 * wh * p.d * q.d := IntWalk.i64_in _ (by omega)
  have hn0 : 0 ≤ 2 * wh * p.n * q.d * t + (q.n * p.d - p.n * q.d) * t * t := hn0'
  have Wc : IntKind.i64.wrap ((2 * wh * p.n * q.d * t + (q.n * p.d - p.n * q.d) * t * t).tdiv (2 * wh * p.d * q.d)) = (2 * wh * p.n * q.d * t + (q.n * p.d - p.n * q.d) * t * t) / (2 * wh * p.d * q.d) := IntWalk.i64_quo _ _ (by omega)
  have e1 := Int.ediv_nonneg hn0 (show 0 ≤ 2 * wh * p.d * q.d by omega)
  have e2 : (2 * wh * p.n * q.d * t + (q.n * p.d - p.n * q.d) * t * t) / (2 * wh * p.d * q.d) ≤ 2 * wh * p.n * q.d * t + (q.n * p.d - p.n * q.d) * t * t := Int.ediv_le_self _ hn0
  have Wd : IntKind.i64.wrap (pos + (2 * wh * p.n * q.d * t + (q.n * p.d - p.n * q.d) * t * t) / (2 * wh * p.d * q.d)) = pos + (2 * wh * p.n * q.d * t + (q.n * p.d - p.n * q.d) * t * t) / (2 * wh * p.d * q.d) := IntWalk.i64_in _ (by omega)
  have z1 : (2 * wh * p.d * q.d = 0) = False := by simp only [eq_iff_iff, iff_false]; omega
  clear b1 b2 b3 b4 b5 b6 b7 b8 b9 e1 e2 hn0 hn0' n1 n2 d1 d2 k1 k2 ht1
  refine wp_region_since (by kernel_rfl) (by kernel_rfl) ?_
  repeat (go_big_quiet_step (fail))
  refine wpQuiet_nil ?_
  intro u7
  go_wp2_with fail
  exact bodyPost_ret (v := .int .i64 (pos + (2 * wh * p.n * q.d * t + (q.n * p.d - p.n * q.d) * t * t) / (2 * wh * p.d * q.d))) (by simp [results, Try.results84, go_sem]) rfl ⟨by rw [HF.out, HT.out, HWH.out], b_then hwV u7.2⟩

set_option maxRecDepth 100000 in
set_option maxHeartbeats 4000000 in
theorem sample_far (p q : Tp) (pos tick : Int) (w : World) (h : Leg p q) (hr : p.r = true) (h0 : 0 ≤ p.k) (h1 : p.k ≤ tick) (h2 : tick ≤ 33554432) (_hq : q.k ≤ 33554432) :
    Calls Try.prog 84 #[partV p q pos, .int .i64 tick] w fun e w' => (∃ x : Int, e = .returned (.int .i64 x)) ∧ Below w.heap.size w w' := by
  unfold partV
  go_enter Try.func84, Try.ntmps84
  have n1 := h.n1; have n2 := h.n2; have d1 := h.d1; have d2 := h.d2; have k1 := h.w1 hr; have k2 := h.w2 hr
  have bd := ramp_bd h hr (t := 0) (by omega) (by omega)
  go_upto_region 5 with fail
  obtain ⟨V, hV⟩ : ∃ V, V = w.alloc (.cells #[.int .i64 p.k, .int .i64 p.n, .int .i64 p.d, .bool true, .int .i64 q.k, .int .i64 q.n, .int .i64 q.d, .bool q.r, .int .i64 pos] 104) := ⟨_, rfl⟩
  have hwV : Below w.heap.size w V := by rw [hV]; exact b_alloc (Below.refl _ _) _
  have x0 : ∀ v : After V, v.w.cell? ⟨w.heap.size, 0, none⟩ = some (.int .i64 p.k) := new_cell hV rfl rfl
  have x1 : ∀ v : After V, v.w.cell? ⟨w.heap.size, 1, none⟩ = some (.int .i64 p.n) := new_cell hV rfl rfl
  have x2 : ∀ v : After V, v.w.cell? ⟨w.heap.size, 2, none⟩ = some (.int .i64 p.d) := new_cell hV rfl rfl
  have x3 : ∀ v : After V, v.w.cell? ⟨w.heap.size, 3, none⟩ = some (.bool true) := new_cell hV rfl rfl
  have x4 : ∀ v : After V, v.w.cell? ⟨w.heap.size, 4, none⟩ = some (.int .i64 q.k) := new_cell hV rfl rfl
  have x5 : ∀ v : After V, v.w.cell? ⟨w.heap.size, 5, none⟩ = some (.int .i64 q.n) := new_cell hV rfl rfl
  have x6 : ∀ v : After V, v.w.cell? ⟨w.heap.size, 6, none⟩ = some (.int .i64 q.d) := new_cell hV rfl rfl
  have x8 : ∀ v : After V, v.w.cell? ⟨w.heap.size, 8, none⟩ = some (.int .i64 pos) := new_cell hV rfl rfl
  rw [← hV]
  obtain ⟨u, hu⟩ : ∃ u : After V, u.w = V := ⟨After.here V, rfl⟩
  rw [← hu]
  clear hu hV
  obtain ⟨t, ht⟩ : ∃ t, tick - p.k = t := ⟨_, rfl⟩
  obtain ⟨wh, hwh⟩ : ∃ t, q.k - p.k = t := ⟨_, rfl⟩
  rw [ht]
  rw [hwh] at bd k1 k2 ⊢
  clear ht hwh
  obtain ⟨b1, b2, -, b4, b5, -, -, b8, b9⟩ := bd
  have W0 : IntKind.i64.wrap (2 * wh) = 2 * wh := IntWalk.i64_in _ (by omega)
  have W1 : IntKind.i64.wrap (2 * wh * p.n) = 2 * wh * p.n := IntWalk.i64_in _ (by omega)
  have W2 : IntKind.i64.wrap (2 * wh * p.n * q.d) = 2 * wh * p.n * q.d := IntWalk.i64_in _ (by omega)
  have W4 : IntKind.i64.wrap (q.n * p.d) = q.n * p.d := IntWalk.i64_in _ (by omega)
  have W5 : IntKind.i64.wrap (p.n * q.d) = p.n * q.d := IntWalk.i64_in _ (by omega)
  have W6 : IntKind.i64.wrap (q.n * p.d - p.n * q.d) = q.n * p.d - p.n * q.d := IntWalk.i64_in _ (by omega)
  have Wa : IntKind.i64.wrap (2 * wh * p.d) = 2 * wh * p.d := IntWalk.i64_in _ (by omega)
  have Wb : IntKind.i64.wrap (2 * wh * p.d * q.d) = 2 * wh * p.d * q.d := IntWalk.i64_in _ (by omega)
  have z1 : (2 * wh * p.d * q.d = 0) = False := by simp only [eq_iff_iff, iff_false]; omega
  clear b1 b2 b4 b5 b8 b9 n1 n2 d1 d2 k1 k2
  refine wp_region_since (by kernel_rfl) (by kernel_rfl) ?_
  repeat (go_big_quiet_step (fail))
  refine wpQuiet_nil ?_
  intro u7
  go_wp2_with fail
  exact bodyPost_ret (v := .int .i64 (wrap64 (pos + wrap64 ((wrap64 (wrap64 (2 * wh * p.n * q.d * t) + wrap64 (wrap64 ((q.n * p.d - p.n * q.d) * t) * t))).tdiv (2 * wh * p.d * q.d))))) (by simp [results, Try.results84, go_sem]) rfl ⟨⟨_, rfl⟩, b_then hwV u7.2⟩

end Go.Proofs.Ytbppajenihjfhaa
