/- valid, Valid, Less of records. -/
import Derived.Test.YtdnjpfjiaomlgaaC1
namespace Go.Proofs.Ytdnjpfjiaomlgaa
open Go.RowKit
open Go.Lib (hid)

theorem rk_no {d f k i o : Int} (h : ¬ (0 ≤ d ∧ d ≤ 15 ∧ 0 ≤ f ∧ f ≤ 1099511627776 ∧ 1 ≤ k ∧ k ≤ 16777216 ∧ 0 ≤ i ∧ i ≤ 1048576 ∧ 0 ≤ o ∧ o ≤ 1048576)) : rcOk ⟨d, f, k, i, o⟩ = false := Bool.eq_false_iff.2 fun hk => h ((rcOk_iff _).1 hk)
theorem rk_yes {d f k i o : Int} (h : 0 ≤ d ∧ d ≤ 15 ∧ 0 ≤ f ∧ f ≤ 1099511627776 ∧ 1 ≤ k ∧ k ≤ 16777216 ∧ 0 ≤ i ∧ i ≤ 1048576 ∧ 0 ≤ o ∧ o ≤ 1048576) : rcOk ⟨d, f, k, i, o⟩ = true := (rcOk_iff _).2 h
theorem vin_any (n lo hi : Int) (w : World) : Calls Try.prog 31 #[.int .i64 n, .int .i64 lo, .int .i64 hi] w fun e w' => e = .returned (.bool (decide (lo ≤ n ∧ n ≤ hi))) ∧ Below w.heap.size w w' := by
  go_enter Try.func31, Try.ntmps31
  rcases h1 : decide (lo ≤ n) with _ | _
  · go_wp2_with fail
    exact bodyPost_ret (v := .bool false) (by simp [results, Try.results31, go_sem]) rfl ⟨by rw [decide_eq_false (fun h => by simp at h1; omega)], Below.refl _ _⟩
  · rcases h2 : decide (n ≤ hi) with _ | _
    · go_wp2_with fail
      exact bodyPost_ret (v := .bool false) (by simp [results, Try.results31, go_sem]) rfl ⟨by rw [decide_eq_false (fun h => by simp at h2; omega)], Below.refl _ _⟩
    · go_wp2_with fail
      exact bodyPost_ret (v := .bool true) (by simp [results, Try.results31, go_sem]) rfl ⟨by rw [decide_eq_true (by simp at h1 h2; omega)], Below.refl _ _⟩
set_option maxRecDepth 100000 in
set_option maxHeartbeats 4000000 in
theorem valid_any (d f k i o : Int) (w : World) : Calls Try.prog 21 #[.agg #[.int .i64 d, .int .i64 f, .int .i64 k, .int .i64 i, .int .i64 o]] w fun e w' => e = .returned (.bool (rcOk ⟨d, f, k, i, o⟩)) ∧ Below w.heap.size w w' := by
  go_enter Try.func21, Try.ntmps21
  go_upto_region 1 with (fail)
  obtain ⟨V, hV⟩ : ∃ V, V = (w.alloc (.cells #[.int .i64 d, .int .i64 f, .int .i64 k, .int .i64 i, .int .i64 o] 24)) := ⟨_, rfl⟩
  have r0 : ∀ v : After V, v.w.cell? ⟨w.heap.size, 0, none⟩ = some (.int .i64 d) := after_cell (by rw [hV]; first | (simp; done) | omega | (simp; omega)) (by rw [hV]; (repeat (first | with_reducible assumption | exact bn (by first | (simp; done) | omega | (simp; omega)) rfl | refine bo (by first | (simp; done) | omega | (simp; omega)) ?_)))
  have fr0 : ∀ v : After V, v.w.frozen? ⟨w.heap.size, 0, none⟩ = false := after_frozen (by rw [hV]; first | (simp; done) | omega | (simp; omega)) (by rw [hV]; (repeat (first | exact fn (by first | (simp; done) | omega | (simp; omega)) | refine fo (by first | (simp; done) | omega | (simp; omega)) ?_)))
  have r1 : ∀ v : After V, v.w.cell? ⟨w.heap.size, 1, none⟩ = some (.int .i64 f) := after_cell (by rw [hV]; first | (simp; done) | omega | (simp; omega)) (by rw [hV]; (repeat (first | with_reducible assumption | exact bn (by first | (simp; done) | omega | (simp; omega)) rfl | refine bo (by first | (simp; done) | omega | (simp; omega)) ?_)))
  have fr1 : ∀ v : After V, v.w.frozen? ⟨w.heap.size, 1, none⟩ = false := after_frozen (by rw [hV]; first | (simp; done) | omega | (simp; omega)) (by rw [hV]; (repeat (first | exact fn (by first | (simp; done) | omega | (simp; omega)) | refine fo (by first | (simp; done) | omega | (simp; omega)) ?_)))
  have r2 : ∀ v : After V, v.w.cell? ⟨w.heap.size, 2, none⟩ = some (.int .i64 k) := after_cell (by rw [hV]; first | (simp; done) | omega | (simp; omega)) (by rw [hV]; (repeat (first | with_reducible assumption | exact bn (by first | (simp; done) | omega | (simp; omega)) rfl | refine bo (by first | (simp; done) | omega | (simp; omega)) ?_)))
  have fr2 : ∀ v : After V, v.w.frozen? ⟨w.heap.size, 2, none⟩ = false := after_frozen (by rw [hV]; first | (simp; done) | omega | (simp; omega)) (by rw [hV]; (repeat (first | exact fn (by first | (simp; done) | omega | (simp; omega)) | refine fo (by first | (simp; done) | omega | (simp; omega)) ?_)))
  have r3 : ∀ v : After V, v.w.cell? ⟨w.heap.size, 3, none⟩ = some (.int .i64 i) := after_cell (by rw [hV]; first | (simp; done) | omega | (simp; omega)) (by rw [hV]; (repeat (first | with_reducible assumption | exact bn (by first | (simp; done) | omega | (simp; omega)) rfl | refine bo (by first | (simp; done) | omega | (simp; omega)) ?_)))
  have fr3 : ∀ v : After V, v.w.frozen? ⟨w.heap.size, 3, none⟩ = false := after_frozen (by rw [hV]; first | (simp; done) | omega | (simp; omega)) (by rw [hV]; (repeat (first | exact fn (by first | (simp; done) | omega | (simp; omega)) | refine fo (by first | (simp; done) | omega | (simp; omega)) ?_)))
  have r4 : ∀ v : After V, v.w.cell? ⟨w.heap.size, 4, none⟩ = some (.int .i64 o) := after_cell (by rw [hV]; first | (simp; done) | omega | (simp; omega)) (by rw [hV]; (repeat (first | with_reducible assumption | exact bn (by first | (simp; done) | omega | (simp; omega)) rfl | refine bo (by first | (simp; done) | omega | (simp; omega)) ?_)))
  have fr4 : ∀ v : After V, v.w.frozen? ⟨w.heap.size, 4, none⟩ = false := after_frozen (by rw [hV]; first | (simp; done) | omega | (simp; omega)) (by rw [hV]; (repeat (first | exact fn (by first | (simp; done) | omega | (simp; omega)) | refine fo (by first | (simp; done) | omega | (simp; omega)) ?_)))
  have zr : ∀ v : After V, w.heap.size < v.w.heap.size := after_size (by rw [hV]; first | (simp; done) | omega | (simp; omega))
  have hwV : Below w.heap.size w V := by rw [hV]; exact (by repeat (first | exact Below.refl _ _ | assumption | refine b_then ?_ (by assumption) | refine b_alloc ?_ _ | refine b_drewN ?_ _ | refine b_drew ?_ | refine b_set ?_ (by omega) _ | refine b_set ?_ (by simp) _))
  have WV := hid (after_below hwV)
  rw [← hV]
  obtain ⟨u0, hu⟩ : ∃ u : After V, u.w = V := ⟨After.here V, rfl⟩
  rw [← hu]
  clear hu hV
  go_wp2_with fail
  refine (met (vin_any d 0 15 u0.w)).mono ?_
  rintro e _ ⟨rfl, u1, rfl⟩
  rcases h0 : decide (0 ≤ d ∧ d ≤ 15) with _ | _
  · go_wp2_with fail
    exact bodyPost_ret (v := .bool false) (by simp [results, Try.results21, go_sem]) rfl ⟨by rw [rk_no (by simp at h0; omega)], WV.out u1⟩
  · skip
    go_wp2_with fail
    refine (met (vin_any f 0 1099511627776 u1.w)).mono ?_
    rintro e _ ⟨rfl, u2, rfl⟩
    rcases h1 : decide (0 ≤ f ∧ f ≤ 1099511627776) with _ | _
    · go_wp2_with fail
      exact bodyPost_ret (v := .bool false) (by simp [results, Try.results21, go_sem]) rfl ⟨by rw [rk_no (by simp at h0 h1; omega)], WV.out u2⟩
    · skip
      go_wp2_with fail
      refine (met (vin_any k 1 16777216 u2.w)).mono ?_
      rintro e _ ⟨rfl, u3, rfl⟩
      rcases h2 : decide (1 ≤ k ∧ k ≤ 16777216) with _ | _
      · go_wp2_with fail
        exact bodyPost_ret (v := .bool false) (by simp [results, Try.results21, go_sem]) rfl ⟨by rw [rk_no (by simp at h0 h1 h2; omega)], WV.out u3⟩
      · skip
        go_wp2_with fail
        refine (met (vin_any i 0 1048576 u3.w)).mono ?_
        rintro e _ ⟨rfl, u4, rfl⟩
        rcases h3 : decide (0 ≤ i ∧ i ≤ 1048576) with _ | _
        · go_wp2_with fail
          exact bodyPost_ret (v := .bool false) (by simp [results, Try.results21, go_sem]) rfl ⟨by rw [rk_no (by simp at h0 h1 h2 h3; omega)], WV.out u4⟩
        · skip
          go_wp2_with fail
          refine (met (vin_any o 0 1048576 u4.w)).mono ?_
          rintro e _ ⟨rfl, u5, rfl⟩
          rcases h4 : decide (0 ≤ o ∧ o ≤ 1048576) with _ | _
          · go_wp2_with fail
            exact bodyPost_ret (v := .bool false) (by simp [results, Try.results21, go_sem]) rfl ⟨by rw [rk_no (by simp at h0 h1 h2 h3 h4; omega)], WV.out u5⟩
          · skip
            go_wp2_with fail
            exact bodyPost_ret (v := .bool true) (by simp [results, Try.results21, go_sem]) rfl ⟨by rw [rk_yes (by simp at h0 h1 h2 h3 h4; omega)], WV.out u5⟩

set_option maxRecDepth 100000 in
set_option maxHeartbeats 4000000 in
theorem rvalid_any (d f k i o : Int) (w : World) : Calls Try.prog 24 #[.agg #[.int .i64 d, .int .i64 f, .int .i64 k, .int .i64 i, .int .i64 o]] w fun e w' => e = .returned (.bool (rcOk ⟨d, f, k, i, o⟩)) ∧ Below w.heap.size w w' := by
  go_enter Try.func24, Try.ntmps24
  rcases h0 : decide (0 ≤ d) with _ | _
  · skip
    go_wp2_with fail
    exact bodyPost_ret (v := .bool false) (by simp [results, Try.results24, go_sem]) rfl ⟨by rw [rk_no (by simp at h0; omega)], b_alloc (Below.refl _ _) _⟩
  · skip
    rcases h1 : decide (d < 16) with _ | _
    · skip
      go_wp2_with fail
      exact bodyPost_ret (v := .bool false) (by simp [results, Try.results24, go_sem]) rfl ⟨by rw [rk_no (by simp at h0 h1; omega)], b_alloc (Below.refl _ _) _⟩
    · skip
      rcases h2 : decide (0 ≤ f) with _ | _
      · skip
        go_wp2_with fail
        exact bodyPost_ret (v := .bool false) (by simp [results, Try.results24, go_sem]) rfl ⟨by rw [rk_no (by simp at h0 h1 h2; omega)], b_alloc (Below.refl _ _) _⟩
      · skip
        rcases h3 : decide (f ≤ 1099511627776) with _ | _
        · skip
          go_wp2_with fail
          exact bodyPost_ret (v := .bool false) (by simp [results, Try.results24, go_sem]) rfl ⟨by rw [rk_no (by simp at h0 h1 h2 h3; omega)], b_alloc (Below.refl _ _) _⟩
        · skip
          rcases h4 : decide (1 ≤ k) with _ | _
          · skip
            go_wp2_with fail
            exact bodyPost_ret (v := .bool false) (by simp [results, Try.results24, go_sem]) rfl ⟨by rw [rk_no (by simp at h0 h1 h2 h3 h4; omega)], b_alloc (Below.refl _ _) _⟩
          · skip
            rcases h5 : decide (k ≤ 16777216) with _ | _
            · skip
              go_wp2_with fail
              exact bodyPost_ret (v := .bool false) (by simp [results, Try.results24, go_sem]) rfl ⟨by rw [rk_no (by simp at h0 h1 h2 h3 h4 h5; omega)], b_alloc (Below.refl _ _) _⟩
            · skip
              rcases h6 : decide (0 ≤ i) with _ | _
              · skip
                go_wp2_with fail
                exact bodyPost_ret (v := .bool false) (by simp [results, Try.results24, go_sem]) rfl ⟨by rw [rk_no (by simp at h0 h1 h2 h3 h4 h5 h6; omega)], b_alloc (Below.refl _ _) _⟩
              · skip
                rcases h7 : decide (i ≤ 1048576) with _ | _
                · skip
                  go_wp2_with fail
                  exact bodyPost_ret (v := .bool false) (by simp [results, Try.results24, go_sem]) rfl ⟨by rw [rk_no (by simp at h0 h1 h2 h3 h4 h5 h6 h7; omega)], b_alloc (Below.refl _ _) _⟩
                · skip
                  rcases h8 : decide (0 ≤ o) with _ | _
                  · skip
                    go_wp2_with fail
                    exact bodyPost_ret (v := .bool false) (by simp [results, Try.results24, go_sem]) rfl ⟨by rw [rk_no (by simp at h0 h1 h2 h3 h4 h5 h6 h7 h8; omega)], b_alloc (Below.refl _ _) _⟩
                  · skip
                    rcases h9 : decide (o ≤ 1048576) with _ | _
                    · skip
                      go_wp2_with fail
                      exact bodyPost_ret (v := .bool false) (by simp [results, Try.results24, go_sem]) rfl ⟨by rw [rk_no (by simp at h0 h1 h2 h3 h4 h5 h6 h7 h8 h9; omega)], b_alloc (Below.refl _ _) _⟩
                    · skip
                      go_wp2_with fail
                      exact bodyPost_ret (v := .bool true) (by simp [results, Try.results24, go_sem]) rfl ⟨by rw [rk_yes (by simp at h0 h1 h2 h3 h4 h5 h6 h7 h8 h9; omega)], b_alloc (Below.refl _ _) _⟩

theorem rlt_d {d f k i o d' f' k' i' o' : Int} (h : d ≠ d') : decide (RLt ⟨d, f, k, i, o⟩ ⟨d', f', k', i', o'⟩) = decide (d < d') := decide_eq_decide.2 (by unfold RLt; dsimp only; omega)
theorem rlt_f {d f k i o d' f' k' i' o' : Int} (h : d = d') (h2 : f ≠ f') : decide (RLt ⟨d, f, k, i, o⟩ ⟨d', f', k', i', o'⟩) = decide (f < f') := decide_eq_decide.2 (by unfold RLt; dsimp only; omega)
theorem rlt_k {d f k i o d' f' k' i' o' : Int} (h : d = d') (h2 : f = f') : decide (RLt ⟨d, f, k, i, o⟩ ⟨d', f', k', i', o'⟩) = decide (k < k') := decide_eq_decide.2 (by unfold RLt; dsimp only; omega)
set_option maxRecDepth 100000 in
set_option maxHeartbeats 4000000 in
theorem less_any (d f k i o d' f' k' i' o' : Int) (w : World) : Calls Try.prog 25 #[.agg #[.int .i64 d, .int .i64 f, .int .i64 k, .int .i64 i, .int .i64 o], .agg #[.int .i64 d', .int .i64 f', .int .i64 k', .int .i64 i', .int .i64 o']] w fun e w' => e = .returned (.bool (decide (RLt ⟨d, f, k, i, o⟩ ⟨d', f', k', i', o'⟩))) ∧ Below w.heap.size w w' := by
  go_enter Try.func25, Try.ntmps25
  rcases h0 : (d != d') with _ | _
  · rcases h1 : (f != f') with _ | _
    · go_wp2_with fail
      exact bodyPost_ret (v := .bool (decide (k < k'))) (by simp [results, Try.results25, go_sem]) rfl ⟨by rw [rlt_k (by simpa using h0) (by simpa using h1)], b_alloc (b_alloc (Below.refl _ _) _) _⟩
    · go_wp2_with fail
      exact bodyPost_ret (v := .bool (decide (f < f'))) (by simp [results, Try.results25, go_sem]) rfl ⟨by rw [rlt_f (by simpa using h0) (by simpa using h1)], b_alloc (b_alloc (Below.refl _ _) _) _⟩
  · go_wp2_with fail
    exact bodyPost_ret (v := .bool (decide (d < d'))) (by simp [results, Try.results25, go_sem]) rfl ⟨by rw [rlt_d (by simpa using h0)], b_alloc (b_alloc (Below.refl _ _) _) _⟩
end Go.Proofs.Ytdnjpfjiaomlgaa
