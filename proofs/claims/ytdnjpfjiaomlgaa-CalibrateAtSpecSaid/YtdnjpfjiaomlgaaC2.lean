/- The order of keys: cmp.Compare, slices.Compare on rows of three numbers. -/
import Derived.Test.YtdnjpfjiaomlgaaC1
namespace Go.Proofs.Ytdnjpfjiaomlgaa
open Go.RowKit
open Go.Lib (hid)

theorem isNaN_any (x : Int) (w : World) : Calls Try.prog 44 #[.int .i64 x] w fun e w' => e = .returned (.bool false) ∧ Below w.heap.size w w' := by
  go_enter Try.func44, Try.ntmps44
  go_wp2_with fail
  exact bodyPost_ret (v := .bool false) (by simp [results, Try.results44, go_sem]) rfl ⟨rfl, (by repeat (first | exact Below.refl _ _ | assumption | refine b_then ?_ (by assumption) | refine b_alloc ?_ _ | refine b_drewN ?_ _ | refine b_drew ?_ | refine b_set ?_ (by omega) _ | refine b_set ?_ (by simp) _))⟩

/-- The sign of a comparison. -/
def sg (x y : Int) : Int := if x < y then -1 else if y < x then 1 else 0
theorem sg_lt {x y : Int} (h : x < y) : sg x y = -1 := by simp [sg, h]
theorem sg_gt {x y : Int} (h : y < x) : sg x y = 1 := by simp [sg, h]; omega
theorem sg_eq (x : Int) : sg x x = 0 := by simp [sg]

theorem cmp_any (x y : Int) (w : World) : Calls Try.prog 41 #[.int .i64 x, .int .i64 y] w fun e w' => e = .returned (.int .i64 (sg x y)) ∧ Below w.heap.size w w' := by
  go_enter Try.func41, Try.ntmps41
  go_wp2_with fail
  refine (isNaN_any x _).mono ?_
  rintro e w1 ⟨rfl, hB1⟩
  go_wp2_with fail
  refine (isNaN_any y _).mono ?_
  rintro e w2 ⟨rfl, hB2⟩
  rcases Int.lt_trichotomy x y with h | h | h
  · go_wp2_with fail
    exact bodyPost_ret (v := .int .i64 (-1)) (by simp [results, Try.results41, go_sem]) rfl ⟨by rw [sg_lt h], (by repeat (first | exact Below.refl _ _ | assumption | refine b_then ?_ (by assumption) | refine b_alloc ?_ _ | refine b_drewN ?_ _ | refine b_drew ?_ | refine b_set ?_ (by omega) _ | refine b_set ?_ (by simp) _))⟩
  · have h1 : ¬ x < y := by omega
    have h2 : ¬ y < x := by omega
    go_wp2_with fail
    exact bodyPost_ret (v := .int .i64 0) (by simp [results, Try.results41, go_sem]) rfl ⟨by subst h; rw [sg_eq], (by repeat (first | exact Below.refl _ _ | assumption | refine b_then ?_ (by assumption) | refine b_alloc ?_ _ | refine b_drewN ?_ _ | refine b_drew ?_ | refine b_set ?_ (by omega) _ | refine b_set ?_ (by simp) _))⟩
  · have h1 : ¬ x < y := by omega
    go_wp2_with fail
    exact bodyPost_ret (v := .int .i64 1) (by simp [results, Try.results41, go_sem]) rfl ⟨by rw [sg_gt h], (by repeat (first | exact Below.refl _ _ | assumption | refine b_then ?_ (by assumption) | refine b_alloc ?_ _ | refine b_drewN ?_ _ | refine b_drew ?_ | refine b_set ?_ (by omega) _ | refine b_set ?_ (by simp) _))⟩

/-- How two rows of three numbers compare. -/
def cmpV (X Y : Nat → Int) : Int := if X 0 = Y 0 then (if X 1 = Y 1 then sg (X 2) (Y 2) else sg (X 1) (Y 1)) else sg (X 0) (Y 0)

theorem ext_eq {X Y : Nat → Int} {j : Nat} (hV : Hid (∀ i, i < j → X i = Y i)) (he : X j = Y j) : Hid (∀ i, i < j + 1 → X i = Y i) := by
  refine hid fun i h => ?_
  by_cases hi : i = j
  · subst hi; exact he
  · exact hV.out i (by omega)
theorem cmp_said {X Y : Nat → Int} {j : Nat} (hlt : j < 3) (hV : Hid (∀ i, i < j → X i = Y i)) (he : ¬ X j = Y j) : cmpV X Y = sg (X j) (Y j) := by
  have hj : j = 0 ∨ j = 1 ∨ j = 2 := by omega
  rcases hj with rfl | rfl | rfl
  · simp [cmpV, he]
  · simp [cmpV, hV.out 0 (by omega), he]
  · simp [cmpV, hV.out 0 (by omega), hV.out 1 (by omega)]
set_option maxRecDepth 100000 in
set_option maxHeartbeats 4000000 in
theorem compare_any (X Y : Nat → Int) (b1 o1 c1 b2 o2 c2 : Nat) (w : World) (hb1 : b1 < w.heap.size) (hb2 : b2 < w.heap.size)
    (hX : ∀ i, i < 3 → w.cell? ⟨b1, o1 + i, none⟩ = some (.int .i64 (X i))) (hY : ∀ i, i < 3 → w.cell? ⟨b2, o2 + i, none⟩ = some (.int .i64 (Y i))) :
    Calls Try.prog 36 #[.slice (some ⟨b1, o1, none⟩) 3 c1, .slice (some ⟨b2, o2, none⟩) 3 c2] w fun e w' => e = .returned (.int .i64 (cmpV X Y)) ∧ Below w.heap.size w w' := by
  have HX := hid hX; clear hX
  have HY := hid hY; clear hY
  go_enter Try.func36, Try.ntmps36
  go_wp2_with fail
  go_loopw [11] (fun i wr => ∃ j : Nat, j ≤ 3 ∧ i = .int .i64 j ∧ Below w.heap.size w wr ∧ Hid (∀ i, i < j → X i = Y i)) (fun i _ => 3 - (intOf i).toNat)
  case atStart => exact ⟨0, by omega, rfl, Below.refl _ _, fun i h => absurd h (by omega)⟩
  case round =>
    obtain ⟨j, hj, rfl, hB, hV⟩ := hrel
    by_cases hlt : j < 3
    · have hcx : wr.cell? ⟨b1, o1 + j, none⟩ = some (.int .i64 (X j)) := (hB.cell (p := ⟨b1, o1 + j, none⟩) hb1).trans (HX.out j hlt)
      have hcy : wr.cell? ⟨b2, o2 + j, none⟩ = some (.int .i64 (Y j)) := (hB.cell (p := ⟨b2, o2 + j, none⟩) hb2).trans (HY.out j hlt)
      go_wp2_with fail
      refine (cmp_any (X j) (Y j) _).mono ?_
      rintro e w1 ⟨rfl, hB1⟩
      by_cases he : X j = Y j
      · rw [he, sg_eq]
        go_wp2_with fail
        go_roundw
        case rel => exact ⟨j + 1, by omega, by go_num, (by repeat (first | exact Below.refl _ _ | assumption | refine b_then ?_ (by assumption) | refine b_alloc ?_ _ | refine b_drewN ?_ _ | refine b_drew ?_ | refine b_set ?_ (by omega) _ | refine b_set ?_ (by simp) _)), ext_eq hV he⟩
        case measure => simp [intOf]; omega
      · have hne : ¬ sg (X j) (Y j) = 0 := by unfold sg; split <;> (try split) <;> omega
        generalize hr : sg (X j) (Y j) = r at hne
        have Hr := hid hr; clear hr
        go_wp2_with fail
        refine bodyPost_ret (v := .int .i64 r) (by simp [results, Try.results36, go_sem]) rfl ⟨by rw [← Hr.out, cmp_said hlt hV he], (by repeat (first | exact Below.refl _ _ | assumption | refine b_then ?_ (by assumption) | refine b_alloc ?_ _ | refine b_drewN ?_ _ | refine b_drew ?_ | refine b_set ?_ (by omega) _ | refine b_set ?_ (by simp) _))⟩
    · obtain rfl : j = 3 := by omega
      go_wp2_with fail
      refine bodyPost_ret (v := .int .i64 0) (by simp [results, Try.results36, go_sem]) rfl ⟨?_, (by repeat (first | exact Below.refl _ _ | assumption | refine b_then ?_ (by assumption) | refine b_alloc ?_ _ | refine b_drewN ?_ _ | refine b_drew ?_ | refine b_set ?_ (by omega) _ | refine b_set ?_ (by simp) _))⟩
      have h0 := hV.out 0 (by omega)
      have h1 := hV.out 1 (by omega)
      have h2 := hV.out 2 (by omega)
      simp [cmpV, h0, h1, h2, sg_eq]
/-- A record's key. -/
def keyC (a : Rc) (i : Nat) : Int := if i = 0 then a.d else if i = 1 then a.f else a.k
def keyV (a : Rc) : Value := .agg #[.int .i64 a.d, .int .i64 a.f, .int .i64 a.k]
theorem keyC_cmp (a b : Rc) : cmpV (keyC a) (keyC b) = cmpR a b := by
  unfold cmpV keyC cmpR sg
  simp only [if_true, Nat.one_ne_zero, if_false, Nat.reduceEqDiff]
  repeat' split
  all_goals first | rfl | omega

/-- The order of keys, of numbers. -/
def cmp3 (d f k d' f' k' : Int) : Int := cmpR ⟨d, f, k, 0, 0⟩ ⟨d', f', k', 0, 0⟩
theorem cmp3_eq (a b : Rc) : cmp3 a.d a.f a.k b.d b.f b.k = cmpR a b := rfl
set_option maxRecDepth 100000 in
set_option maxHeartbeats 4000000 in
theorem keyOf_any (d f k i o : Int) (w : World) : Calls Try.prog 23 #[.agg #[.int .i64 d, .int .i64 f, .int .i64 k, .int .i64 i, .int .i64 o]] w fun e w' => e = .returned (.agg #[.int .i64 d, .int .i64 f, .int .i64 k]) ∧ Below w.heap.size w w' := by
  go_enter Try.func23, Try.ntmps23
  go_upto_region 1 with (fail)
  obtain ⟨V, hV⟩ : ∃ V, V = ((w.alloc (.cells #[.int .i64 d, .int .i64 f, .int .i64 k, .int .i64 i, .int .i64 o] 24)).alloc (.cells #[.int .i64 0, .int .i64 0, .int .i64 0] 50)) := ⟨_, rfl⟩
  have r0 : ∀ v : After V, v.w.cell? ⟨w.heap.size, 0, none⟩ = some (.int .i64 d) := after_cell (by rw [hV]; first | (simp; done) | omega | (simp; omega)) (by rw [hV]; (repeat (first | with_reducible assumption | exact bn (by first | (simp; done) | omega | (simp; omega)) rfl | refine bo (by first | (simp; done) | omega | (simp; omega)) ?_)))
  have fr0 : ∀ v : After V, v.w.frozen? ⟨w.heap.size, 0, none⟩ = false := after_frozen (by rw [hV]; first | (simp; done) | omega | (simp; omega)) (by rw [hV]; (repeat (first | exact fn (by first | (simp; done) | omega | (simp; omega)) | refine fo (by first | (simp; done) | omega | (simp; omega)) ?_)))
  have r1 : ∀ v : After V, v.w.cell? ⟨w.heap.size, 1, none⟩ = some (.int .i64 f) := after_cell (by rw [hV]; first | (simp; done) | omega | (simp; omega)) (by rw [hV]; (repeat (first | with_reducible assumption | exact bn (by first | (simp; done) | omega | (simp; omega)) rfl | refine bo (by first | (simp; done) | omega | (simp; omega)) ?_)))
  have fr1 : ∀ v : After V, v.w.frozen? ⟨w.heap.size, 1, none⟩ = false := after_frozen (by rw [hV]; first | (simp; done) | omega | (simp; omega)) (by rw [hV]; (repeat (first | exact fn (by first | (simp; done) | omega | (simp; omega)) | refine fo (by first | (simp; done) | omega | (simp; omega)) ?_)))
  have r2 : ∀ v : After V, v.w.cell? ⟨w.heap.size, 2, none⟩ = some (.int .i64 k) := after_cell (by rw [hV]; first | (simp; done) | omega | (simp; omega)) (by rw [hV]; (repeat (first | with_reducible assumption | exact bn (by first | (simp; done) | omega | (simp; omega)) rfl | refine bo (by first | (simp; done) | omega | (simp; omega)) ?_)))
  have fr2 : ∀ v : After V, v.w.frozen? ⟨w.heap.size, 2, none⟩ = false := after_frozen (by rw [hV]; first | (simp; done) | omega | (simp; omega)) (by rw [hV]; (repeat (first | exact fn (by first | (simp; done) | omega | (simp; omega)) | refine fo (by first | (simp; done) | omega | (simp; omega)) ?_)))
  have r3 : ∀ v : After V, v.w.cell? ⟨w.heap.size, 3, none⟩ = some (.int .i64 i) := after_cell (by rw [hV]; first | (simp; done) | omega | (simp; omega)) (by rw [hV]; (repeat (first | with_reducible assumption | exact bn (by first | (simp; done) | omega | (simp; omega)) rfl | refine bo (by first | (simp; done) | omega | (simp; omega)) ?_)))
  have fr3 : ∀ v : After V, v.w.frozen? ⟨w.heap.size, 3, none⟩ = false := after_frozen (by rw [hV]; first | (simp; done) | omega | (simp; omega)) (by rw [hV]; (repeat (first | exact fn (by first | (simp; done) | omega | (simp; omega)) | refine fo (by first | (simp; done) | omega | (simp; omega)) ?_)))
  have r4 : ∀ v : After V, v.w.cell? ⟨w.heap.size, 4, none⟩ = some (.int .i64 o) := after_cell (by rw [hV]; first | (simp; done) | omega | (simp; omega)) (by rw [hV]; (repeat (first | with_reducible assumption | exact bn (by first | (simp; done) | omega | (simp; omega)) rfl | refine bo (by first | (simp; done) | omega | (simp; omega)) ?_)))
  have fr4 : ∀ v : After V, v.w.frozen? ⟨w.heap.size, 4, none⟩ = false := after_frozen (by rw [hV]; first | (simp; done) | omega | (simp; omega)) (by rw [hV]; (repeat (first | exact fn (by first | (simp; done) | omega | (simp; omega)) | refine fo (by first | (simp; done) | omega | (simp; omega)) ?_)))
  have zr : ∀ v : After V, w.heap.size < v.w.heap.size := after_size (by rw [hV]; first | (simp; done) | omega | (simp; omega))
  have q0 : ∀ v : After V, v.w.cell? ⟨w.heap.size + 1, 0, none⟩ = some (.int .i64 0) := after_cell (by rw [hV]; first | (simp; done) | omega | (simp; omega)) (by rw [hV]; (repeat (first | with_reducible assumption | exact bn (by first | (simp; done) | omega | (simp; omega)) rfl | refine bo (by first | (simp; done) | omega | (simp; omega)) ?_)))
  have fq0 : ∀ v : After V, v.w.frozen? ⟨w.heap.size + 1, 0, none⟩ = false := after_frozen (by rw [hV]; first | (simp; done) | omega | (simp; omega)) (by rw [hV]; (repeat (first | exact fn (by first | (simp; done) | omega | (simp; omega)) | refine fo (by first | (simp; done) | omega | (simp; omega)) ?_)))
  have q1 : ∀ v : After V, v.w.cell? ⟨w.heap.size + 1, 1, none⟩ = some (.int .i64 0) := after_cell (by rw [hV]; first | (simp; done) | omega | (simp; omega)) (by rw [hV]; (repeat (first | with_reducible assumption | exact bn (by first | (simp; done) | omega | (simp; omega)) rfl | refine bo (by first | (simp; done) | omega | (simp; omega)) ?_)))
  have fq1 : ∀ v : After V, v.w.frozen? ⟨w.heap.size + 1, 1, none⟩ = false := after_frozen (by rw [hV]; first | (simp; done) | omega | (simp; omega)) (by rw [hV]; (repeat (first | exact fn (by first | (simp; done) | omega | (simp; omega)) | refine fo (by first | (simp; done) | omega | (simp; omega)) ?_)))
  have q2 : ∀ v : After V, v.w.cell? ⟨w.heap.size + 1, 2, none⟩ = some (.int .i64 0) := after_cell (by rw [hV]; first | (simp; done) | omega | (simp; omega)) (by rw [hV]; (repeat (first | with_reducible assumption | exact bn (by first | (simp; done) | omega | (simp; omega)) rfl | refine bo (by first | (simp; done) | omega | (simp; omega)) ?_)))
  have fq2 : ∀ v : After V, v.w.frozen? ⟨w.heap.size + 1, 2, none⟩ = false := after_frozen (by rw [hV]; first | (simp; done) | omega | (simp; omega)) (by rw [hV]; (repeat (first | exact fn (by first | (simp; done) | omega | (simp; omega)) | refine fo (by first | (simp; done) | omega | (simp; omega)) ?_)))
  have zq : ∀ v : After V, w.heap.size + 1 < v.w.heap.size := after_size (by rw [hV]; first | (simp; done) | omega | (simp; omega))
  have hwV : Below w.heap.size w V := by rw [hV]; exact (by repeat (first | exact Below.refl _ _ | assumption | refine b_then ?_ (by assumption) | refine b_alloc ?_ _ | refine b_drewN ?_ _ | refine b_drew ?_ | refine b_set ?_ (by omega) _ | refine b_set ?_ (by simp) _))
  have WV := hid (after_below hwV)
  rw [← hV]
  obtain ⟨u0, hu⟩ : ∃ u : After V, u.w = V := ⟨After.here V, rfl⟩
  rw [← hu]
  clear hu hV
  have p0 := q0 u0
  have p1 := q1 u0
  have p2 := q2 u0
  have pw := WV.out u0
  go_wp2_with fail
  generalize hZ : World.setCell _ _ _ = Z
  have e0 : Z.cell? ⟨w.heap.size + 1, 0, none⟩ = some (.int .i64 d) := by rw [← hZ]; exact st_off _ (.inl (by decide)) (st_off _ (.inl (by decide)) (st_hit _ p0))
  have e1 : Z.cell? ⟨w.heap.size + 1, 1, none⟩ = some (.int .i64 f) := by rw [← hZ]; exact st_off _ (.inl (by decide)) (st_hit _ (st_off _ (.inl (by decide)) p1))
  have e2 : Z.cell? ⟨w.heap.size + 1, 2, none⟩ = some (.int .i64 k) := by rw [← hZ]; exact st_hit _ (st_off _ (.inl (by decide)) (st_off _ (.inl (by decide)) p2))
  exact bodyPost_ret (v := .agg #[.int .i64 d, .int .i64 f, .int .i64 k]) (by simp [results, Try.results23, go_sem, e0, e1, e2]) rfl ⟨rfl, by rw [← hZ]; exact b_set (b_set (b_set pw (by omega) _) (by omega) _) (by omega) _⟩
theorem key3 {P : Nat → Value} {w : World} {b : Nat} (h0 : w.cell? ⟨b, 0, none⟩ = some (P 0)) (h1 : w.cell? ⟨b, 1, none⟩ = some (P 1)) (h2 : w.cell? ⟨b, 2, none⟩ = some (P 2)) : ∀ i, i < 3 → w.cell? ⟨b, 0 + i, none⟩ = some (P i) := fun i hi => by
  have h : i = 0 ∨ i = 1 ∨ i = 2 := by omega
  rcases h with rfl | rfl | rfl
  · exact h0
  · exact h1
  · exact h2
set_option maxRecDepth 100000 in
set_option maxHeartbeats 4000000 in
theorem keycmp_any (d f k d' f' k' : Int) (w : World) : Calls Try.prog 26 #[.agg #[.int .i64 d, .int .i64 f, .int .i64 k], .agg #[.int .i64 d', .int .i64 f', .int .i64 k']] w fun e w' => e = .returned (.int .i64 (cmp3 d f k d' f' k')) ∧ Below w.heap.size w w' := by
  obtain ⟨C, hC⟩ : ∃ C, cmp3 d f k d' f' k' = C := ⟨_, rfl⟩
  rw [hC]
  have HCC := hid hC; clear hC
  go_enter Try.func26, Try.ntmps26
  go_upto_region 1 with (fail)
  obtain ⟨V, hV⟩ : ∃ V, V = ((w.alloc (.cells #[.int .i64 d, .int .i64 f, .int .i64 k] 50)).alloc (.cells #[.int .i64 d', .int .i64 f', .int .i64 k'] 50)) := ⟨_, rfl⟩
  have p0 : ∀ v : After V, v.w.cell? ⟨w.heap.size, 0, none⟩ = some (.int .i64 d) := after_cell (by rw [hV]; first | (simp; done) | omega | (simp; omega)) (by rw [hV]; (repeat (first | with_reducible assumption | exact bn (by first | (simp; done) | omega | (simp; omega)) rfl | refine bo (by first | (simp; done) | omega | (simp; omega)) ?_)))
  have fp0 : ∀ v : After V, v.w.frozen? ⟨w.heap.size, 0, none⟩ = false := after_frozen (by rw [hV]; first | (simp; done) | omega | (simp; omega)) (by rw [hV]; (repeat (first | exact fn (by first | (simp; done) | omega | (simp; omega)) | refine fo (by first | (simp; done) | omega | (simp; omega)) ?_)))
  have p1 : ∀ v : After V, v.w.cell? ⟨w.heap.size, 1, none⟩ = some (.int .i64 f) := after_cell (by rw [hV]; first | (simp; done) | omega | (simp; omega)) (by rw [hV]; (repeat (first | with_reducible assumption | exact bn (by first | (simp; done) | omega | (simp; omega)) rfl | refine bo (by first | (simp; done) | omega | (simp; omega)) ?_)))
  have fp1 : ∀ v : After V, v.w.frozen? ⟨w.heap.size, 1, none⟩ = false := after_frozen (by rw [hV]; first | (simp; done) | omega | (simp; omega)) (by rw [hV]; (repeat (first | exact fn (by first | (simp; done) | omega | (simp; omega)) | refine fo (by first | (simp; done) | omega | (simp; omega)) ?_)))
  have p2 : ∀ v : After V, v.w.cell? ⟨w.heap.size, 2, none⟩ = some (.int .i64 k) := after_cell (by rw [hV]; first | (simp; done) | omega | (simp; omega)) (by rw [hV]; (repeat (first | with_reducible assumption | exact bn (by first | (simp; done) | omega | (simp; omega)) rfl | refine bo (by first | (simp; done) | omega | (simp; omega)) ?_)))
  have fp2 : ∀ v : After V, v.w.frozen? ⟨w.heap.size, 2, none⟩ = false := after_frozen (by rw [hV]; first | (simp; done) | omega | (simp; omega)) (by rw [hV]; (repeat (first | exact fn (by first | (simp; done) | omega | (simp; omega)) | refine fo (by first | (simp; done) | omega | (simp; omega)) ?_)))
  have zp : ∀ v : After V, w.heap.size < v.w.heap.size := after_size (by rw [hV]; first | (simp; done) | omega | (simp; omega))
  have q0 : ∀ v : After V, v.w.cell? ⟨w.heap.size + 1, 0, none⟩ = some (.int .i64 d') := after_cell (by rw [hV]; first | (simp; done) | omega | (simp; omega)) (by rw [hV]; (repeat (first | with_reducible assumption | exact bn (by first | (simp; done) | omega | (simp; omega)) rfl | refine bo (by first | (simp; done) | omega | (simp; omega)) ?_)))
  have fq0 : ∀ v : After V, v.w.frozen? ⟨w.heap.size + 1, 0, none⟩ = false := after_frozen (by rw [hV]; first | (simp; done) | omega | (simp; omega)) (by rw [hV]; (repeat (first | exact fn (by first | (simp; done) | omega | (simp; omega)) | refine fo (by first | (simp; done) | omega | (simp; omega)) ?_)))
  have q1 : ∀ v : After V, v.w.cell? ⟨w.heap.size + 1, 1, none⟩ = some (.int .i64 f') := after_cell (by rw [hV]; first | (simp; done) | omega | (simp; omega)) (by rw [hV]; (repeat (first | with_reducible assumption | exact bn (by first | (simp; done) | omega | (simp; omega)) rfl | refine bo (by first | (simp; done) | omega | (simp; omega)) ?_)))
  have fq1 : ∀ v : After V, v.w.frozen? ⟨w.heap.size + 1, 1, none⟩ = false := after_frozen (by rw [hV]; first | (simp; done) | omega | (simp; omega)) (by rw [hV]; (repeat (first | exact fn (by first | (simp; done) | omega | (simp; omega)) | refine fo (by first | (simp; done) | omega | (simp; omega)) ?_)))
  have q2 : ∀ v : After V, v.w.cell? ⟨w.heap.size + 1, 2, none⟩ = some (.int .i64 k') := after_cell (by rw [hV]; first | (simp; done) | omega | (simp; omega)) (by rw [hV]; (repeat (first | with_reducible assumption | exact bn (by first | (simp; done) | omega | (simp; omega)) rfl | refine bo (by first | (simp; done) | omega | (simp; omega)) ?_)))
  have fq2 : ∀ v : After V, v.w.frozen? ⟨w.heap.size + 1, 2, none⟩ = false := after_frozen (by rw [hV]; first | (simp; done) | omega | (simp; omega)) (by rw [hV]; (repeat (first | exact fn (by first | (simp; done) | omega | (simp; omega)) | refine fo (by first | (simp; done) | omega | (simp; omega)) ?_)))
  have zq : ∀ v : After V, w.heap.size + 1 < v.w.heap.size := after_size (by rw [hV]; first | (simp; done) | omega | (simp; omega))
  have hwV : Below w.heap.size w V := by rw [hV]; exact (by repeat (first | exact Below.refl _ _ | assumption | refine b_then ?_ (by assumption) | refine b_alloc ?_ _ | refine b_drewN ?_ _ | refine b_drew ?_ | refine b_set ?_ (by omega) _ | refine b_set ?_ (by simp) _))
  have WV := hid (after_below hwV)
  rw [← hV]
  obtain ⟨u0, hu⟩ : ∃ u : After V, u.w = V := ⟨After.here V, rfl⟩
  rw [← hu]
  clear hu hV
  have hC := HCC.out
  have k36 : ∀ v : After V, Calls Try.prog 36 #[.slice (some ⟨w.heap.size, 0, none⟩) 3 3, .slice (some ⟨w.heap.size + 1, 0, none⟩) 3 3] v.w fun e w'' => e = .returned (.int .i64 C) ∧ ∃ u : After V, w'' = u.w := fun v => by
    rw [← hC, cmp3, ← keyC_cmp]
    exact met (compare_any (keyC ⟨d, f, k, 0, 0⟩) (keyC ⟨d', f', k', 0, 0⟩) _ 0 3 _ 0 3 v.w (zp v) (zq v) (key3 (P := fun i => .int .i64 (keyC ⟨d, f, k, 0, 0⟩ i)) (p0 v) (p1 v) (p2 v)) (key3 (P := fun i => .int .i64 (keyC ⟨d', f', k', 0, 0⟩ i)) (q0 v) (q1 v) (q2 v)))
  clear hC
  refine wp_region_since (by kernel_rfl) (by kernel_rfl) ?_
  repeat (go_big_quiet_step ((go_at_call 36; exact k36 _)))
  refine wpQuiet_nil ?_
  intro u9
  go_wp2_with fail
  exact bodyPost_ret (v := .int .i64 C) (by simp [results, Try.results26, go_sem]) rfl ⟨rfl, WV.out u9⟩
end Go.Proofs.Ytdnjpfjiaomlgaa
