/- slices.BinarySearchFunc on records. -/
import Derived.Test.YtdnjpfjiaomlgaaC2
import Derived.IntWalk
import Derived.Handy
namespace Go.Proofs.Ytdnjpfjiaomlgaa
open Go.RowKit
open Go.Lib (hid)

theorem m50 (v : Value) (w : World) : (method 197 50 v "soundpost/calibrate.compare").run Try.prog w = .ok (26, v) w := by kernel_rfl
set_option maxRecDepth 100000 in
set_option maxHeartbeats 4000000 in
theorem bcl_any (d f k i o d' f' k' : Int) (Bf : Nat) (w : World) (hf : w.cell? ⟨Bf, 0, none⟩ = some (.func (.func 23) #[] #[])) :
    Calls Try.prog 33 #[.agg #[.int .i64 d, .int .i64 f, .int .i64 k, .int .i64 i, .int .i64 o], .agg #[.int .i64 d', .int .i64 f', .int .i64 k'], .pointer (some ⟨Bf, 0, none⟩)] w fun e w' => e = .returned (.int .i64 (cmp3 d f k d' f' k')) ∧ Below w.heap.size w w' := by
  have hlf := cell_lt hf
  obtain ⟨C, hC⟩ : ∃ C, cmp3 d f k d' f' k' = C := ⟨_, rfl⟩
  rw [hC]
  have HCC := hid hC; clear hC
  go_enter Try.func33, Try.ntmps33
  go_upto_region 1 with (fail)
  obtain ⟨V, hV⟩ : ∃ V, V = ((w.alloc (.cells #[.int .i64 d, .int .i64 f, .int .i64 k, .int .i64 i, .int .i64 o] 24)).alloc (.cells #[.int .i64 d', .int .i64 f', .int .i64 k'] 50)) := ⟨_, rfl⟩
  have r0 : ∀ v : After V, v.w.cell? ⟨w.heap.size, 0, none⟩ = some (.int .i64 d) := after_cell (by rw [hV]; first | (simp; done) | omega | (simp; omega)) (by rw [hV]; (repeat (first | with_reducible assumption | exact bn (by first | (simp; done) | omega | (simp; omega)) rfl | refine bo (by first | (simp; done) | omega | (simp; omega)) ?_)))
  have fr0 : ∀ v : After V, v.w.frozen? ⟨w.heap.size, 0, none⟩ = false := after_frozen (by rw [hV]; first | (simp; done) | omega | (simp; omega)) (by rw [hV]; (repeat (first | exact fn (by first | (simp; done) | omega | (simp; omega)) | refine fo (by first | (simp; done) | omega | (simp; omega)) ?_)))
  have r1 : ∀ v : After V, v.w.cell? ⟨w.heap.size, 1, none⟩ = some (.int .i64 f) := after_cell (by rw [hV]; first | (simp; done) | omega | (simp; omega)) (by rw [hV]; (repeat (first | with_reducible assumption | exact bn (by first | (simp; done) | omega | (simp; omega)) rfl | refine bo (by first | (simp; done) | omega | (simp; omega)) ?_)))
  have fr1 : ∀ v : After V, v.w.frozen? ⟨w.heap.size, 1, none⟩ = false := after_frozen (by rw [hV]; first | (simp; done) | omega | (simp; omega)) (by rw [hV]; (repeat (first | exact fn (by first | (simp; done) | omega | (simp; omega)) | refine fo (by first | (simp; done) | omega | (simp; omega)) ?_)))
  have r2 : ∀ v : After V, v.w.cell? ⟨w.heap.size, 2, none⟩ = some (.int .i64 k) := after_cell (by rw [hV]; first | (simp; done) | omega | (simp; omega)) (by rw [hV]; (repeat (first | with_reducible assumption | exact bn (by first | (simp; done) | omega | (simp; omega)) rfl | refine bo (by first | (simp; done) | omega | (simp; omega)) ?_)))
  have fr2 : ∀ v : After V, v.w.frozen? ⟨w.heap.size, 2, none⟩ = false := after_frozen (by rw [hV]; first | (simp; done) | omega | (simp; omega)) (by rw [hV]; (repeat (first | exact fn (by first | (simp; done) | omega | (simp; omega)) | refine fo (by first | (simp; done) | omega | (simp; omega)) ?_)))
  have r3 : ∀ v : After V, v.w.cell? ⟨w.heap.size, 3, none⟩ = some (.int .i64 i) := after_cell (by rw [hV]; first | (simp; done) | omega | (simp; omega)) (by rw [hV]; (repeat (first | with_reducible assumption | exact bn (by first | (simp; done) | omega | (simp; omega)) rfl | refine bo (by first | (simp; done) | omega | (simp; omega)) ?_)))
  have fr3 : ∀ v : After V, v.w.frozen? ⟨w.heap.size, 3, none⟩ = false := after_frozen (by rw [hV]; first | (simp; done) | omega | (simp; omega)) (by rw [hV]; (repeat (first | exact fn (by first | (simp; done) | omega | (simp; omega)) | refine fo (by first | (simp; done) | omega | (simp; omega)) ?_)))
  have r4 : ∀ v : After V, v.w.cell? ⟨w.heap.size, 4, none⟩ = some (.int .i64 o) := after_cell (by rw [hV]; first | (simp; done) | omega | (simp; omega)) (by rw [hV]; (repeat (first | with_reducible assumption | exact bn (by first | (simp; done) | omega | (simp; omega)) rfl | refine bo (by first | (simp; done) | omega | (simp; omega)) ?_)))
  have fr4 : ∀ v : After V, v.w.frozen? ⟨w.heap.size, 4, none⟩ = false := after_frozen (by rw [hV]; first | (simp; done) | omega | (simp; omega)) (by rw [hV]; (repeat (first | exact fn (by first | (simp; done) | omega | (simp; omega)) | refine fo (by first | (simp; done) | omega | (simp; omega)) ?_)))
  have zr : ∀ v : After V, w.heap.size < v.w.heap.size := after_size (by rw [hV]; first | (simp; done) | omega | (simp; omega))
  have q0 : ∀ v : After V, v.w.cell? ⟨w.heap.size + 1, 0, none⟩ = some (.int .i64 d') := after_cell (by rw [hV]; first | (simp; done) | omega | (simp; omega)) (by rw [hV]; (repeat (first | with_reducible assumption | exact bn (by first | (simp; done) | omega | (simp; omega)) rfl | refine bo (by first | (simp; done) | omega | (simp; omega)) ?_)))
  have fq0 : ∀ v : After V, v.w.frozen? ⟨w.heap.size + 1, 0, none⟩ = false := after_frozen (by rw [hV]; first | (simp; done) | omega | (simp; omega)) (by rw [hV]; (repeat (first | exact fn (by first | (simp; done) | omega | (simp; omega)) | refine fo (by first | (simp; done) | omega | (simp; omega)) ?_)))
  have q1 : ∀ v : After V, v.w.cell? ⟨w.heap.size + 1, 1, none⟩ = some (.int .i64 f') := after_cell (by rw [hV]; first | (simp; done) | omega | (simp; omega)) (by rw [hV]; (repeat (first | with_reducible assumption | exact bn (by first | (simp; done) | omega | (simp; omega)) rfl | refine bo (by first | (simp; done) | omega | (simp; omega)) ?_)))
  have fq1 : ∀ v : After V, v.w.frozen? ⟨w.heap.size + 1, 1, none⟩ = false := after_frozen (by rw [hV]; first | (simp; done) | omega | (simp; omega)) (by rw [hV]; (repeat (first | exact fn (by first | (simp; done) | omega | (simp; omega)) | refine fo (by first | (simp; done) | omega | (simp; omega)) ?_)))
  have q2 : ∀ v : After V, v.w.cell? ⟨w.heap.size + 1, 2, none⟩ = some (.int .i64 k') := after_cell (by rw [hV]; first | (simp; done) | omega | (simp; omega)) (by rw [hV]; (repeat (first | with_reducible assumption | exact bn (by first | (simp; done) | omega | (simp; omega)) rfl | refine bo (by first | (simp; done) | omega | (simp; omega)) ?_)))
  have fq2 : ∀ v : After V, v.w.frozen? ⟨w.heap.size + 1, 2, none⟩ = false := after_frozen (by rw [hV]; first | (simp; done) | omega | (simp; omega)) (by rw [hV]; (repeat (first | exact fn (by first | (simp; done) | omega | (simp; omega)) | refine fo (by first | (simp; done) | omega | (simp; omega)) ?_)))
  have zq : ∀ v : After V, w.heap.size + 1 < v.w.heap.size := after_size (by rw [hV]; first | (simp; done) | omega | (simp; omega))
  have hwV : Below w.heap.size w V := by rw [hV]; exact (by repeat (first | exact Below.refl _ _ | assumption | refine b_then ?_ (by assumption) | refine b_alloc ?_ _ | refine b_drewN ?_ _ | refine b_drew ?_ | refine b_set ?_ (by omega) _ | refine b_set ?_ (by simp) _))
  have WV := hid (after_below hwV)
  rw [← hV]
  obtain ⟨u0, hu⟩ : ∃ u : After V, u.w = V := ⟨After.here V, rfl⟩
  rw [← hu]
  clear hu hV
  have fv : ∀ v : After V, v.w.cell? ⟨Bf, 0, none⟩ = some (.func (.func 23) #[] #[]) := fun v => bb (WV.out v) hlf hf
  have hC := HCC.out
  have k23 : ∀ y : After V, Calls Try.prog 23 #[.agg #[.int .i64 d, .int .i64 f, .int .i64 k, .int .i64 i, .int .i64 o]] y.w fun e w'' => e = .returned (.agg #[.int .i64 d, .int .i64 f, .int .i64 k]) ∧ ∃ u : After V, w'' = u.w := fun y => met (keyOf_any d f k i o y.w)
  have k26 : ∀ y : After V, Calls Try.prog 26 #[.agg #[.int .i64 d, .int .i64 f, .int .i64 k], .agg #[.int .i64 d', .int .i64 f', .int .i64 k']] y.w fun e w'' => e = .returned (.int .i64 C) ∧ ∃ u : After V, w'' = u.w := fun y => hC ▸ met (keycmp_any d f k d' f' k' y.w)
  clear hC
  have q8 := m50
  refine wp_region_since (by kernel_rfl) (by kernel_rfl) ?_
  repeat (go_big_quiet_step ((first | (go_at_call 23; exact k23 _) | (go_at_call 26; exact k26 _))))
  refine wpQuiet_nil ?_
  intro u9
  go_wp2_with fail
  exact bodyPost_ret (v := .int .i64 C) (by simp [results, Try.results33, go_sem]) rfl ⟨rfl, WV.out u9⟩
/-- What the search keeps. -/
def BSR (l : List Rc) (t : Rc) (n : Nat) (V : World) (a b : Value) (wr : World) : Prop := ∃ (i j : Nat) (z : After V), i ≤ j ∧ j ≤ n ∧ a = .int .i64 i ∧ b = .int .i64 j ∧ wr = z.w ∧ Hid (∀ x, x < i → RLt (rc l x) t) ∧ Hid (∀ x, j ≤ x → x < n → ¬ RLt (rc l x) t)
theorem cmp3_lt {x t : Rc} {xd xf xk xi xo : Int} (hx : x = ⟨xd, xf, xk, xi, xo⟩) : decide (cmp3 xd xf xk t.d t.f t.k < 0) = decide (RLt x t) := by
  subst hx
  exact decide_eq_decide.2 (cmpR_lt ⟨xd, xf, xk, xi, xo⟩ t)
theorem cmp3_zero {x t : Rc} {xd xf xk xi xo : Int} (hx : x = ⟨xd, xf, xk, xi, xo⟩) : (cmp3 xd xf xk t.d t.f t.k == 0) = decide (cmpR x t = 0) := by
  subst hx
  show (cmpR ⟨xd, xf, xk, xi, xo⟩ t == 0) = _
  cases h : decide (cmpR ⟨xd, xf, xk, xi, xo⟩ t = 0)
  · simpa using h
  · simpa using h
theorem rlt_mono {l : List Rc} (hl : PreR l l.length) {t : Rc} {x y : Nat} (hxy : x ≤ y) (hy : y < l.length) (h : RLt (rc l y) t) : RLt (rc l x) t := by
  by_cases he : x = y
  · rw [he]; exact h
  · exact (rc_lt hl (by omega) hy).trans h
set_option maxRecDepth 100000 in
set_option maxHeartbeats 4000000 in
theorem bsf_any (l : List Rc) (nn : Nat) (hnn : l.length = nn) (a : Option Addr) (c : Nat) (t : Rc) (Bf : Nat) (w : World) (hn : nn ≤ 256) (hl : PreR l l.length) (hr : Rd w a (l.flatMap Rc.cs)) (hf : w.cell? ⟨Bf, 0, none⟩ = some (.func (.func 23) #[] #[])) :
    Calls Try.prog 32 #[.slice a nn c, .agg #[.int .i64 t.d, .int .i64 t.f, .int .i64 t.k], .func (.func 33) #[] #[.pointer (some ⟨Bf, 0, none⟩)]] w fun e w' => e = .returned (.tuple #[.int .i64 (cntR l t : Nat), .bool (dupR l t)]) ∧ Below w.heap.size w w' := by
  have HN := hid hnn; have HL := hid hl; have HR := hid hr
  clear hnn hl hr
  have hlf := cell_lt hf
  go_enter Try.func32, Try.ntmps32
  go_upto_region 1 with (fail)
  obtain ⟨V, hV⟩ : ∃ V, V = (w.alloc (.cells #[.int .i64 t.d, .int .i64 t.f, .int .i64 t.k] 50)) := ⟨_, rfl⟩
  have q0 : ∀ v : After V, v.w.cell? ⟨w.heap.size, 0, none⟩ = some (.int .i64 t.d) := after_cell (by rw [hV]; first | (simp; done) | omega | (simp; omega)) (by rw [hV]; (repeat (first | with_reducible assumption | exact bn (by first | (simp; done) | omega | (simp; omega)) rfl | refine bo (by first | (simp; done) | omega | (simp; omega)) ?_)))
  have fq0 : ∀ v : After V, v.w.frozen? ⟨w.heap.size, 0, none⟩ = false := after_frozen (by rw [hV]; first | (simp; done) | omega | (simp; omega)) (by rw [hV]; (repeat (first | exact fn (by first | (simp; done) | omega | (simp; omega)) | refine fo (by first | (simp; done) | omega | (simp; omega)) ?_)))
  have q1 : ∀ v : After V, v.w.cell? ⟨w.heap.size, 1, none⟩ = some (.int .i64 t.f) := after_cell (by rw [hV]; first | (simp; done) | omega | (simp; omega)) (by rw [hV]; (repeat (first | with_reducible assumption | exact bn (by first | (simp; done) | omega | (simp; omega)) rfl | refine bo (by first | (simp; done) | omega | (simp; omega)) ?_)))
  have fq1 : ∀ v : After V, v.w.frozen? ⟨w.heap.size, 1, none⟩ = false := after_frozen (by rw [hV]; first | (simp; done) | omega | (simp; omega)) (by rw [hV]; (repeat (first | exact fn (by first | (simp; done) | omega | (simp; omega)) | refine fo (by first | (simp; done) | omega | (simp; omega)) ?_)))
  have q2 : ∀ v : After V, v.w.cell? ⟨w.heap.size, 2, none⟩ = some (.int .i64 t.k) := after_cell (by rw [hV]; first | (simp; done) | omega | (simp; omega)) (by rw [hV]; (repeat (first | with_reducible assumption | exact bn (by first | (simp; done) | omega | (simp; omega)) rfl | refine bo (by first | (simp; done) | omega | (simp; omega)) ?_)))
  have fq2 : ∀ v : After V, v.w.frozen? ⟨w.heap.size, 2, none⟩ = false := after_frozen (by rw [hV]; first | (simp; done) | omega | (simp; omega)) (by rw [hV]; (repeat (first | exact fn (by first | (simp; done) | omega | (simp; omega)) | refine fo (by first | (simp; done) | omega | (simp; omega)) ?_)))
  have zq : ∀ v : After V, w.heap.size < v.w.heap.size := after_size (by rw [hV]; first | (simp; done) | omega | (simp; omega))
  have hwV : Below w.heap.size w V := by rw [hV]; exact (by repeat (first | exact Below.refl _ _ | assumption | refine b_then ?_ (by assumption) | refine b_alloc ?_ _ | refine b_drewN ?_ _ | refine b_drew ?_ | refine b_set ?_ (by omega) _ | refine b_set ?_ (by simp) _))
  have WV := hid (after_below hwV)
  rw [← hV]
  obtain ⟨u0, hu⟩ : ∃ u : After V, u.w = V := ⟨After.here V, rfl⟩
  rw [← hu]
  clear hu hV
  have fv : ∀ v : After V, v.w.cell? ⟨Bf, 0, none⟩ = some (.func (.func 23) #[] #[]) := fun v => bb (WV.out v) hlf hf
  have RV := hid (fun v : After V => HR.out.below (WV.out v))
  clear HR
  go_wp2_with fail
  go_loopw [9, 10] (fun a b wr => BSR l t nn V a b wr) (fun a b _ => (intOf b).toNat - (intOf a).toNat)
  case atStart => exact ⟨0, nn, u0, by omega, by omega, rfl, rfl, rfl, hid (fun x h => absurd h (by omega)), hid (fun x h h2 => absurd h (by omega))⟩
  case round =>
    obtain ⟨i, j, z, hij, hj, rfl, rfl, rfl, H1, H2⟩ := hrel
    by_cases hlt : i < j
    · have d1 : decide (i < j) = true := decide_eq_true hlt
      go_upto_region 5 with (fail)
      obtain ⟨k, hk⟩ : ∃ k : Nat, k = (i + j) / 2 := ⟨_, rfl⟩
      have hk' : ((i : Int) + (j : Int)) / 2 = (k : Int) := by rw [hk]; omega
      have hk1 : i ≤ k := by omega
      have hk2 : k < j := by omega
      have hkk : (k : Int) < (nn : Int) := by omega
      try rw [hk']
      clear hk hk' d1
      obtain ⟨b, off, rfl, hb⟩ := (RV.out z).addr (by rw [flat_len Rc.cs 5 Rc.c5, HN.out]; omega)
      obtain ⟨⟨xd, xf, xk, xi, xo⟩, hx⟩ : ∃ t, rc l k = t := ⟨_, rfl⟩
      have x0 : ∀ v : After V, v.w.cell? ⟨b, off + k * 5, none⟩ = some (.int .i64 xd) := rc_cell RV.out (j := k) (by rw [HN.out]; omega) 0 (by decide) (by rw [hx]; rfl) rfl
      have x1 : ∀ v : After V, v.w.cell? ⟨b, off + k * 5 + 1, none⟩ = some (.int .i64 xf) := rc_cell RV.out (j := k) (by rw [HN.out]; omega) 1 (by decide) (by rw [hx]; rfl) (by omega)
      have x2 : ∀ v : After V, v.w.cell? ⟨b, off + k * 5 + 2, none⟩ = some (.int .i64 xk) := rc_cell RV.out (j := k) (by rw [HN.out]; omega) 2 (by decide) (by rw [hx]; rfl) (by omega)
      have x3 : ∀ v : After V, v.w.cell? ⟨b, off + k * 5 + 3, none⟩ = some (.int .i64 xi) := rc_cell RV.out (j := k) (by rw [HN.out]; omega) 3 (by decide) (by rw [hx]; rfl) (by omega)
      have x4 : ∀ v : After V, v.w.cell? ⟨b, off + k * 5 + 4, none⟩ = some (.int .i64 xo) := rc_cell RV.out (j := k) (by rw [HN.out]; omega) 4 (by decide) (by rw [hx]; rfl) (by omega)
      have Hx := hid hx; clear hx
      obtain ⟨C, hC⟩ : ∃ C, cmp3 xd xf xk t.d t.f t.k = C := ⟨_, rfl⟩
      have k33 : ∀ y : After V, Calls Try.prog 33 #[.agg #[.int .i64 xd, .int .i64 xf, .int .i64 xk, .int .i64 xi, .int .i64 xo], .agg #[.int .i64 t.d, .int .i64 t.f, .int .i64 t.k], .pointer (some ⟨Bf, 0, none⟩)] y.w fun e w'' => e = .returned (.int .i64 C) ∧ ∃ u : After V, w'' = u.w := fun y => hC ▸ met (bcl_any xd xf xk xi xo t.d t.f t.k Bf y.w (fv y))
      have hcm := cmp3_lt (t := t) Hx.out
      rw [hC] at hcm
      clear hC
      rcases hP : decide (RLt (rc l k) t) with _ | _
      · rw [hP] at hcm
        have HP := hid (show ¬ RLt (rc l k) t by simpa using hP); clear hP
        refine wp_region_since (by kernel_rfl) (by kernel_rfl) ?_
        repeat (go_big_quiet_step ((go_at_call 33; exact k33 _)))
        refine wpQuiet_nil ?_
        intro u9
        go_wp2_with fail
        clear hcm k33
        go_roundw
        case rel => exact ⟨i, k, u9, by omega, by omega, rfl, by go_num, rfl, H1, hid (fun x hx hxn h => HP.out (rlt_mono HL.out hx (by rw [HN.out]; exact hxn) h))⟩
        case measure => first | (simp [intOf]; done) | (simp [intOf]; omega)
      · rw [hP] at hcm
        have HP := hid (show RLt (rc l k) t by simpa using hP); clear hP
        refine wp_region_since (by kernel_rfl) (by kernel_rfl) ?_
        repeat (go_big_quiet_step ((go_at_call 33; exact k33 _)))
        refine wpQuiet_nil ?_
        intro u9
        go_wp2_with fail
        clear hcm k33
        go_roundw
        case rel => exact ⟨k + 1, j, u9, by omega, hj, by go_num, rfl, rfl, hid (fun x hx => rlt_mono HL.out (by omega) (by rw [HN.out]; omega) HP.out), H2⟩
        case measure => first | (simp [intOf]; done) | (simp [intOf]; omega)
    · have d1 : decide (i < j) = false := decide_eq_false hlt
      obtain rfl : i = j := by omega
      have HC := hid (cntR_is (l := l) (r := t) (by rw [HN.out]; exact hj) H1.out (fun h => H2.out i (Nat.le_refl _) (by rw [← HN.out]; exact h)))
      go_upto_region 8 with (fail)
      by_cases hin : i < nn
      · have d2 : decide ((i : Int) < (nn : Int)) = true := decide_eq_true (by omega)
        have d2' : decide (i < nn) = true := decide_eq_true hin
        have hkk : (i : Int) < (nn : Int) := by omega
        obtain ⟨b, off, rfl, hb⟩ := (RV.out z).addr (by rw [flat_len Rc.cs 5 Rc.c5, HN.out]; omega)
        obtain ⟨⟨xd, xf, xk, xi, xo⟩, hx⟩ : ∃ t, rc l i = t := ⟨_, rfl⟩
        have x0 : ∀ v : After V, v.w.cell? ⟨b, off + i * 5, none⟩ = some (.int .i64 xd) := rc_cell RV.out (j := i) (by rw [HN.out]; omega) 0 (by decide) (by rw [hx]; rfl) rfl
        have x1 : ∀ v : After V, v.w.cell? ⟨b, off + i * 5 + 1, none⟩ = some (.int .i64 xf) := rc_cell RV.out (j := i) (by rw [HN.out]; omega) 1 (by decide) (by rw [hx]; rfl) (by omega)
        have x2 : ∀ v : After V, v.w.cell? ⟨b, off + i * 5 + 2, none⟩ = some (.int .i64 xk) := rc_cell RV.out (j := i) (by rw [HN.out]; omega) 2 (by decide) (by rw [hx]; rfl) (by omega)
        have x3 : ∀ v : After V, v.w.cell? ⟨b, off + i * 5 + 3, none⟩ = some (.int .i64 xi) := rc_cell RV.out (j := i) (by rw [HN.out]; omega) 3 (by decide) (by rw [hx]; rfl) (by omega)
        have x4 : ∀ v : After V, v.w.cell? ⟨b, off + i * 5 + 4, none⟩ = some (.int .i64 xo) := rc_cell RV.out (j := i) (by rw [HN.out]; omega) 4 (by decide) (by rw [hx]; rfl) (by omega)
        have Hx := hid hx; clear hx
        obtain ⟨C, hC⟩ : ∃ C, cmp3 xd xf xk t.d t.f t.k = C := ⟨_, rfl⟩
        have k33 : ∀ y : After V, Calls Try.prog 33 #[.agg #[.int .i64 xd, .int .i64 xf, .int .i64 xk, .int .i64 xi, .int .i64 xo], .agg #[.int .i64 t.d, .int .i64 t.f, .int .i64 t.k], .pointer (some ⟨Bf, 0, none⟩)] y.w fun e w'' => e = .returned (.int .i64 C) ∧ ∃ u : After V, w'' = u.w := fun y => hC ▸ met (bcl_any xd xf xk xi xo t.d t.f t.k Bf y.w (fv y))
        have hcm := cmp3_zero (t := t) Hx.out
        rw [hC] at hcm
        clear hC
        have HD := hid (show dupR l t = decide (cmpR (rc l i) t = 0) by unfold dupR; rw [HC.out, decide_eq_true (by rw [HN.out]; exact hin), Bool.true_and])
        rcases hP : decide (cmpR (rc l i) t = 0) with _ | _
        · rw [hP] at hcm HD
          clear hP
          refine wp_region_since (by kernel_rfl) (by kernel_rfl) ?_
          repeat (go_big_quiet_step ((go_at_call 33; exact k33 _)))
          refine wpQuiet_nil ?_
          intro u9
          go_wp2_with fail
          exact bodyPost_ret (v := .tuple #[.int .i64 (i : Int), .bool false]) (by simp [results, Try.results32, go_sem]) rfl ⟨by rw [HC.out, HD.out], WV.out u9⟩
        · rw [hP] at hcm HD
          clear hP
          refine wp_region_since (by kernel_rfl) (by kernel_rfl) ?_
          repeat (go_big_quiet_step ((go_at_call 33; exact k33 _)))
          refine wpQuiet_nil ?_
          intro u9
          go_wp2_with fail
          exact bodyPost_ret (v := .tuple #[.int .i64 (i : Int), .bool true]) (by simp [results, Try.results32, go_sem]) rfl ⟨by rw [HC.out, HD.out], WV.out u9⟩
      · have d2 : decide ((i : Int) < (nn : Int)) = false := decide_eq_false (by omega)
        have d2' : decide (i < nn) = false := decide_eq_false hin
        have HD := hid (show dupR l t = false by unfold dupR; rw [HC.out, decide_eq_false (by rw [HN.out]; exact hin), Bool.false_and])
        refine wp_region_since (by kernel_rfl) (by kernel_rfl) ?_
        repeat (go_big_quiet_step (fail))
        refine wpQuiet_nil ?_
        intro u9
        go_wp2_with fail
        exact bodyPost_ret (v := .tuple #[.int .i64 (i : Int), .bool false]) (by simp [results, Try.results32, go_sem]) rfl ⟨by rw [HC.out, HD.out], WV.out u9⟩
end Go.Proofs.Ytdnjpfjiaomlgaa
