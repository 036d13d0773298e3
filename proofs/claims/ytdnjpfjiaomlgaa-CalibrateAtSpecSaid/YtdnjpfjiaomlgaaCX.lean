/- The chapter's examples (calibrate). -/
import Derived.Test.YtdnjpfjiaomlgaaCH
import Derived.Test.YtdnjpfjiaomlgaaCA
import Derived.Test.YtdnjpfjiaomlgaaC7
import Derived.Test.YtdnjpfjiaomlgaaC5
namespace Go.Proofs.Ytdnjpfjiaomlgaa
open Go.RowKit
open Go.Lib (hid)

def cr1 : Rc := ⟨2, 100, 5, 3, 0⟩
def cr2 : Rc := ⟨2, 100, 9, 4, 1⟩
def cl2 : List Rc := [cr2]
def cl12 : List Rc := [cr1, cr2]
def cs1 : List Sp := [⟨2, 100, 1099511627777⟩]
theorem ae_1 : addE cl2 cr1 = 0 := by decide +kernel
theorem av_1 : addV cl2 cr1 = cl12 := by decide +kernel
theorem ae_2 : addE cl12 cr1 = 420 := by decide +kernel
theorem tv_1 : atV cl12 2 150 8 = (3, 0, true) := by decide +kernel
theorem te_1 : atE cl12 2 150 8 = 0 := by decide +kernel
theorem tv_2 : atV cl12 2 150 9 = (4, 1, true) := by decide +kernel
theorem te_2 : atE cl12 2 150 9 = 0 := by decide +kernel
theorem tv_3 : atV [] 0 0 0 = (0, 0, false) := by decide +kernel
theorem te_3 : atE [] 0 0 0 = 0 := by decide +kernel
theorem tv_4 : atV cl12 16 0 0 = (0, 0, false) := by decide +kernel
theorem te_4 : atE cl12 16 0 0 = 1 := by decide +kernel
theorem ce_1 : chE cl12 8 9 = 0 := by decide +kernel
theorem cv_1 : chV cl12 8 9 = cs1 := by decide +kernel
theorem ce_2 : chE cl12 5 5 = 0 := by decide +kernel
theorem cv_2 : chV cl12 5 5 = [] := by decide +kernel
theorem kc_0 : chkR [] = 0 := by decide +kernel
set_option maxRecDepth 100000 in
set_option maxHeartbeats 4000000 in
theorem sane42_any (w : World) : Calls Try.prog 9 #[] w fun e w' => e = .returned (.bool true) ∧ Below w.heap.size w w' := by
  go_enter Try.func9, Try.ntmps9
  go_upto_region 2 with (fail)
  obtain ⟨V, hV⟩ : ∃ V, V = ((w.alloc (.cells #[.int .i64 2, .int .i64 100, .int .i64 5, .int .i64 3, .int .i64 0] 24)).alloc (.cells #[.int .i64 2, .int .i64 100, .int .i64 9, .int .i64 4, .int .i64 1] 24)) := ⟨_, rfl⟩
  have p0 : ∀ v : After V, v.w.cell? ⟨w.heap.size, 0, none⟩ = some (.int .i64 2) := after_cell (by rw [hV]; first | (simp; done) | omega | (simp; omega)) (by rw [hV]; (repeat (first | with_reducible assumption | exact bn (by first | (simp; done) | omega | (simp; omega)) rfl | refine bo (by first | (simp; done) | omega | (simp; omega)) ?_)))
  have fp0 : ∀ v : After V, v.w.frozen? ⟨w.heap.size, 0, none⟩ = false := after_frozen (by rw [hV]; first | (simp; done) | omega | (simp; omega)) (by rw [hV]; (repeat (first | exact fn (by first | (simp; done) | omega | (simp; omega)) | refine fo (by first | (simp; done) | omega | (simp; omega)) ?_)))
  have p1 : ∀ v : After V, v.w.cell? ⟨w.heap.size, 1, none⟩ = some (.int .i64 100) := after_cell (by rw [hV]; first | (simp; done) | omega | (simp; omega)) (by rw [hV]; (repeat (first | with_reducible assumption | exact bn (by first | (simp; done) | omega | (simp; omega)) rfl | refine bo (by first | (simp; done) | omega | (simp; omega)) ?_)))
  have fp1 : ∀ v : After V, v.w.frozen? ⟨w.heap.size, 1, none⟩ = false := after_frozen (by rw [hV]; first | (simp; done) | omega | (simp; omega)) (by rw [hV]; (repeat (first | exact fn (by first | (simp; done) | omega | (simp; omega)) | refine fo (by first | (simp; done) | omega | (simp; omega)) ?_)))
  have p2 : ∀ v : After V, v.w.cell? ⟨w.heap.size, 2, none⟩ = some (.int .i64 5) := after_cell (by rw [hV]; first | (simp; done) | omega | (simp; omega)) (by rw [hV]; (repeat (first | with_reducible assumption | exact bn (by first | (simp; done) | omega | (simp; omega)) rfl | refine bo (by first | (simp; done) | omega | (simp; omega)) ?_)))
  have fp2 : ∀ v : After V, v.w.frozen? ⟨w.heap.size, 2, none⟩ = false := after_frozen (by rw [hV]; first | (simp; done) | omega | (simp; omega)) (by rw [hV]; (repeat (first | exact fn (by first | (simp; done) | omega | (simp; omega)) | refine fo (by first | (simp; done) | omega | (simp; omega)) ?_)))
  have p3 : ∀ v : After V, v.w.cell? ⟨w.heap.size, 3, none⟩ = some (.int .i64 3) := after_cell (by rw [hV]; first | (simp; done) | omega | (simp; omega)) (by rw [hV]; (repeat (first | with_reducible assumption | exact bn (by first | (simp; done) | omega | (simp; omega)) rfl | refine bo (by first | (simp; done) | omega | (simp; omega)) ?_)))
  have fp3 : ∀ v : After V, v.w.frozen? ⟨w.heap.size, 3, none⟩ = false := after_frozen (by rw [hV]; first | (simp; done) | omega | (simp; omega)) (by rw [hV]; (repeat (first | exact fn (by first | (simp; done) | omega | (simp; omega)) | refine fo (by first | (simp; done) | omega | (simp; omega)) ?_)))
  have p4 : ∀ v : After V, v.w.cell? ⟨w.heap.size, 4, none⟩ = some (.int .i64 0) := after_cell (by rw [hV]; first | (simp; done) | omega | (simp; omega)) (by rw [hV]; (repeat (first | with_reducible assumption | exact bn (by first | (simp; done) | omega | (simp; omega)) rfl | refine bo (by first | (simp; done) | omega | (simp; omega)) ?_)))
  have fp4 : ∀ v : After V, v.w.frozen? ⟨w.heap.size, 4, none⟩ = false := after_frozen (by rw [hV]; first | (simp; done) | omega | (simp; omega)) (by rw [hV]; (repeat (first | exact fn (by first | (simp; done) | omega | (simp; omega)) | refine fo (by first | (simp; done) | omega | (simp; omega)) ?_)))
  have zp : ∀ v : After V, w.heap.size < v.w.heap.size := after_size (by rw [hV]; first | (simp; done) | omega | (simp; omega))
  have q0 : ∀ v : After V, v.w.cell? ⟨w.heap.size + 1, 0, none⟩ = some (.int .i64 2) := after_cell (by rw [hV]; first | (simp; done) | omega | (simp; omega)) (by rw [hV]; (repeat (first | with_reducible assumption | exact bn (by first | (simp; done) | omega | (simp; omega)) rfl | refine bo (by first | (simp; done) | omega | (simp; omega)) ?_)))
  have fq0 : ∀ v : After V, v.w.frozen? ⟨w.heap.size + 1, 0, none⟩ = false := after_frozen (by rw [hV]; first | (simp; done) | omega | (simp; omega)) (by rw [hV]; (repeat (first | exact fn (by first | (simp; done) | omega | (simp; omega)) | refine fo (by first | (simp; done) | omega | (simp; omega)) ?_)))
  have q1 : ∀ v : After V, v.w.cell? ⟨w.heap.size + 1, 1, none⟩ = some (.int .i64 100) := after_cell (by rw [hV]; first | (simp; done) | omega | (simp; omega)) (by rw [hV]; (repeat (first | with_reducible assumption | exact bn (by first | (simp; done) | omega | (simp; omega)) rfl | refine bo (by first | (simp; done) | omega | (simp; omega)) ?_)))
  have fq1 : ∀ v : After V, v.w.frozen? ⟨w.heap.size + 1, 1, none⟩ = false := after_frozen (by rw [hV]; first | (simp; done) | omega | (simp; omega)) (by rw [hV]; (repeat (first | exact fn (by first | (simp; done) | omega | (simp; omega)) | refine fo (by first | (simp; done) | omega | (simp; omega)) ?_)))
  have q2 : ∀ v : After V, v.w.cell? ⟨w.heap.size + 1, 2, none⟩ = some (.int .i64 9) := after_cell (by rw [hV]; first | (simp; done) | omega | (simp; omega)) (by rw [hV]; (repeat (first | with_reducible assumption | exact bn (by first | (simp; done) | omega | (simp; omega)) rfl | refine bo (by first | (simp; done) | omega | (simp; omega)) ?_)))
  have fq2 : ∀ v : After V, v.w.frozen? ⟨w.heap.size + 1, 2, none⟩ = false := after_frozen (by rw [hV]; first | (simp; done) | omega | (simp; omega)) (by rw [hV]; (repeat (first | exact fn (by first | (simp; done) | omega | (simp; omega)) | refine fo (by first | (simp; done) | omega | (simp; omega)) ?_)))
  have q3 : ∀ v : After V, v.w.cell? ⟨w.heap.size + 1, 3, none⟩ = some (.int .i64 4) := after_cell (by rw [hV]; first | (simp; done) | omega | (simp; omega)) (by rw [hV]; (repeat (first | with_reducible assumption | exact bn (by first | (simp; done) | omega | (simp; omega)) rfl | refine bo (by first | (simp; done) | omega | (simp; omega)) ?_)))
  have fq3 : ∀ v : After V, v.w.frozen? ⟨w.heap.size + 1, 3, none⟩ = false := after_frozen (by rw [hV]; first | (simp; done) | omega | (simp; omega)) (by rw [hV]; (repeat (first | exact fn (by first | (simp; done) | omega | (simp; omega)) | refine fo (by first | (simp; done) | omega | (simp; omega)) ?_)))
  have q4 : ∀ v : After V, v.w.cell? ⟨w.heap.size + 1, 4, none⟩ = some (.int .i64 1) := after_cell (by rw [hV]; first | (simp; done) | omega | (simp; omega)) (by rw [hV]; (repeat (first | with_reducible assumption | exact bn (by first | (simp; done) | omega | (simp; omega)) rfl | refine bo (by first | (simp; done) | omega | (simp; omega)) ?_)))
  have fq4 : ∀ v : After V, v.w.frozen? ⟨w.heap.size + 1, 4, none⟩ = false := after_frozen (by rw [hV]; first | (simp; done) | omega | (simp; omega)) (by rw [hV]; (repeat (first | exact fn (by first | (simp; done) | omega | (simp; omega)) | refine fo (by first | (simp; done) | omega | (simp; omega)) ?_)))
  have zq : ∀ v : After V, w.heap.size + 1 < v.w.heap.size := after_size (by rw [hV]; first | (simp; done) | omega | (simp; omega))
  have hwV : Below w.heap.size w V := by rw [hV]; exact (by repeat (first | exact Below.refl _ _ | assumption | refine b_then ?_ (by assumption) | refine b_alloc ?_ _ | refine b_drewN ?_ _ | refine b_drew ?_ | refine b_set ?_ (by omega) _ | refine b_set ?_ (by simp) _))
  have WV := hid (after_below hwV)
  rw [← hV]
  obtain ⟨u0, hu⟩ : ∃ u : After V, u.w = V := ⟨After.here V, rfl⟩
  rw [← hu]
  clear hu hV
  go_wp2_with fail
  refine (add_any cl2 1 rfl (some ⟨u0.w.heap.size, 0, none⟩) 1 cr1 (fun h => by cases h) _ (by omega) (rd_new _ _ _ rfl)).mono ?_
  rintro e w9 ⟨v9, rfl, hi9, hB9⟩
  rw [ae_1]
  rw [av_1] at hi9
  obtain ⟨la, lc, rfl, hR9, hc9, hz9⟩ := hi9.form (n := 2) rfl
  have HRL := hid hR9
  have HZ := hid hz9
  clear hR9 hi9 hz9 hc9
  have hS : Below u0.w.heap.size u0.w w9 := b_then (b_alloc (Below.refl _ _) _) hB9
  obtain ⟨u1, rfl⟩ : ∃ y9 : After V, w9 = y9.w := ⟨u0.on hS, rfl⟩
  clear hS hB9
  go_wp2_with fail
  refine (at_any cl12 2 rfl la lc 2 150 8 _ (by omega) HRL.out).mono ?_
  rintro e w9 ⟨rfl, hB9⟩
  rw [tv_1, te_1]
  dsimp only
  have hS : Below u1.w.heap.size u1.w w9 := hB9
  replace HRL := hid (HRL.out.below hS)
  obtain ⟨u2, rfl⟩ : ∃ y9 : After V, w9 = y9.w := ⟨u1.on hS, rfl⟩
  clear hS hB9
  go_wp2_with fail
  refine (at_any cl12 2 rfl la lc 2 150 9 _ (by omega) HRL.out).mono ?_
  rintro e w9 ⟨rfl, hB9⟩
  rw [tv_2, te_2]
  dsimp only
  have hS : Below u2.w.heap.size u2.w w9 := hB9
  replace HRL := hid (HRL.out.below hS)
  obtain ⟨u3, rfl⟩ : ∃ y9 : After V, w9 = y9.w := ⟨u2.on hS, rfl⟩
  clear hS hB9
  go_wp2_with fail
  refine (at_any [] 0 rfl none 0 0 0 0 _ (by omega) Rd.nil).mono ?_
  rintro e w9 ⟨rfl, hB9⟩
  rw [tv_3, te_3]
  dsimp only
  have hS : Below u3.w.heap.size u3.w w9 := hB9
  replace HRL := hid (HRL.out.below hS)
  obtain ⟨u4, rfl⟩ : ∃ y9 : After V, w9 = y9.w := ⟨u3.on hS, rfl⟩
  clear hS hB9
  go_wp2_with fail
  refine (at_any cl12 2 rfl la lc 16 0 0 _ (by omega) HRL.out).mono ?_
  rintro e w9 ⟨rfl, hB9⟩
  rw [tv_4, te_4]
  dsimp only
  have hS : Below u4.w.heap.size u4.w w9 := hB9
  replace HRL := hid (HRL.out.below hS)
  obtain ⟨u5, rfl⟩ : ∃ y9 : After V, w9 = y9.w := ⟨u4.on hS, rfl⟩
  clear hS hB9
  go_wp2_with fail
  refine (add_any cl12 2 rfl la lc cr1 HZ.out _ (by omega) HRL.out).mono ?_
  rintro e w9 ⟨v9, rfl, hi9, hB9⟩
  rw [ae_2]
  clear hi9
  have hS : Below u5.w.heap.size u5.w w9 := hB9
  replace HRL := hid (HRL.out.below hS)
  obtain ⟨u6, rfl⟩ : ∃ y9 : After V, w9 = y9.w := ⟨u5.on hS, rfl⟩
  clear hS hB9
  go_wp2_with fail
  refine (changed_any cl12 2 rfl la lc 8 9 _ (by omega) HRL.out).mono ?_
  rintro e w9 ⟨x9, rfl, hi9, hB9⟩
  rw [ce_1]
  rw [cv_1] at hi9
  obtain ⟨xa, xc, rfl, hR9, -⟩ := hi9.form (n := 1) rfl
  have HRX := hid hR9
  clear hR9 hi9
  have hS : Below u6.w.heap.size u6.w w9 := hB9
  replace HRL := hid (HRL.out.below hS)
  obtain ⟨u7, rfl⟩ : ∃ y9 : After V, w9 = y9.w := ⟨u6.on hS, rfl⟩
  clear hS hB9
  go_wp2_with fail
  refine (changed_any cl12 2 rfl la lc 5 5 _ (by omega) HRL.out).mono ?_
  rintro e w9 ⟨y9, rfl, hi9, hB9⟩
  rw [ce_2]
  rw [cv_2] at hi9
  obtain ⟨ya, yc, rfl, -, -⟩ := hi9.form (n := 0) rfl
  clear hi9
  have hS : Below u7.w.heap.size u7.w w9 := hB9
  replace HRL := hid (HRL.out.below hS)
  replace HRX := hid (HRX.out.below hS)
  obtain ⟨u8, rfl⟩ : ∃ y9 : After V, w9 = y9.w := ⟨u7.on hS, rfl⟩
  clear hS hB9
  go_wp2_with fail
  refine (rsame_any cl12 cl12 2 2 rfl rfl la (some ⟨u8.w.heap.size, 0, none⟩) lc 2 (by omega) _ (HRL.out.alloc _) (rd_new _ _ _ rfl)).mono ?_
  rintro e w9 ⟨rfl, hB9⟩
  rw [decide_eq_true rfl]
  have hS : Below u8.w.heap.size u8.w w9 := b_then (b_alloc (Below.refl _ _) _) hB9
  replace HRX := hid (HRX.out.below hS)
  obtain ⟨u9, rfl⟩ : ∃ y9 : After V, w9 = y9.w := ⟨u8.on hS, rfl⟩
  clear hS hB9
  go_wp2_with fail
  refine (ssame_any cs1 cs1 1 1 rfl rfl xa (some ⟨u9.w.heap.size, 0, none⟩) xc 1 (by omega) _ (HRX.out.alloc _) (rd_new _ _ _ rfl)).mono ?_
  rintro e w9 ⟨rfl, hB9⟩
  rw [decide_eq_true rfl]
  have hS : Below u9.w.heap.size u9.w w9 := b_then (b_alloc (Below.refl _ _) _) hB9
  obtain ⟨u10, rfl⟩ : ∃ y9 : After V, w9 = y9.w := ⟨u9.on hS, rfl⟩
  clear hS hB9
  go_wp2_with fail
  refine (check_any [] 0 rfl none 0 _ (by omega) Rd.nil).mono ?_
  rintro e w9 ⟨rfl, hB9⟩
  rw [kc_0]
  have hS : Below u10.w.heap.size u10.w w9 := hB9
  obtain ⟨u11, rfl⟩ : ∃ y9 : After V, w9 = y9.w := ⟨u10.on hS, rfl⟩
  clear hS hB9
  go_wp2_with fail
  exact bodyPost_ret (v := .bool true) (by simp [results, Try.results9, go_sem]) rfl ⟨rfl, WV.out u11⟩
end Go.Proofs.Ytdnjpfjiaomlgaa
