/- The chapter's examples (tempo). -/
import Derived.Test.YtbppajenihjfhaaT
import Derived.Test.YtbppajenihjfhaaL
import Derived.Test.YtbppajenihjfhaaJ
namespace Go.Proofs.Ytbppajenihjfhaa
open Go.RowKit
open Go.Lib (hid)

def slow9 : List Tp := [⟨0, 1, 3, false⟩]
def fast9 : List Tp := [⟨0, 5, 2, false⟩]
def big9 : List Tp := [⟨0, 1048576, 1, false⟩]
def ramp9 : List Tp := [⟨0, 48, 1, true⟩, ⟨100, 24, 1, false⟩]
def bad9 : List Tp := [⟨0, 1, 1, true⟩]
theorem ev_s3 : smV slow9 3 = 1 := by decide +kernel
theorem ee_s3 : smE slow9 3 = 0 := by decide +kernel
theorem ev_s2 : smV slow9 2 = 0 := by decide +kernel
theorem ee_s2 : smE slow9 2 = 0 := by decide +kernel
theorem ev_s4 : smV slow9 4 = 1 := by decide +kernel
theorem ee_s4 : smE slow9 4 = 0 := by decide +kernel
theorem ev_f3 : smV fast9 3 = 7 := by decide +kernel
theorem ee_f3 : smE fast9 3 = 0 := by decide +kernel
theorem ev_g : smV big9 16777216 = 0 := by decide +kernel
theorem ee_g : smE big9 16777216 = 70 := by decide +kernel
theorem ev_n : smV [] 0 = 0 := by decide +kernel
theorem ee_n : smE [] 0 = 90 := by decide +kernel
theorem ev_r100 : smV ramp9 100 = 3600 := by decide +kernel
theorem ee_r100 : smE ramp9 100 = 0 := by decide +kernel
theorem ev_r50 : smV ramp9 50 = 2100 := by decide +kernel
theorem ee_r50 : smE ramp9 50 = 0 := by decide +kernel
theorem ev_sm : smV slow9 (-1) = 0 := by decide +kernel
theorem ee_sm : smE slow9 (-1) = 1 := by decide +kernel
theorem tk_s0 : IsTk slow9 0 2 := ⟨by decide, by decide +kernel, fun _ => by decide +kernel⟩
theorem te_s0 : tkE slow9 0 = 0 := by decide +kernel
theorem tv_s0 : tkV slow9 0 = 2 := by rw [tkV, if_pos te_s0, tkT_is (by decide +kernel) tk_s0]; rfl
theorem te_sx : tkE slow9 1099511627777 = 1 := by decide +kernel
theorem tv_sx : tkV slow9 1099511627777 = 0 := by rw [tkV, if_neg (by rw [te_sx]; decide)]
theorem iv_n : insV [] ⟨0, 1, 3, false⟩ = slow9 := by decide +kernel
theorem ie_n : insE [] ⟨0, 1, 3, false⟩ = 0 := by decide +kernel
theorem ie_s : insE slow9 ⟨1, 1, 0, false⟩ = 90 := by decide +kernel
theorem ck_s : chkT slow9 = 0 := by decide +kernel
theorem ck_b : chkT bad9 = 90 := by decide +kernel

set_option maxRecDepth 100000 in
set_option maxHeartbeats 4000000 in
theorem sane9_any (w : World) : Calls Try.prog 36 #[] w fun e w' => e = .returned (.bool true) ∧ Below w.heap.size w w' := by
  go_enter Try.func36, Try.ntmps36
  go_wp2_with fail
  obtain ⟨V0, hV0⟩ : ∃ V0, V0 = (w.alloc (.cells #[.int .i64 0, .int .i64 1, .int .i64 3, .bool false] 53)) := ⟨_, rfl⟩
  have s0 : ∀ v : After V0, v.w.cell? ⟨w.heap.size, 0, none⟩ = some (.int .i64 0) := after_cell (by rw [hV0]; first | (simp; done) | omega | (simp; omega)) (by rw [hV0]; (repeat (first | with_reducible assumption | exact bn (by first | (simp; done) | omega | (simp; omega)) rfl | refine bo (by first | (simp; done) | omega | (simp; omega)) ?_)))
  have fs0 : ∀ v : After V0, v.w.frozen? ⟨w.heap.size, 0, none⟩ = false := after_frozen (by rw [hV0]; first | (simp; done) | omega | (simp; omega)) (by rw [hV0]; (repeat (first | exact fn (by first | (simp; done) | omega | (simp; omega)) | refine fo (by first | (simp; done) | omega | (simp; omega)) ?_)))
  have s1 : ∀ v : After V0, v.w.cell? ⟨w.heap.size, 1, none⟩ = some (.int .i64 1) := after_cell (by rw [hV0]; first | (simp; done) | omega | (simp; omega)) (by rw [hV0]; (repeat (first | with_reducible assumption | exact bn (by first | (simp; done) | omega | (simp; omega)) rfl | refine bo (by first | (simp; done) | omega | (simp; omega)) ?_)))
  have fs1 : ∀ v : After V0, v.w.frozen? ⟨w.heap.size, 1, none⟩ = false := after_frozen (by rw [hV0]; first | (simp; done) | omega | (simp; omega)) (by rw [hV0]; (repeat (first | exact fn (by first | (simp; done) | omega | (simp; omega)) | refine fo (by first | (simp; done) | omega | (simp; omega)) ?_)))
  have s2 : ∀ v : After V0, v.w.cell? ⟨w.heap.size, 2, none⟩ = some (.int .i64 3) := after_cell (by rw [hV0]; first | (simp; done) | omega | (simp; omega)) (by rw [hV0]; (repeat (first | with_reducible assumption | exact bn (by first | (simp; done) | omega | (simp; omega)) rfl | refine bo (by first | (simp; done) | omega | (simp; omega)) ?_)))
  have fs2 : ∀ v : After V0, v.w.frozen? ⟨w.heap.size, 2, none⟩ = false := after_frozen (by rw [hV0]; first | (simp; done) | omega | (simp; omega)) (by rw [hV0]; (repeat (first | exact fn (by first | (simp; done) | omega | (simp; omega)) | refine fo (by first | (simp; done) | omega | (simp; omega)) ?_)))
  have s3 : ∀ v : After V0, v.w.cell? ⟨w.heap.size, 3, none⟩ = some (.bool false) := after_cell (by rw [hV0]; first | (simp; done) | omega | (simp; omega)) (by rw [hV0]; (repeat (first | with_reducible assumption | exact bn (by first | (simp; done) | omega | (simp; omega)) rfl | refine bo (by first | (simp; done) | omega | (simp; omega)) ?_)))
  have fs3 : ∀ v : After V0, v.w.frozen? ⟨w.heap.size, 3, none⟩ = false := after_frozen (by rw [hV0]; first | (simp; done) | omega | (simp; omega)) (by rw [hV0]; (repeat (first | exact fn (by first | (simp; done) | omega | (simp; omega)) | refine fo (by first | (simp; done) | omega | (simp; omega)) ?_)))
  have zs : ∀ v : After V0, w.heap.size < v.w.heap.size := after_size (by rw [hV0]; first | (simp; done) | omega | (simp; omega))
  have hwV0 : Below w.heap.size w V0 := by rw [hV0]; exact (by repeat (first | exact Below.refl _ _ | assumption | refine b_then ?_ (by assumption) | refine b_alloc ?_ _ | refine b_drewN ?_ _ | refine b_drew ?_ | refine b_set ?_ (by omega) _ | refine b_set ?_ (by simp) _))
  have WV0 := hid (after_below hwV0)
  rw [← hV0]
  obtain ⟨u0, hu⟩ : ∃ u : After V0, u.w = V0 := ⟨After.here V0, rfl⟩
  rw [← hu]
  clear hu hV0
  have HS : Hid (∀ v : After V0, Rd v.w (some ⟨w.heap.size, 0, none⟩) (slow9.flatMap Tp.c)) := hid fun v => .inr ⟨_, 0, rfl, zs v, fun j u hu => by rw [Nat.zero_add]; match j, hu with | 0, hu => (cases hu; exact s0 v) | 1, hu => (cases hu; exact s1 v) | 2, hu => (cases hu; exact s2 v) | 3, hu => (cases hu; exact s3 v) | (n + 4), hu => (simp [slow9, Tp.c] at hu)⟩
  refine (met (Sample_any slow9 1 rfl (some ⟨w.heap.size, 0, none⟩) 1 (3) (by omega) u0.w (HS.out u0))).mono ?_
  rintro e _ ⟨rfl, u101, rfl⟩
  rw [ev_s3, ee_s3]
  go_wp2_with fail
  refine (met (Sample_any slow9 1 rfl (some ⟨w.heap.size, 0, none⟩) 1 (2) (by omega) u101.w (HS.out u101))).mono ?_
  rintro e _ ⟨rfl, u102, rfl⟩
  rw [ev_s2, ee_s2]
  go_wp2_with fail
  refine (met (Sample_any slow9 1 rfl (some ⟨w.heap.size, 0, none⟩) 1 (4) (by omega) u102.w (HS.out u102))).mono ?_
  rintro e _ ⟨rfl, u103, rfl⟩
  rw [ev_s4, ee_s4]
  go_wp2_with fail
  obtain ⟨V1, hV1⟩ : ∃ V1, V1 = (u103.w.alloc (.cells #[.int .i64 0, .int .i64 5, .int .i64 2, .bool false] 53)) := ⟨_, rfl⟩
  have hCV1 : Below u103.w.heap.size u103.w V1 := by rw [hV1]; exact (by repeat (first | exact Below.refl _ _ | assumption | refine b_then ?_ (by assumption) | refine b_alloc ?_ _ | refine b_drewN ?_ _ | refine b_drew ?_ | refine b_set ?_ (by omega) _ | refine b_set ?_ (by simp) _))
  have hBV1 : Below V0.heap.size V0 V1 := b_then u103.w_below hCV1
  have yV1s := zs u103
  replace s0 := upc hBV1 s0
  replace fs0 := upf hBV1 fs0
  replace s1 := upc hBV1 s1
  replace fs1 := upf hBV1 fs1
  replace s2 := upc hBV1 s2
  replace fs2 := upf hBV1 fs2
  replace s3 := upc hBV1 s3
  replace fs3 := upf hBV1 fs3
  replace zs := upz hBV1 zs
  have WV1 := hid (upb hBV1 WV0.out)
  have f0 : ∀ v : After V1, v.w.cell? ⟨u103.w.heap.size, 0, none⟩ = some (.int .i64 0) := after_cell (by rw [hV1]; first | (simp; done) | omega | (simp; omega)) (by rw [hV1]; (repeat (first | with_reducible assumption | exact bn (by first | (simp; done) | omega | (simp; omega)) rfl | refine bo (by first | (simp; done) | omega | (simp; omega)) ?_)))
  have ff0 : ∀ v : After V1, v.w.frozen? ⟨u103.w.heap.size, 0, none⟩ = false := after_frozen (by rw [hV1]; first | (simp; done) | omega | (simp; omega)) (by rw [hV1]; (repeat (first | exact fn (by first | (simp; done) | omega | (simp; omega)) | refine fo (by first | (simp; done) | omega | (simp; omega)) ?_)))
  have f1 : ∀ v : After V1, v.w.cell? ⟨u103.w.heap.size, 1, none⟩ = some (.int .i64 5) := after_cell (by rw [hV1]; first | (simp; done) | omega | (simp; omega)) (by rw [hV1]; (repeat (first | with_reducible assumption | exact bn (by first | (simp; done) | omega | (simp; omega)) rfl | refine bo (by first | (simp; done) | omega | (simp; omega)) ?_)))
  have ff1 : ∀ v : After V1, v.w.frozen? ⟨u103.w.heap.size, 1, none⟩ = false := after_frozen (by rw [hV1]; first | (simp; done) | omega | (simp; omega)) (by rw [hV1]; (repeat (first | exact fn (by first | (simp; done) | omega | (simp; omega)) | refine fo (by first | (simp; done) | omega | (simp; omega)) ?_)))
  have f2 : ∀ v : After V1, v.w.cell? ⟨u103.w.heap.size, 2, none⟩ = some (.int .i64 2) := after_cell (by rw [hV1]; first | (simp; done) | omega | (simp; omega)) (by rw [hV1]; (repeat (first | with_reducible assumption | exact bn (by first | (simp; done) | omega | (simp; omega)) rfl | refine bo (by first | (simp; done) | omega | (simp; omega)) ?_)))
  have ff2 : ∀ v : After V1, v.w.frozen? ⟨u103.w.heap.size, 2, none⟩ = false := after_frozen (by rw [hV1]; first | (simp; done) | omega | (simp; omega)) (by rw [hV1]; (repeat (first | exact fn (by first | (simp; done) | omega | (simp; omega)) | refine fo (by first | (simp; done) | omega | (simp; omega)) ?_)))
  have f3 : ∀ v : After V1, v.w.cell? ⟨u103.w.heap.size, 3, none⟩ = some (.bool false) := after_cell (by rw [hV1]; first | (simp; done) | omega | (simp; omega)) (by rw [hV1]; (repeat (first | with_reducible assumption | exact bn (by first | (simp; done) | omega | (simp; omega)) rfl | refine bo (by first | (simp; done) | omega | (simp; omega)) ?_)))
  have ff3 : ∀ v : After V1, v.w.frozen? ⟨u103.w.heap.size, 3, none⟩ = false := after_frozen (by rw [hV1]; first | (simp; done) | omega | (simp; omega)) (by rw [hV1]; (repeat (first | exact fn (by first | (simp; done) | omega | (simp; omega)) | refine fo (by first | (simp; done) | omega | (simp; omega)) ?_)))
  have zf : ∀ v : After V1, u103.w.heap.size < v.w.heap.size := after_size (by rw [hV1]; first | (simp; done) | omega | (simp; omega))
  rw [← hV1]
  obtain ⟨xV1, hu⟩ : ∃ u : After V1, u.w = V1 := ⟨After.here V1, rfl⟩
  rw [← hu]
  clear hu hV1 hCV1
  replace HS := hid (upr hBV1 HS.out)
  have Hf : Hid (∀ v : After V1, Rd v.w (some ⟨u103.w.heap.size, 0, none⟩) (fast9.flatMap Tp.c)) := hid fun v => .inr ⟨_, 0, rfl, zf v, fun j u hu => by rw [Nat.zero_add]; match j, hu with | 0, hu => (cases hu; exact f0 v) | 1, hu => (cases hu; exact f1 v) | 2, hu => (cases hu; exact f2 v) | 3, hu => (cases hu; exact f3 v) | (n + 4), hu => (simp [fast9, Tp.c] at hu)⟩
  refine (met (Sample_any fast9 1 rfl (some ⟨u103.w.heap.size, 0, none⟩) 1 (3) (by omega) xV1.w (Hf.out xV1))).mono ?_
  rintro e _ ⟨rfl, u104, rfl⟩
  rw [ev_f3, ee_f3]
  go_wp2_with fail
  obtain ⟨V2, hV2⟩ : ∃ V2, V2 = (u104.w.alloc (.cells #[.int .i64 0, .int .i64 1048576, .int .i64 1, .bool false] 53)) := ⟨_, rfl⟩
  have hCV2 : Below u104.w.heap.size u104.w V2 := by rw [hV2]; exact (by repeat (first | exact Below.refl _ _ | assumption | refine b_then ?_ (by assumption) | refine b_alloc ?_ _ | refine b_drewN ?_ _ | refine b_drew ?_ | refine b_set ?_ (by omega) _ | refine b_set ?_ (by simp) _))
  have hBV2 : Below V1.heap.size V1 V2 := b_then u104.w_below hCV2
  have yV2s := zs u104
  have yV2f := zf u104
  replace s0 := upc hBV2 s0
  replace fs0 := upf hBV2 fs0
  replace s1 := upc hBV2 s1
  replace fs1 := upf hBV2 fs1
  replace s2 := upc hBV2 s2
  replace fs2 := upf hBV2 fs2
  replace s3 := upc hBV2 s3
  replace fs3 := upf hBV2 fs3
  replace f0 := upc hBV2 f0
  replace ff0 := upf hBV2 ff0
  replace f1 := upc hBV2 f1
  replace ff1 := upf hBV2 ff1
  replace f2 := upc hBV2 f2
  replace ff2 := upf hBV2 ff2
  replace f3 := upc hBV2 f3
  replace ff3 := upf hBV2 ff3
  replace zs := upz hBV2 zs
  replace zf := upz hBV2 zf
  have WV2 := hid (upb hBV2 WV1.out)
  have g0 : ∀ v : After V2, v.w.cell? ⟨u104.w.heap.size, 0, none⟩ = some (.int .i64 0) := after_cell (by rw [hV2]; first | (simp; done) | omega | (simp; omega)) (by rw [hV2]; (repeat (first | with_reducible assumption | exact bn (by first | (simp; done) | omega | (simp; omega)) rfl | refine bo (by first | (simp; done) | omega | (simp; omega)) ?_)))
  have fg0 : ∀ v : After V2, v.w.frozen? ⟨u104.w.heap.size, 0, none⟩ = false := after_frozen (by rw [hV2]; first | (simp; done) | omega | (simp; omega)) (by rw [hV2]; (repeat (first | exact fn (by first | (simp; done) | omega | (simp; omega)) | refine fo (by first | (simp; done) | omega | (simp; omega)) ?_)))
  have g1 : ∀ v : After V2, v.w.cell? ⟨u104.w.heap.size, 1, none⟩ = some (.int .i64 1048576) := after_cell (by rw [hV2]; first | (simp; done) | omega | (simp; omega)) (by rw [hV2]; (repeat (first | with_reducible assumption | exact bn (by first | (simp; done) | omega | (simp; omega)) rfl | refine bo (by first | (simp; done) | omega | (simp; omega)) ?_)))
  have fg1 : ∀ v : After V2, v.w.frozen? ⟨u104.w.heap.size, 1, none⟩ = false := after_frozen (by rw [hV2]; first | (simp; done) | omega | (simp; omega)) (by rw [hV2]; (repeat (first | exact fn (by first | (simp; done) | omega | (simp; omega)) | refine fo (by first | (simp; done) | omega | (simp; omega)) ?_)))
  have g2 : ∀ v : After V2, v.w.cell? ⟨u104.w.heap.size, 2, none⟩ = some (.int .i64 1) := after_cell (by rw [hV2]; first | (simp; done) | omega | (simp; omega)) (by rw [hV2]; (repeat (first | with_reducible assumption | exact bn (by first | (simp; done) | omega | (simp; omega)) rfl | refine bo (by first | (simp; done) | omega | (simp; omega)) ?_)))
  have fg2 : ∀ v : After V2, v.w.frozen? ⟨u104.w.heap.size, 2, none⟩ = false := after_frozen (by rw [hV2]; first | (simp; done) | omega | (simp; omega)) (by rw [hV2]; (repeat (first | exact fn (by first | (simp; done) | omega | (simp; omega)) | refine fo (by first | (simp; done) | omega | (simp; omega)) ?_)))
  have g3 : ∀ v : After V2, v.w.cell? ⟨u104.w.heap.size, 3, none⟩ = some (.bool false) := after_cell (by rw [hV2]; first | (simp; done) | omega | (simp; omega)) (by rw [hV2]; (repeat (first | with_reducible assumption | exact bn (by first | (simp; done) | omega | (simp; omega)) rfl | refine bo (by first | (simp; done) | omega | (simp; omega)) ?_)))
  have fg3 : ∀ v : After V2, v.w.frozen? ⟨u104.w.heap.size, 3, none⟩ = false := after_frozen (by rw [hV2]; first | (simp; done) | omega | (simp; omega)) (by rw [hV2]; (repeat (first | exact fn (by first | (simp; done) | omega | (simp; omega)) | refine fo (by first | (simp; done) | omega | (simp; omega)) ?_)))
  have zg : ∀ v : After V2, u104.w.heap.size < v.w.heap.size := after_size (by rw [hV2]; first | (simp; done) | omega | (simp; omega))
  rw [← hV2]
  obtain ⟨xV2, hu⟩ : ∃ u : After V2, u.w = V2 := ⟨After.here V2, rfl⟩
  rw [← hu]
  clear hu hV2 hCV2
  replace HS := hid (upr hBV2 HS.out)
  have Hg : Hid (∀ v : After V2, Rd v.w (some ⟨u104.w.heap.size, 0, none⟩) (big9.flatMap Tp.c)) := hid fun v => .inr ⟨_, 0, rfl, zg v, fun j u hu => by rw [Nat.zero_add]; match j, hu with | 0, hu => (cases hu; exact g0 v) | 1, hu => (cases hu; exact g1 v) | 2, hu => (cases hu; exact g2 v) | 3, hu => (cases hu; exact g3 v) | (n + 4), hu => (simp [big9, Tp.c] at hu)⟩
  refine (met (Sample_any big9 1 rfl (some ⟨u104.w.heap.size, 0, none⟩) 1 (16777216) (by omega) xV2.w (Hg.out xV2))).mono ?_
  rintro e _ ⟨rfl, u105, rfl⟩
  rw [ev_g, ee_g]
  go_wp2_with fail
  refine (met (Sample_any [] 0 rfl none 0 0 (by omega) u105.w Rd.nil)).mono ?_
  rintro e _ ⟨rfl, u106, rfl⟩
  rw [ev_n, ee_n]
  go_wp2_with fail
  refine (met (Tick_any slow9 1 rfl (some ⟨w.heap.size, 0, none⟩) 1 0 (by omega) u106.w (HS.out u106))).mono ?_
  rintro e _ ⟨rfl, u107, rfl⟩
  rw [tv_s0, te_s0]
  go_wp2_with fail
  obtain ⟨V3, hV3⟩ : ∃ V3, V3 = (u107.w.alloc (.cells #[.int .i64 0, .int .i64 48, .int .i64 1, .bool true, .int .i64 100, .int .i64 24, .int .i64 1, .bool false] 53)) := ⟨_, rfl⟩
  have hCV3 : Below u107.w.heap.size u107.w V3 := by rw [hV3]; exact (by repeat (first | exact Below.refl _ _ | assumption | refine b_then ?_ (by assumption) | refine b_alloc ?_ _ | refine b_drewN ?_ _ | refine b_drew ?_ | refine b_set ?_ (by omega) _ | refine b_set ?_ (by simp) _))
  have hBV3 : Below V2.heap.size V2 V3 := b_then u107.w_below hCV3
  have yV3s := zs u107
  have yV3f := zf u107
  have yV3g := zg u107
  replace s0 := upc hBV3 s0
  replace fs0 := upf hBV3 fs0
  replace s1 := upc hBV3 s1
  replace fs1 := upf hBV3 fs1
  replace s2 := upc hBV3 s2
  replace fs2 := upf hBV3 fs2
  replace s3 := upc hBV3 s3
  replace fs3 := upf hBV3 fs3
  replace f0 := upc hBV3 f0
  replace ff0 := upf hBV3 ff0
  replace f1 := upc hBV3 f1
  replace ff1 := upf hBV3 ff1
  replace f2 := upc hBV3 f2
  replace ff2 := upf hBV3 ff2
  replace f3 := upc hBV3 f3
  replace ff3 := upf hBV3 ff3
  replace g0 := upc hBV3 g0
  replace fg0 := upf hBV3 fg0
  replace g1 := upc hBV3 g1
  replace fg1 := upf hBV3 fg1
  replace g2 := upc hBV3 g2
  replace fg2 := upf hBV3 fg2
  replace g3 := upc hBV3 g3
  replace fg3 := upf hBV3 fg3
  replace zs := upz hBV3 zs
  replace zf := upz hBV3 zf
  replace zg := upz hBV3 zg
  have WV3 := hid (upb hBV3 WV2.out)
  have r0 : ∀ v : After V3, v.w.cell? ⟨u107.w.heap.size, 0, none⟩ = some (.int .i64 0) := after_cell (by rw [hV3]; first | (simp; done) | omega | (simp; omega)) (by rw [hV3]; (repeat (first | with_reducible assumption | exact bn (by first | (simp; done) | omega | (simp; omega)) rfl | refine bo (by first | (simp; done) | omega | (simp; omega)) ?_)))
  have fr0 : ∀ v : After V3, v.w.frozen? ⟨u107.w.heap.size, 0, none⟩ = false := after_frozen (by rw [hV3]; first | (simp; done) | omega | (simp; omega)) (by rw [hV3]; (repeat (first | exact fn (by first | (simp; done) | omega | (simp; omega)) | refine fo (by first | (simp; done) | omega | (simp; omega)) ?_)))
  have r1 : ∀ v : After V3, v.w.cell? ⟨u107.w.heap.size, 1, none⟩ = some (.int .i64 48) := after_cell (by rw [hV3]; first | (simp; done) | omega | (simp; omega)) (by rw [hV3]; (repeat (first | with_reducible assumption | exact bn (by first | (simp; done) | omega | (simp; omega)) rfl | refine bo (by first | (simp; done) | omega | (simp; omega)) ?_)))
  have fr1 : ∀ v : After V3, v.w.frozen? ⟨u107.w.heap.size, 1, none⟩ = false := after_frozen (by rw [hV3]; first | (simp; done) | omega | (simp; omega)) (by rw [hV3]; (repeat (first | exact fn (by first | (simp; done) | omega | (simp; omega)) | refine fo (by first | (simp; done) | omega | (simp; omega)) ?_)))
  have r2 : ∀ v : After V3, v.w.cell? ⟨u107.w.heap.size, 2, none⟩ = some (.int .i64 1) := after_cell (by rw [hV3]; first | (simp; done) | omega | (simp; omega)) (by rw [hV3]; (repeat (first | with_reducible assumption | exact bn (by first | (simp; done) | omega | (simp; omega)) rfl | refine bo (by first | (simp; done) | omega | (simp; omega)) ?_)))
  have fr2 : ∀ v : After V3, v.w.frozen? ⟨u107.w.heap.size, 2, none⟩ = false := after_frozen (by rw [hV3]; first | (simp; done) | omega | (simp; omega)) (by rw [hV3]; (repeat (first | exact fn (by first | (simp; done) | omega | (simp; omega)) | refine fo (by first | (simp; done) | omega | (simp; omega)) ?_)))
  have r3 : ∀ v : After V3, v.w.cell? ⟨u107.w.heap.size, 3, none⟩ = some (.bool true) := after_cell (by rw [hV3]; first | (simp; done) | omega | (simp; omega)) (by rw [hV3]; (repeat (first | with_reducible assumption | exact bn (by first | (simp; done) | omega | (simp; omega)) rfl | refine bo (by first | (simp; done) | omega | (simp; omega)) ?_)))
  have fr3 : ∀ v : After V3, v.w.frozen? ⟨u107.w.heap.size, 3, none⟩ = false := after_frozen (by rw [hV3]; first | (simp; done) | omega | (simp; omega)) (by rw [hV3]; (repeat (first | exact fn (by first | (simp; done) | omega | (simp; omega)) | refine fo (by first | (simp; done) | omega | (simp; omega)) ?_)))
  have r4 : ∀ v : After V3, v.w.cell? ⟨u107.w.heap.size, 4, none⟩ = some (.int .i64 100) := after_cell (by rw [hV3]; first | (simp; done) | omega | (simp; omega)) (by rw [hV3]; (repeat (first | with_reducible assumption | exact bn (by first | (simp; done) | omega | (simp; omega)) rfl | refine bo (by first | (simp; done) | omega | (simp; omega)) ?_)))
  have fr4 : ∀ v : After V3, v.w.frozen? ⟨u107.w.heap.size, 4, none⟩ = false := after_frozen (by rw [hV3]; first | (simp; done) | omega | (simp; omega)) (by rw [hV3]; (repeat (first | exact fn (by first | (simp; done) | omega | (simp; omega)) | refine fo (by first | (simp; done) | omega | (simp; omega)) ?_)))
  have r5 : ∀ v : After V3, v.w.cell? ⟨u107.w.heap.size, 5, none⟩ = some (.int .i64 24) := after_cell (by rw [hV3]; first | (simp; done) | omega | (simp; omega)) (by rw [hV3]; (repeat (first | with_reducible assumption | exact bn (by first | (simp; done) | omega | (simp; omega)) rfl | refine bo (by first | (simp; done) | omega | (simp; omega)) ?_)))
  have fr5 : ∀ v : After V3, v.w.frozen? ⟨u107.w.heap.size, 5, none⟩ = false := after_frozen (by rw [hV3]; first | (simp; done) | omega | (simp; omega)) (by rw [hV3]; (repeat (first | exact fn (by first | (simp; done) | omega | (simp; omega)) | refine fo (by first | (simp; done) | omega | (simp; omega)) ?_)))
  have r6 : ∀ v : After V3, v.w.cell? ⟨u107.w.heap.size, 6, none⟩ = some (.int .i64 1) := after_cell (by rw [hV3]; first | (simp; done) | omega | (simp; omega)) (by rw [hV3]; (repeat (first | with_reducible assumption | exact bn (by first | (simp; done) | omega | (simp; omega)) rfl | refine bo (by first | (simp; done) | omega | (simp; omega)) ?_)))
  have fr6 : ∀ v : After V3, v.w.frozen? ⟨u107.w.heap.size, 6, none⟩ = false := after_frozen (by rw [hV3]; first | (simp; done) | omega | (simp; omega)) (by rw [hV3]; (repeat (first | exact fn (by first | (simp; done) | omega | (simp; omega)) | refine fo (by first | (simp; done) | omega | (simp; omega)) ?_)))
  have r7 : ∀ v : After V3, v.w.cell? ⟨u107.w.heap.size, 7, none⟩ = some (.bool false) := after_cell (by rw [hV3]; first | (simp; done) | omega | (simp; omega)) (by rw [hV3]; (repeat (first | with_reducible assumption | exact bn (by first | (simp; done) | omega | (simp; omega)) rfl | refine bo (by first | (simp; done) | omega | (simp; omega)) ?_)))
  have fr7 : ∀ v : After V3, v.w.frozen? ⟨u107.w.heap.size, 7, none⟩ = false := after_frozen (by rw [hV3]; first | (simp; done) | omega | (simp; omega)) (by rw [hV3]; (repeat (first | exact fn (by first | (simp; done) | omega | (simp; omega)) | refine fo (by first | (simp; done) | omega | (simp; omega)) ?_)))
  have zr : ∀ v : After V3, u107.w.heap.size < v.w.heap.size := after_size (by rw [hV3]; first | (simp; done) | omega | (simp; omega))
  rw [← hV3]
  obtain ⟨xV3, hu⟩ : ∃ u : After V3, u.w = V3 := ⟨After.here V3, rfl⟩
  rw [← hu]
  clear hu hV3 hCV3
  replace HS := hid (upr hBV3 HS.out)
  have Hr : Hid (∀ v : After V3, Rd v.w (some ⟨u107.w.heap.size, 0, none⟩) (ramp9.flatMap Tp.c)) := hid fun v => .inr ⟨_, 0, rfl, zr v, fun j u hu => by rw [Nat.zero_add]; match j, hu with | 0, hu => (cases hu; exact r0 v) | 1, hu => (cases hu; exact r1 v) | 2, hu => (cases hu; exact r2 v) | 3, hu => (cases hu; exact r3 v) | 4, hu => (cases hu; exact r4 v) | 5, hu => (cases hu; exact r5 v) | 6, hu => (cases hu; exact r6 v) | 7, hu => (cases hu; exact r7 v) | (n + 8), hu => (simp [ramp9, Tp.c] at hu)⟩
  refine (met (Sample_any ramp9 2 rfl (some ⟨u107.w.heap.size, 0, none⟩) 2 (100) (by omega) xV3.w (Hr.out xV3))).mono ?_
  rintro e _ ⟨rfl, u108, rfl⟩
  rw [ev_r100, ee_r100]
  go_wp2_with fail
  refine (met (Sample_any ramp9 2 rfl (some ⟨u107.w.heap.size, 0, none⟩) 2 (50) (by omega) u108.w (Hr.out u108))).mono ?_
  rintro e _ ⟨rfl, u109, rfl⟩
  rw [ev_r50, ee_r50]
  go_wp2_with fail
  refine (Insert_any [] 0 rfl none 0 ⟨0, 1, 3, false⟩ (fun _ => ⟨rfl, rfl⟩) (by omega) u109.w Rd.nil).mono ?_
  rintro e w9 ⟨iv, rfl, hi9, hB9⟩
  rw [iv_n] at hi9
  rw [ie_n]
  obtain ⟨xa, xc, rfl, hxR, -, -⟩ := hi9.form (n := 1) rfl
  obtain ⟨z9, rfl⟩ : ∃ y9 : After V3, w9 = y9.w := ⟨u109.on hB9, rfl⟩
  clear hB9 hi9
  obtain ⟨V4, hV4⟩ : ∃ V4, V4 = z9.w := ⟨_, rfl⟩
  have hBV4 : Below V3.heap.size V3 V4 := by rw [hV4]; exact z9.w_below
  replace s0 := upc hBV4 s0
  replace fs0 := upf hBV4 fs0
  replace s1 := upc hBV4 s1
  replace fs1 := upf hBV4 fs1
  replace s2 := upc hBV4 s2
  replace fs2 := upf hBV4 fs2
  replace s3 := upc hBV4 s3
  replace fs3 := upf hBV4 fs3
  replace f0 := upc hBV4 f0
  replace ff0 := upf hBV4 ff0
  replace f1 := upc hBV4 f1
  replace ff1 := upf hBV4 ff1
  replace f2 := upc hBV4 f2
  replace ff2 := upf hBV4 ff2
  replace f3 := upc hBV4 f3
  replace ff3 := upf hBV4 ff3
  replace g0 := upc hBV4 g0
  replace fg0 := upf hBV4 fg0
  replace g1 := upc hBV4 g1
  replace fg1 := upf hBV4 fg1
  replace g2 := upc hBV4 g2
  replace fg2 := upf hBV4 fg2
  replace g3 := upc hBV4 g3
  replace fg3 := upf hBV4 fg3
  replace r0 := upc hBV4 r0
  replace fr0 := upf hBV4 fr0
  replace r1 := upc hBV4 r1
  replace fr1 := upf hBV4 fr1
  replace r2 := upc hBV4 r2
  replace fr2 := upf hBV4 fr2
  replace r3 := upc hBV4 r3
  replace fr3 := upf hBV4 fr3
  replace r4 := upc hBV4 r4
  replace fr4 := upf hBV4 fr4
  replace r5 := upc hBV4 r5
  replace fr5 := upf hBV4 fr5
  replace r6 := upc hBV4 r6
  replace fr6 := upf hBV4 fr6
  replace r7 := upc hBV4 r7
  replace fr7 := upf hBV4 fr7
  replace zs := upz hBV4 zs
  replace zf := upz hBV4 zf
  replace zg := upz hBV4 zg
  replace zr := upz hBV4 zr
  have WV4 := hid (upb hBV4 WV3.out)
  have HX : Hid (∀ v : After V4, Rd v.w xa (slow9.flatMap Tp.c)) := hid fun v => Rd.below (by rw [hV4]; exact hxR) v.2
  replace HS := hid (upr hBV4 HS.out)
  rw [← hV4]
  obtain ⟨u9, hu⟩ : ∃ u : After V4, u.w = V4 := ⟨After.here V4, rfl⟩
  rw [← hu]
  clear hu hV4
  clear hxR
  go_wp2_with fail
  refine (met (Sample_any slow9 1 rfl (some ⟨w.heap.size, 0, none⟩) 1 (-1) (by omega) u9.w (HS.out u9))).mono ?_
  rintro e _ ⟨rfl, u110, rfl⟩
  rw [ev_sm, ee_sm]
  go_wp2_with fail
  refine (met (Tick_any slow9 1 rfl (some ⟨w.heap.size, 0, none⟩) 1 1099511627777 (by omega) u110.w (HS.out u110))).mono ?_
  rintro e _ ⟨rfl, u111, rfl⟩
  rw [tv_sx, te_sx]
  go_wp2_with fail
  refine (Insert_any slow9 1 rfl (some ⟨w.heap.size, 0, none⟩) 1 ⟨1, 1, 0, false⟩ (fun h => by cases h) (by omega) u111.w (HS.out u111)).mono ?_
  rintro e w9 ⟨iv, rfl, hi9, hB9⟩
  rw [ie_s]
  obtain ⟨z10, rfl⟩ : ∃ y9 : After V4, w9 = y9.w := ⟨u111.on hB9, rfl⟩
  clear hB9 hi9
  go_wp2_with fail
  refine (met (same_any slow9 slow9 1 1 rfl rfl xa (some ⟨w.heap.size, 0, none⟩) xc 1 (by omega) z10.w (HX.out z10) (HS.out z10))).mono ?_
  rintro e _ ⟨rfl, u112, rfl⟩
  rw [decide_eq_true rfl]
  go_wp2_with fail
  refine (met (tcheck_any slow9 1 rfl (some ⟨w.heap.size, 0, none⟩) 1 u112.w (by omega) (HS.out u112))).mono ?_
  rintro e _ ⟨rfl, u113, rfl⟩
  rw [ck_s]
  go_wp2_with fail
  obtain ⟨V5, hV5⟩ : ∃ V5, V5 = (u113.w.alloc (.cells #[.int .i64 0, .int .i64 1, .int .i64 1, .bool true] 53)) := ⟨_, rfl⟩
  have hCV5 : Below u113.w.heap.size u113.w V5 := by rw [hV5]; exact (by repeat (first | exact Below.refl _ _ | assumption | refine b_then ?_ (by assumption) | refine b_alloc ?_ _ | refine b_drewN ?_ _ | refine b_drew ?_ | refine b_set ?_ (by omega) _ | refine b_set ?_ (by simp) _))
  have hBV5 : Below V4.heap.size V4 V5 := b_then u113.w_below hCV5
  have yV5s := zs u113
  have yV5f := zf u113
  have yV5g := zg u113
  have yV5r := zr u113
  replace s0 := upc hBV5 s0
  replace fs0 := upf hBV5 fs0
  replace s1 := upc hBV5 s1
  replace fs1 := upf hBV5 fs1
  replace s2 := upc hBV5 s2
  replace fs2 := upf hBV5 fs2
  replace s3 := upc hBV5 s3
  replace fs3 := upf hBV5 fs3
  replace f0 := upc hBV5 f0
  replace ff0 := upf hBV5 ff0
  replace f1 := upc hBV5 f1
  replace ff1 := upf hBV5 ff1
  replace f2 := upc hBV5 f2
  replace ff2 := upf hBV5 ff2
  replace f3 := upc hBV5 f3
  replace ff3 := upf hBV5 ff3
  replace g0 := upc hBV5 g0
  replace fg0 := upf hBV5 fg0
  replace g1 := upc hBV5 g1
  replace fg1 := upf hBV5 fg1
  replace g2 := upc hBV5 g2
  replace fg2 := upf hBV5 fg2
  replace g3 := upc hBV5 g3
  replace fg3 := upf hBV5 fg3
  replace r0 := upc hBV5 r0
  replace fr0 := upf hBV5 fr0
  replace r1 := upc hBV5 r1
  replace fr1 := upf hBV5 fr1
  replace r2 := upc hBV5 r2
  replace fr2 := upf hBV5 fr2
  replace r3 := upc hBV5 r3
  replace fr3 := upf hBV5 fr3
  replace r4 := upc hBV5 r4
  replace fr4 := upf hBV5 fr4
  replace r5 := upc hBV5 r5
  replace fr5 := upf hBV5 fr5
  replace r6 := upc hBV5 r6
  replace fr6 := upf hBV5 fr6
  replace r7 := upc hBV5 r7
  replace fr7 := upf hBV5 fr7
  replace zs := upz hBV5 zs
  replace zf := upz hBV5 zf
  replace zg := upz hBV5 zg
  replace zr := upz hBV5 zr
  have WV5 := hid (upb hBV5 WV4.out)
  have b0 : ∀ v : After V5, v.w.cell? ⟨u113.w.heap.size, 0, none⟩ = some (.int .i64 0) := after_cell (by rw [hV5]; first | (simp; done) | omega | (simp; omega)) (by rw [hV5]; (repeat (first | with_reducible assumption | exact bn (by first | (simp; done) | omega | (simp; omega)) rfl | refine bo (by first | (simp; done) | omega | (simp; omega)) ?_)))
  have fb0 : ∀ v : After V5, v.w.frozen? ⟨u113.w.heap.size, 0, none⟩ = false := after_frozen (by rw [hV5]; first | (simp; done) | omega | (simp; omega)) (by rw [hV5]; (repeat (first | exact fn (by first | (simp; done) | omega | (simp; omega)) | refine fo (by first | (simp; done) | omega | (simp; omega)) ?_)))
  have b1 : ∀ v : After V5, v.w.cell? ⟨u113.w.heap.size, 1, none⟩ = some (.int .i64 1) := after_cell (by rw [hV5]; first | (simp; done) | omega | (simp; omega)) (by rw [hV5]; (repeat (first | with_reducible assumption | exact bn (by first | (simp; done) | omega | (simp; omega)) rfl | refine bo (by first | (simp; done) | omega | (simp; omega)) ?_)))
  have fb1 : ∀ v : After V5, v.w.frozen? ⟨u113.w.heap.size, 1, none⟩ = false := after_frozen (by rw [hV5]; first | (simp; done) | omega | (simp; omega)) (by rw [hV5]; (repeat (first | exact fn (by first | (simp; done) | omega | (simp; omega)) | refine fo (by first | (simp; done) | omega | (simp; omega)) ?_)))
  have b2 : ∀ v : After V5, v.w.cell? ⟨u113.w.heap.size, 2, none⟩ = some (.int .i64 1) := after_cell (by rw [hV5]; first | (simp; done) | omega | (simp; omega)) (by rw [hV5]; (repeat (first | with_reducible assumption | exact bn (by first | (simp; done) | omega | (simp; omega)) rfl | refine bo (by first | (simp; done) | omega | (simp; omega)) ?_)))
  have fb2 : ∀ v : After V5, v.w.frozen? ⟨u113.w.heap.size, 2, none⟩ = false := after_frozen (by rw [hV5]; first | (simp; done) | omega | (simp; omega)) (by rw [hV5]; (repeat (first | exact fn (by first | (simp; done) | omega | (simp; omega)) | refine fo (by first | (simp; done) | omega | (simp; omega)) ?_)))
  have b3 : ∀ v : After V5, v.w.cell? ⟨u113.w.heap.size, 3, none⟩ = some (.bool true) := after_cell (by rw [hV5]; first | (simp; done) | omega | (simp; omega)) (by rw [hV5]; (repeat (first | with_reducible assumption | exact bn (by first | (simp; done) | omega | (simp; omega)) rfl | refine bo (by first | (simp; done) | omega | (simp; omega)) ?_)))
  have fb3 : ∀ v : After V5, v.w.frozen? ⟨u113.w.heap.size, 3, none⟩ = false := after_frozen (by rw [hV5]; first | (simp; done) | omega | (simp; omega)) (by rw [hV5]; (repeat (first | exact fn (by first | (simp; done) | omega | (simp; omega)) | refine fo (by first | (simp; done) | omega | (simp; omega)) ?_)))
  have zb : ∀ v : After V5, u113.w.heap.size < v.w.heap.size := after_size (by rw [hV5]; first | (simp; done) | omega | (simp; omega))
  rw [← hV5]
  obtain ⟨xV5, hu⟩ : ∃ u : After V5, u.w = V5 := ⟨After.here V5, rfl⟩
  rw [← hu]
  clear hu hV5 hCV5
  have Hb : Hid (∀ v : After V5, Rd v.w (some ⟨u113.w.heap.size, 0, none⟩) (bad9.flatMap Tp.c)) := hid fun v => .inr ⟨_, 0, rfl, zb v, fun j u hu => by rw [Nat.zero_add]; match j, hu with | 0, hu => (cases hu; exact b0 v) | 1, hu => (cases hu; exact b1 v) | 2, hu => (cases hu; exact b2 v) | 3, hu => (cases hu; exact b3 v) | (n + 4), hu => (simp [bad9, Tp.c] at hu)⟩
  refine (met (tcheck_any bad9 1 rfl (some ⟨u113.w.heap.size, 0, none⟩) 1 xV5.w (by omega) (Hb.out xV5))).mono ?_
  rintro e _ ⟨rfl, u114, rfl⟩
  rw [ck_b]
  go_wp2_with fail
  exact bodyPost_ret (v := .bool true) (by simp [results, Try.results36, go_sem]) rfl ⟨rfl, WV5.out u114⟩
end Go.Proofs.Ytbppajenihjfhaa
