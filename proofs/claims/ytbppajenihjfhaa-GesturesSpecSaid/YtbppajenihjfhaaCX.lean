/- The chapter's examples (curves). -/
import Derived.Test.YtbppajenihjfhaaCT
namespace Go.Proofs.Ytbppajenihjfhaa
open Go.RowKit
open Go.Lib (hid)

def kl1 : List Kn := [⟨0, 0, 2, 0, 0⟩, ⟨3, 100, 1, 0, 0⟩]
def kl2 : List Kn := [⟨5, 7, 2, 0, 0⟩]
def kl3 : List Kn := [⟨0, 1, 1, 0, 0⟩, ⟨4, 9, 1, 0, 0⟩]
def kl4 : List Kn := [⟨0, 0, 3, 1, 3⟩, ⟨4, 100, 1, 0, 0⟩]
def kl5 : List Kn := [⟨0, 0, 2, 0, 0⟩, ⟨2, -1, 1, 0, 0⟩]
def km6 : List Tp := [⟨0, 1, 2, false⟩]
def kl6 : List Kn := [⟨0, 1, 1, 0, 0⟩, ⟨1, 2, 1, 0, 0⟩, ⟨2, 3, 1, 0, 0⟩]
def kl7 : List Kn := [⟨0, 2, 1, 0, 0⟩, ⟨1, 3, 1, 0, 0⟩]
def kl8 : List Kn := [⟨0, 0, 0, 0, 0⟩]
theorem ve_1 : vsE kl1 (-1) 6 = 0 := by decide +kernel
theorem vv_1 : vsV kl1 (-1) 6 = [0, 0, 33, 66, 100, 100] := by decide +kernel
theorem kv_2a : kvV kl2 4 = 7 := by decide +kernel
theorem kc_2a : chkK kl2 = 0 := by decide +kernel
theorem kv_2b : kvV kl2 6 = 7 := by decide +kernel
theorem kc_2b : chkK kl2 = 0 := by decide +kernel
theorem ve_3 : vsE kl3 3 2 = 0 := by decide +kernel
theorem vv_3 : vsV kl3 3 2 = [1, 9] := by decide +kernel
theorem kv_4 : kvV kl4 2 = 75 := by decide +kernel
theorem kc_4 : chkK kl4 = 0 := by decide +kernel
theorem kv_5 : kvV kl5 1 = -1 := by decide +kernel
theorem kc_5 : chkK kl5 = 0 := by decide +kernel
theorem kv_0 : kvV [] 9 = 0 := by decide +kernel
theorem kc_0 : chkK [] = 0 := by decide +kernel
theorem re_6 : resE km6 kl6 = 0 := by decide +kernel
theorem rv_6 : resV km6 kl6 = kl7 := by decide +kernel
theorem ve_7 : vsE [] 0 (-1) = 1 := by decide +kernel
theorem vv_7 : vsV [] 0 (-1) = [] := by decide +kernel
theorem ve_8 : vsE [] 0 65537 = 2 := by decide +kernel
theorem vv_8 : vsV [] 0 65537 = [] := by decide +kernel
theorem kc_8 : chkK kl8 = 110 := by decide +kernel

set_option maxRecDepth 100000 in
set_option maxHeartbeats 4000000 in
theorem sane11_any (w : World) : Calls Try.prog 46 #[] w fun e w' => e = .returned (.bool true) ∧ Below w.heap.size w w' := by
  go_enter Try.func46, Try.ntmps46
  obtain ⟨u0, hu0⟩ : ∃ u : After w, u.w = w := ⟨After.here w, rfl⟩
  rw [← hu0]
  have HU := hid hu0
  clear hu0
  go_wp2_with fail
  refine (Values_any kl1 2 rfl (some ⟨u0.w.heap.size, 0, none⟩) 2 (-1) (6) _ (by omega) (rd_new _ _ _ rfl)).mono ?_
  rintro e w9 ⟨v9, rfl, hi9, hB9⟩
  rw [ve_1]
  rw [vv_1] at hi9
  obtain ⟨pa, pc, rfl, hR9, -⟩ := hi9.form (n := 6) rfl
  have Hp := hid hR9
  clear hR9
  clear hi9
  have hS : Below u0.w.heap.size u0.w w9 := b_then (b_alloc (Below.refl _ _) _) hB9
  obtain ⟨u1, rfl⟩ : ∃ y9 : After w, w9 = y9.w := ⟨u0.on hS, rfl⟩
  clear hS hB9
  go_wp2_with fail
  refine (Value_any kl2 1 rfl (some ⟨u1.w.heap.size, 0, none⟩) 1 (4) _ (by omega) (rd_new _ _ _ rfl)).mono ?_
  rintro e w9 ⟨rfl, hB9⟩
  rw [kv_2a, kc_2a]
  have hS : Below u1.w.heap.size u1.w w9 := b_then (b_alloc (Below.refl _ _) _) hB9
  replace Hp := hid (Hp.out.below hS)
  obtain ⟨u2, rfl⟩ : ∃ y9 : After w, w9 = y9.w := ⟨u1.on hS, rfl⟩
  clear hS hB9
  go_wp2_with fail
  refine (Value_any kl2 1 rfl (some ⟨u2.w.heap.size, 0, none⟩) 1 (6) _ (by omega) (rd_new _ _ _ rfl)).mono ?_
  rintro e w9 ⟨rfl, hB9⟩
  rw [kv_2b, kc_2b]
  have hS : Below u2.w.heap.size u2.w w9 := b_then (b_alloc (Below.refl _ _) _) hB9
  replace Hp := hid (Hp.out.below hS)
  obtain ⟨u3, rfl⟩ : ∃ y9 : After w, w9 = y9.w := ⟨u2.on hS, rfl⟩
  clear hS hB9
  go_wp2_with fail
  refine (Values_any kl3 2 rfl (some ⟨u3.w.heap.size, 0, none⟩) 2 (3) (2) _ (by omega) (rd_new _ _ _ rfl)).mono ?_
  rintro e w9 ⟨v9, rfl, hi9, hB9⟩
  rw [ve_3]
  rw [vv_3] at hi9
  obtain ⟨qa, qc, rfl, hR9, -⟩ := hi9.form (n := 2) rfl
  have Hq := hid hR9
  clear hR9
  clear hi9
  have hS : Below u3.w.heap.size u3.w w9 := b_then (b_alloc (Below.refl _ _) _) hB9
  replace Hp := hid (Hp.out.below hS)
  obtain ⟨u4, rfl⟩ : ∃ y9 : After w, w9 = y9.w := ⟨u3.on hS, rfl⟩
  clear hS hB9
  go_wp2_with fail
  refine (Value_any kl4 2 rfl (some ⟨u4.w.heap.size, 0, none⟩) 2 (2) _ (by omega) (rd_new _ _ _ rfl)).mono ?_
  rintro e w9 ⟨rfl, hB9⟩
  rw [kv_4, kc_4]
  have hS : Below u4.w.heap.size u4.w w9 := b_then (b_alloc (Below.refl _ _) _) hB9
  replace Hp := hid (Hp.out.below hS)
  replace Hq := hid (Hq.out.below hS)
  obtain ⟨u5, rfl⟩ : ∃ y9 : After w, w9 = y9.w := ⟨u4.on hS, rfl⟩
  clear hS hB9
  go_wp2_with fail
  refine (Value_any kl5 2 rfl (some ⟨u5.w.heap.size, 0, none⟩) 2 (1) _ (by omega) (rd_new _ _ _ rfl)).mono ?_
  rintro e w9 ⟨rfl, hB9⟩
  rw [kv_5, kc_5]
  have hS : Below u5.w.heap.size u5.w w9 := b_then (b_alloc (Below.refl _ _) _) hB9
  replace Hp := hid (Hp.out.below hS)
  replace Hq := hid (Hq.out.below hS)
  obtain ⟨u6, rfl⟩ : ∃ y9 : After w, w9 = y9.w := ⟨u5.on hS, rfl⟩
  clear hS hB9
  go_wp2_with fail
  refine (Value_any [] 0 rfl none 0 (9) _ (by omega) Rd.nil).mono ?_
  rintro e w9 ⟨rfl, hB9⟩
  rw [kv_0, kc_0]
  have hS : Below u6.w.heap.size u6.w w9 := hB9
  replace Hp := hid (Hp.out.below hS)
  replace Hq := hid (Hq.out.below hS)
  obtain ⟨u7, rfl⟩ : ∃ y9 : After w, w9 = y9.w := ⟨u6.on hS, rfl⟩
  clear hS hB9
  go_wp2_with fail
  refine (Resolve_any km6 1 rfl (some ⟨u7.w.heap.size, 0, none⟩) 1 kl6 3 rfl (some ⟨u7.w.heap.size + 1, 0, none⟩) 3 (fun h => by cases h) _ (by omega) (by omega) ((rd_new u7.w _ 53 rfl).alloc _) (by have h := rd_new (u7.w.alloc (.cells #[.int .i64 0, .int .i64 1, .int .i64 2, .bool false] 53)) #[.int .i64 0, .int .i64 1, .int .i64 1, .int .i64 0, .int .i64 0, .int .i64 1, .int .i64 2, .int .i64 1, .int .i64 0, .int .i64 0, .int .i64 2, .int .i64 3, .int .i64 1, .int .i64 0, .int .i64 0] 71 rfl; rw [World.size_alloc] at h; exact h)).mono ?_
  rintro e w9 ⟨v9, rfl, hi9, hB9⟩
  rw [re_6]
  rw [rv_6] at hi9
  obtain ⟨ra, rc, rfl, hR9, -⟩ := hi9.form (n := 2) rfl
  have Hr := hid hR9
  clear hR9 hi9
  have hS9 : Below u7.w.heap.size u7.w w9 := b_then (b_alloc (b_alloc (Below.refl _ _) _) _) hB9
  clear hB9
  have hB9 := hS9
  clear hS9
  have hS : Below u7.w.heap.size u7.w w9 := hB9
  replace Hp := hid (Hp.out.below hS)
  replace Hq := hid (Hq.out.below hS)
  obtain ⟨u8, rfl⟩ : ∃ y9 : After w, w9 = y9.w := ⟨u7.on hS, rfl⟩
  clear hS hB9
  go_wp2_with fail
  refine (Values_any [] 0 rfl none 0 (0) (-1) _ (by omega) Rd.nil).mono ?_
  rintro e w9 ⟨v9, rfl, hi9, hB9⟩
  rw [ve_7]
  rw [vv_7] at hi9
  clear hi9
  have hS : Below u8.w.heap.size u8.w w9 := hB9
  replace Hp := hid (Hp.out.below hS)
  replace Hq := hid (Hq.out.below hS)
  replace Hr := hid (Hr.out.below hS)
  obtain ⟨u9, rfl⟩ : ∃ y9 : After w, w9 = y9.w := ⟨u8.on hS, rfl⟩
  clear hS hB9
  go_wp2_with fail
  refine (Values_any [] 0 rfl none 0 (0) (65537) _ (by omega) Rd.nil).mono ?_
  rintro e w9 ⟨v9, rfl, hi9, hB9⟩
  rw [ve_8]
  rw [vv_8] at hi9
  clear hi9
  have hS : Below u9.w.heap.size u9.w w9 := hB9
  replace Hp := hid (Hp.out.below hS)
  replace Hq := hid (Hq.out.below hS)
  replace Hr := hid (Hr.out.below hS)
  obtain ⟨u10, rfl⟩ : ∃ y9 : After w, w9 = y9.w := ⟨u9.on hS, rfl⟩
  clear hS hB9
  go_wp2_with fail
  refine (isame_any [0, 0, 33, 66, 100, 100] [0, 0, 33, 66, 100, 100] 6 6 rfl rfl pa (some ⟨u10.w.heap.size, 0, none⟩) pc 6 (by omega) _ (Hp.out.alloc _) (rd_new _ _ _ rfl)).mono ?_
  rintro e w9 ⟨rfl, hB9⟩
  rw [decide_eq_true rfl]
  have hS : Below u10.w.heap.size u10.w w9 := b_then (b_alloc (Below.refl _ _) _) hB9
  replace Hq := hid (Hq.out.below hS)
  replace Hr := hid (Hr.out.below hS)
  obtain ⟨u11, rfl⟩ : ∃ y9 : After w, w9 = y9.w := ⟨u10.on hS, rfl⟩
  clear hS hB9
  go_wp2_with fail
  refine (isame_any [1, 9] [1, 9] 2 2 rfl rfl qa (some ⟨u11.w.heap.size, 0, none⟩) qc 2 (by omega) _ (Hq.out.alloc _) (rd_new _ _ _ rfl)).mono ?_
  rintro e w9 ⟨rfl, hB9⟩
  rw [decide_eq_true rfl]
  have hS : Below u11.w.heap.size u11.w w9 := b_then (b_alloc (Below.refl _ _) _) hB9
  replace Hr := hid (Hr.out.below hS)
  obtain ⟨u12, rfl⟩ : ∃ y9 : After w, w9 = y9.w := ⟨u11.on hS, rfl⟩
  clear hS hB9
  go_wp2_with fail
  refine (ksame_any kl7 kl7 2 2 rfl rfl ra (some ⟨u12.w.heap.size, 0, none⟩) rc 2 (by omega) _ (Hr.out.alloc _) (rd_new _ _ _ rfl)).mono ?_
  rintro e w9 ⟨rfl, hB9⟩
  rw [decide_eq_true rfl]
  have hS : Below u12.w.heap.size u12.w w9 := b_then (b_alloc (Below.refl _ _) _) hB9
  obtain ⟨u13, rfl⟩ : ∃ y9 : After w, w9 = y9.w := ⟨u12.on hS, rfl⟩
  clear hS hB9
  go_wp2_with fail
  refine (kcheck_any [] 0 rfl none 0 _ (by omega) Rd.nil).mono ?_
  rintro e w9 ⟨rfl, hB9⟩
  rw [kc_0]
  have hS : Below u13.w.heap.size u13.w w9 := hB9
  obtain ⟨u14, rfl⟩ : ∃ y9 : After w, w9 = y9.w := ⟨u13.on hS, rfl⟩
  clear hS hB9
  go_wp2_with fail
  refine (kcheck_any kl8 1 rfl (some ⟨u14.w.heap.size, 0, none⟩) 1 _ (by omega) (rd_new _ _ _ rfl)).mono ?_
  rintro e w9 ⟨rfl, hB9⟩
  rw [kc_8]
  have hS : Below u14.w.heap.size u14.w w9 := b_then (b_alloc (Below.refl _ _) _) hB9
  obtain ⟨u15, rfl⟩ : ∃ y9 : After w, w9 = y9.w := ⟨u14.on hS, rfl⟩
  clear hS hB9
  go_wp2_with fail
  exact bodyPost_ret (v := .bool true) (by simp [results, Try.results46, go_sem]) rfl ⟨rfl, by rw [HU.out]; exact u15.w_below⟩
end Go.Proofs.Ytbppajenihjfhaa
