/- NetworkCuts: for all nets, valid or not, and all numbers: what a cut and a mended link do. No condition. -/
import Derived.Test.YtmikhkmdcpgkfaaF2
import Derived.Test.YtmikhkmdcpgkfaaT
import Derived.Test.YtmikhkmdcpgkfaaC5
namespace Go.Proofs.Ytmikhkmdcpgkfaa
open Go.RowKit
open Go.Lib (hid)

set_option maxRecDepth 100000 in
set_option maxHeartbeats 8000000 in
theorem cuts_walk (d : Pk → List UInt8) (ps : List Pk) (ls : List (Int × Int)) (v : Value) (a b at_ : Int) (h64 : 0 ≤ at_ ∧ at_ < 18446744073709551616) (W : World) (hv : NetIs (fun _ => True) W v ps ls) (hd : ∀ q, q ∈ ps ∨ q = Pk.zero → DataIs W q (d q)) :
    Calls Try.prog 5 #[v, .int .i64 a, .int .i64 b, .int .u64 at_] W fun e w' => e = .returned (.bool true) ∧ Below W.heap.size W w' := by
  have hv0 := hv.here
  obtain ⟨nn, hnn⟩ : ∃ n, ps.length = n := ⟨_, rfl⟩
  obtain ⟨mm, hmm⟩ : ∃ n, ls.length = n := ⟨_, rfl⟩
  obtain ⟨qa, aa, qc, ac, rfl⟩ := hv0.form' (n := nn) (m := mm) hnn hmm
  clear hv
  have HV := hid (hv0.mono (ok' := fun g => g < W.heap.size) fun g h => h.2); clear hv0
  have HE := hid hd; clear hd
  go_enter Try.func5, Try.ntmps5
  go_wp2_with fail
  obtain ⟨V0, hV0⟩ : ∃ V0, V0 = (W.alloc (.cells #[.slice qa nn qc, .slice aa mm ac] 25)) := ⟨_, rfl⟩
  have n0 : ∀ v : After V0, v.w.cell? ⟨W.heap.size, 0, none⟩ = some (.slice qa nn qc) := after_cell (by rw [hV0]; first | (simp; done) | omega | (simp; omega)) (by rw [hV0]; (repeat (first | with_reducible assumption | exact bn (by first | (simp; done) | omega | (simp; omega)) rfl | refine bo (by first | (simp; done) | omega | (simp; omega)) ?_)))
  have fn0 : ∀ v : After V0, v.w.frozen? ⟨W.heap.size, 0, none⟩ = false := after_frozen (by rw [hV0]; first | (simp; done) | omega | (simp; omega)) (by rw [hV0]; (repeat (first | exact fn (by first | (simp; done) | omega | (simp; omega)) | refine fo (by first | (simp; done) | omega | (simp; omega)) ?_)))
  have n1 : ∀ v : After V0, v.w.cell? ⟨W.heap.size, 1, none⟩ = some (.slice aa mm ac) := after_cell (by rw [hV0]; first | (simp; done) | omega | (simp; omega)) (by rw [hV0]; (repeat (first | with_reducible assumption | exact bn (by first | (simp; done) | omega | (simp; omega)) rfl | refine bo (by first | (simp; done) | omega | (simp; omega)) ?_)))
  have fn1 : ∀ v : After V0, v.w.frozen? ⟨W.heap.size, 1, none⟩ = false := after_frozen (by rw [hV0]; first | (simp; done) | omega | (simp; omega)) (by rw [hV0]; (repeat (first | exact fn (by first | (simp; done) | omega | (simp; omega)) | refine fo (by first | (simp; done) | omega | (simp; omega)) ?_)))
  have zn : ∀ v : After V0, W.heap.size < v.w.heap.size := after_size (by rw [hV0]; first | (simp; done) | omega | (simp; omega))
  have hwV0 : Below W.heap.size W V0 := by rw [hV0]; exact (by repeat (first | exact Below.refl _ _ | assumption | refine b_then ?_ (by assumption) | refine b_alloc ?_ _ | refine b_drewN ?_ _ | refine b_drew ?_ | refine b_set ?_ (by omega) _ | refine b_set ?_ (by simp) _))
  have WV0 := hid (after_below hwV0)
  rw [← hV0]
  obtain ⟨u0, hu⟩ : ∃ u : After V0, u.w = V0 := ⟨After.here V0, rfl⟩
  rw [← hu]
  clear hu hV0
  have HN := hid (fun v : After V0 => HV.out.below (WV0.out v))
  refine (met (sane_any _)).mono ?_
  rintro e _ ⟨rfl, u1, rfl⟩
  go_wp2_with fail
  refine (met (few_any _ ps ls _ _ (HN.out u1))).mono ?_
  rintro e _ ⟨rfl, u2, rfl⟩
  by_cases hf : (decide (ps.length ≤ 40) && decide (ls.length ≤ 40)) = true
  case neg =>
    rw [Bool.not_eq_true] at hf
    rw [hf]
    go_wp2_with fail
    exact bodyPost_ret (v := .bool true) (by simp [results, Try.results5, go_sem]) rfl ⟨rfl, WV0.out _⟩
  rw [hf]
  simp only [Bool.and_eq_true, decide_eq_true_eq] at hf
  have hp1 : ps.length ≤ 1000 := by omega
  have hl1 : ls.length ≤ 1000 := by omega
  have hn40 : nn ≤ 40 := by omega
  go_wp2_with fail
  refine (met (Check_net (HN.out u2) hp1 hl1)).mono ?_
  rintro e _ ⟨rfl, u3, rfl⟩
  by_cases hc : chk ps ls = 0
  case neg =>
    rw [chk_60 hc]
    go_wp2_with fail
    exact bodyPost_ret (v := .bool true) (by simp [results, Try.results5, go_sem]) rfl ⟨rfl, WV0.out _⟩
  rw [hc]
  go_wp2_with fail
  rcases hlk : lkOk (min a b) (max a b) with _ | _
  · refine (Cut_any _ ps ls a b true _ _ hp1 hl1 (HN.out u3)).mono ?_
    rintro e w9 ⟨v9, rfl, hn9, hB9⟩
    obtain ⟨u4, rfl⟩ : ∃ y9 : After V0, w9 = y9.w := ⟨u3.on hB9, rfl⟩
    rw [cut_no hc hlk]
    obtain ⟨qb1, ab1, qd1, ad1, rfl⟩ := hn9.form
    go_wp2_with fail
    exact bodyPost_ret (v := .bool true) (by simp [results, Try.results5, go_sem]) rfl ⟨rfl, b_alloc (WV0.out _) _⟩
  have hne : a ≠ b := fun e => by subst e; simp [lkOk] at hlk
  obtain ⟨A, K, F1, F2, F3, F4, F5, F6, F7, F8, F9, F10, F11, F12, F13, F14, hAK, hA1, hK1, hdel⟩ := cuts_plain hc hlk
  clear hlk
  have hA2 : A.length ≤ 1000 := by omega
  have hK2 : K.length ≤ 1000 := by omega
  obtain ⟨an, han⟩ : ∃ n, A.length = n := ⟨_, rfl⟩
  obtain ⟨kn, hkn⟩ : ∃ n, K.length = n := ⟨_, rfl⟩
  have hak : an = kn + 1 := by omega
  subst hak
  have hkn1 : kn ≤ 280 := by omega
  clear hAK hA1 hK1
  have HC := hid hc; clear hc
  refine (Cut_any _ ps ls a b true _ _ hp1 hl1 (HN.out u3)).mono ?_
  rintro e w9 h9
  obtain ⟨v9, rfl, hn9, hB9⟩ := h9
  obtain ⟨u4, rfl⟩ : ∃ y9 : After V0, w9 = y9.w := ⟨u3.on hB9, rfl⟩
  clear hB9
  rw [F2, F3] at hn9
  rw [F1]
  have hn9 : NetIs (fun g => g < u4.w.heap.size) _ _ (ps) (A) := hn9.here.mono fun g h => h.2
  obtain ⟨qb1, ab1, qd1, ad1, rfl⟩ := hn9.form' (n := nn) (m := kn + 1) hnn han
  have sn0u4 : W.heap.size < u4.w.heap.size := by have := zn u4; omega
  have ln0u4 : W.heap.size ≤ u4.w.heap.size := by have := zn u4; omega
  go_wp2_with fail
  obtain ⟨V1, hV1⟩ : ∃ V1, V1 = (u4.w.alloc (.cells #[.slice qb1 (nn) qd1, .slice ab1 (kn + 1) ad1] 25)) := ⟨_, rfl⟩
  have hCV1 : Below u4.w.heap.size u4.w V1 := by rw [hV1]; exact (by repeat (first | exact Below.refl _ _ | assumption | refine b_then ?_ (by assumption) | refine b_alloc ?_ _ | refine b_drewN ?_ _ | refine b_drew ?_ | refine b_set ?_ (by omega) _ | refine b_set ?_ (by simp) _))
  have hBV1 : Below V0.heap.size V0 V1 := b_then u4.w_below hCV1
  have yV1n := zn u4
  replace n0 := upc hBV1 n0
  replace fn0 := upf hBV1 fn0
  replace n1 := upc hBV1 n1
  replace fn1 := upf hBV1 fn1
  replace zn := upz hBV1 zn
  replace HN := hid (upn hBV1 HN.out)
  have WV1 := hid (upb hBV1 WV0.out)
  have HN1 : Hid (∀ v : After V1, NetIs (fun g => g < u4.w.heap.size) v.w (.agg #[.slice qb1 (nn) qd1, .slice ab1 (kn + 1) ad1]) (ps) (A)) := hid fun v => hn9.below (b_then hCV1 v.2)
  have x0 : ∀ v : After V1, v.w.cell? ⟨u4.w.heap.size, 0, none⟩ = some (.slice qb1 (nn) qd1) := after_cell (by rw [hV1]; first | (simp; done) | omega | (simp; omega)) (by rw [hV1]; (repeat (first | with_reducible assumption | exact bn (by first | (simp; done) | omega | (simp; omega)) rfl | refine bo (by first | (simp; done) | omega | (simp; omega)) ?_)))
  have fx0 : ∀ v : After V1, v.w.frozen? ⟨u4.w.heap.size, 0, none⟩ = false := after_frozen (by rw [hV1]; first | (simp; done) | omega | (simp; omega)) (by rw [hV1]; (repeat (first | exact fn (by first | (simp; done) | omega | (simp; omega)) | refine fo (by first | (simp; done) | omega | (simp; omega)) ?_)))
  have x1 : ∀ v : After V1, v.w.cell? ⟨u4.w.heap.size, 1, none⟩ = some (.slice ab1 (kn + 1) ad1) := after_cell (by rw [hV1]; first | (simp; done) | omega | (simp; omega)) (by rw [hV1]; (repeat (first | with_reducible assumption | exact bn (by first | (simp; done) | omega | (simp; omega)) rfl | refine bo (by first | (simp; done) | omega | (simp; omega)) ?_)))
  have fx1 : ∀ v : After V1, v.w.frozen? ⟨u4.w.heap.size, 1, none⟩ = false := after_frozen (by rw [hV1]; first | (simp; done) | omega | (simp; omega)) (by rw [hV1]; (repeat (first | exact fn (by first | (simp; done) | omega | (simp; omega)) | refine fo (by first | (simp; done) | omega | (simp; omega)) ?_)))
  have zx : ∀ v : After V1, u4.w.heap.size < v.w.heap.size := after_size (by rw [hV1]; first | (simp; done) | omega | (simp; omega))
  rw [← hV1]
  obtain ⟨u5, hu⟩ : ∃ u : After V1, u.w = V1 := ⟨After.here V1, rfl⟩
  rw [← hu]
  clear hu hV1 hCV1
  refine (Cut_any _ ps ls b a true _ _ hp1 hl1 (HN.out u5)).mono ?_
  rintro e w9 h9
  obtain ⟨v9, rfl, hn9, hB9⟩ := h9
  obtain ⟨u6, rfl⟩ : ∃ y9 : After V1, w9 = y9.w := ⟨u5.on hB9, rfl⟩
  clear hB9
  rw [F5, F6] at hn9
  rw [F4]
  have hn9 : NetIs (fun g => g < u6.w.heap.size) _ _ (ps) (A) := hn9.here.mono fun g h => h.2
  obtain ⟨qb2, ab2, qd2, ad2, rfl⟩ := hn9.form' (n := nn) (m := kn + 1) hnn han
  have sn0u6 : W.heap.size < u6.w.heap.size := by have := zn u6; omega
  have ln0u6 : W.heap.size ≤ u6.w.heap.size := by have := zn u6; omega
  have sx0u6 : u4.w.heap.size < u6.w.heap.size := by have := zx u6; omega
  have lx0u6 : u4.w.heap.size ≤ u6.w.heap.size := by have := zx u6; omega
  go_wp2_with fail
  obtain ⟨V2, hV2⟩ : ∃ V2, V2 = (u6.w.alloc (.cells #[.slice qb2 (nn) qd2, .slice ab2 (kn + 1) ad2] 25)) := ⟨_, rfl⟩
  have hCV2 : Below u6.w.heap.size u6.w V2 := by rw [hV2]; exact (by repeat (first | exact Below.refl _ _ | assumption | refine b_then ?_ (by assumption) | refine b_alloc ?_ _ | refine b_drewN ?_ _ | refine b_drew ?_ | refine b_set ?_ (by omega) _ | refine b_set ?_ (by simp) _))
  have hBV2 : Below V1.heap.size V1 V2 := b_then u6.w_below hCV2
  have yV2n := zn u6
  have yV2x := zx u6
  replace n0 := upc hBV2 n0
  replace fn0 := upf hBV2 fn0
  replace n1 := upc hBV2 n1
  replace fn1 := upf hBV2 fn1
  replace x0 := upc hBV2 x0
  replace fx0 := upf hBV2 fx0
  replace x1 := upc hBV2 x1
  replace fx1 := upf hBV2 fx1
  replace zn := upz hBV2 zn
  replace zx := upz hBV2 zx
  replace HN := hid (upn hBV2 HN.out)
  replace HN1 := hid (upn hBV2 HN1.out)
  have WV2 := hid (upb hBV2 WV1.out)
  have HN2 : Hid (∀ v : After V2, NetIs (fun g => g < u6.w.heap.size) v.w (.agg #[.slice qb2 (nn) qd2, .slice ab2 (kn + 1) ad2]) (ps) (A)) := hid fun v => hn9.below (b_then hCV2 v.2)
  have y0 : ∀ v : After V2, v.w.cell? ⟨u6.w.heap.size, 0, none⟩ = some (.slice qb2 (nn) qd2) := after_cell (by rw [hV2]; first | (simp; done) | omega | (simp; omega)) (by rw [hV2]; (repeat (first | with_reducible assumption | exact bn (by first | (simp; done) | omega | (simp; omega)) rfl | refine bo (by first | (simp; done) | omega | (simp; omega)) ?_)))
  have fy0 : ∀ v : After V2, v.w.frozen? ⟨u6.w.heap.size, 0, none⟩ = false := after_frozen (by rw [hV2]; first | (simp; done) | omega | (simp; omega)) (by rw [hV2]; (repeat (first | exact fn (by first | (simp; done) | omega | (simp; omega)) | refine fo (by first | (simp; done) | omega | (simp; omega)) ?_)))
  have y1 : ∀ v : After V2, v.w.cell? ⟨u6.w.heap.size, 1, none⟩ = some (.slice ab2 (kn + 1) ad2) := after_cell (by rw [hV2]; first | (simp; done) | omega | (simp; omega)) (by rw [hV2]; (repeat (first | with_reducible assumption | exact bn (by first | (simp; done) | omega | (simp; omega)) rfl | refine bo (by first | (simp; done) | omega | (simp; omega)) ?_)))
  have fy1 : ∀ v : After V2, v.w.frozen? ⟨u6.w.heap.size, 1, none⟩ = false := after_frozen (by rw [hV2]; first | (simp; done) | omega | (simp; omega)) (by rw [hV2]; (repeat (first | exact fn (by first | (simp; done) | omega | (simp; omega)) | refine fo (by first | (simp; done) | omega | (simp; omega)) ?_)))
  have zy : ∀ v : After V2, u6.w.heap.size < v.w.heap.size := after_size (by rw [hV2]; first | (simp; done) | omega | (simp; omega))
  rw [← hV2]
  obtain ⟨u7, hu⟩ : ∃ u : After V2, u.w = V2 := ⟨After.here V2, rfl⟩
  rw [← hu]
  clear hu hV2 hCV2
  refine (Cut_any _ ps A a b true _ _ hp1 hA2 (HN1.out u7)).mono ?_
  rintro e w9 h9
  obtain ⟨v9, rfl, hn9, hB9⟩ := h9
  obtain ⟨u8, rfl⟩ : ∃ y9 : After V2, w9 = y9.w := ⟨u7.on hB9, rfl⟩
  clear hB9
  rw [F8, F9] at hn9
  rw [F7]
  have hn9 : NetIs (fun g => g < u8.w.heap.size) _ _ (ps) (A) := hn9.here.mono fun g h => h.2
  obtain ⟨qb3, ab3, qd3, ad3, rfl⟩ := hn9.form' (n := nn) (m := kn + 1) hnn han
  have sn0u8 : W.heap.size < u8.w.heap.size := by have := zn u8; omega
  have ln0u8 : W.heap.size ≤ u8.w.heap.size := by have := zn u8; omega
  have sx0u8 : u4.w.heap.size < u8.w.heap.size := by have := zx u8; omega
  have lx0u8 : u4.w.heap.size ≤ u8.w.heap.size := by have := zx u8; omega
  have sy0u8 : u6.w.heap.size < u8.w.heap.size := by have := zy u8; omega
  have ly0u8 : u6.w.heap.size ≤ u8.w.heap.size := by have := zy u8; omega
  go_wp2_with fail
  obtain ⟨V3, hV3⟩ : ∃ V3, V3 = (u8.w.alloc (.cells #[.slice qb3 (nn) qd3, .slice ab3 (kn + 1) ad3] 25)) := ⟨_, rfl⟩
  have hCV3 : Below u8.w.heap.size u8.w V3 := by rw [hV3]; exact (by repeat (first | exact Below.refl _ _ | assumption | refine b_then ?_ (by assumption) | refine b_alloc ?_ _ | refine b_drewN ?_ _ | refine b_drew ?_ | refine b_set ?_ (by omega) _ | refine b_set ?_ (by simp) _))
  have hBV3 : Below V2.heap.size V2 V3 := b_then u8.w_below hCV3
  have yV3n := zn u8
  have yV3x := zx u8
  have yV3y := zy u8
  replace n0 := upc hBV3 n0
  replace fn0 := upf hBV3 fn0
  replace n1 := upc hBV3 n1
  replace fn1 := upf hBV3 fn1
  replace x0 := upc hBV3 x0
  replace fx0 := upf hBV3 fx0
  replace x1 := upc hBV3 x1
  replace fx1 := upf hBV3 fx1
  replace y0 := upc hBV3 y0
  replace fy0 := upf hBV3 fy0
  replace y1 := upc hBV3 y1
  replace fy1 := upf hBV3 fy1
  replace zn := upz hBV3 zn
  replace zx := upz hBV3 zx
  replace zy := upz hBV3 zy
  replace HN := hid (upn hBV3 HN.out)
  replace HN1 := hid (upn hBV3 HN1.out)
  replace HN2 := hid (upn hBV3 HN2.out)
  have WV3 := hid (upb hBV3 WV2.out)
  have HN3 : Hid (∀ v : After V3, NetIs (fun g => g < u8.w.heap.size) v.w (.agg #[.slice qb3 (nn) qd3, .slice ab3 (kn + 1) ad3]) (ps) (A)) := hid fun v => hn9.below (b_then hCV3 v.2)
  have z0 : ∀ v : After V3, v.w.cell? ⟨u8.w.heap.size, 0, none⟩ = some (.slice qb3 (nn) qd3) := after_cell (by rw [hV3]; first | (simp; done) | omega | (simp; omega)) (by rw [hV3]; (repeat (first | with_reducible assumption | exact bn (by first | (simp; done) | omega | (simp; omega)) rfl | refine bo (by first | (simp; done) | omega | (simp; omega)) ?_)))
  have fz0 : ∀ v : After V3, v.w.frozen? ⟨u8.w.heap.size, 0, none⟩ = false := after_frozen (by rw [hV3]; first | (simp; done) | omega | (simp; omega)) (by rw [hV3]; (repeat (first | exact fn (by first | (simp; done) | omega | (simp; omega)) | refine fo (by first | (simp; done) | omega | (simp; omega)) ?_)))
  have z1 : ∀ v : After V3, v.w.cell? ⟨u8.w.heap.size, 1, none⟩ = some (.slice ab3 (kn + 1) ad3) := after_cell (by rw [hV3]; first | (simp; done) | omega | (simp; omega)) (by rw [hV3]; (repeat (first | with_reducible assumption | exact bn (by first | (simp; done) | omega | (simp; omega)) rfl | refine bo (by first | (simp; done) | omega | (simp; omega)) ?_)))
  have fz1 : ∀ v : After V3, v.w.frozen? ⟨u8.w.heap.size, 1, none⟩ = false := after_frozen (by rw [hV3]; first | (simp; done) | omega | (simp; omega)) (by rw [hV3]; (repeat (first | exact fn (by first | (simp; done) | omega | (simp; omega)) | refine fo (by first | (simp; done) | omega | (simp; omega)) ?_)))
  have zz : ∀ v : After V3, u8.w.heap.size < v.w.heap.size := after_size (by rw [hV3]; first | (simp; done) | omega | (simp; omega))
  rw [← hV3]
  obtain ⟨u9, hu⟩ : ∃ u : After V3, u.w = V3 := ⟨After.here V3, rfl⟩
  rw [← hu]
  clear hu hV3 hCV3
  refine (Cut_any _ ps A b a false _ _ hp1 hA2 (HN1.out u9)).mono ?_
  rintro e w9 h9
  obtain ⟨v9, rfl, hn9, hB9⟩ := h9
  obtain ⟨u10, rfl⟩ : ∃ y9 : After V3, w9 = y9.w := ⟨u9.on hB9, rfl⟩
  clear hB9
  rw [F11, F12] at hn9
  rw [F10]
  have hn9 : NetIs (fun g => g < u10.w.heap.size) _ _ (ps) (K) := hn9.here.mono fun g h => h.2
  obtain ⟨qb4, ab4, qd4, ad4, rfl⟩ := hn9.form' (n := nn) (m := kn) hnn hkn
  have sn0u10 : W.heap.size < u10.w.heap.size := by have := zn u10; omega
  have ln0u10 : W.heap.size ≤ u10.w.heap.size := by have := zn u10; omega
  have sx0u10 : u4.w.heap.size < u10.w.heap.size := by have := zx u10; omega
  have lx0u10 : u4.w.heap.size ≤ u10.w.heap.size := by have := zx u10; omega
  have sy0u10 : u6.w.heap.size < u10.w.heap.size := by have := zy u10; omega
  have ly0u10 : u6.w.heap.size ≤ u10.w.heap.size := by have := zy u10; omega
  have sz0u10 : u8.w.heap.size < u10.w.heap.size := by have := zz u10; omega
  have lz0u10 : u8.w.heap.size ≤ u10.w.heap.size := by have := zz u10; omega
  go_wp2_with fail
  obtain ⟨V4, hV4⟩ : ∃ V4, V4 = (u10.w.alloc (.cells #[.slice qb4 (nn) qd4, .slice ab4 (kn) ad4] 25)) := ⟨_, rfl⟩
  have hCV4 : Below u10.w.heap.size u10.w V4 := by rw [hV4]; exact (by repeat (first | exact Below.refl _ _ | assumption | refine b_then ?_ (by assumption) | refine b_alloc ?_ _ | refine b_drewN ?_ _ | refine b_drew ?_ | refine b_set ?_ (by omega) _ | refine b_set ?_ (by simp) _))
  have hBV4 : Below V3.heap.size V3 V4 := b_then u10.w_below hCV4
  have yV4n := zn u10
  have yV4x := zx u10
  have yV4y := zy u10
  have yV4z := zz u10
  replace n0 := upc hBV4 n0
  replace fn0 := upf hBV4 fn0
  replace n1 := upc hBV4 n1
  replace fn1 := upf hBV4 fn1
  replace x0 := upc hBV4 x0
  replace fx0 := upf hBV4 fx0
  replace x1 := upc hBV4 x1
  replace fx1 := upf hBV4 fx1
  replace y0 := upc hBV4 y0
  replace fy0 := upf hBV4 fy0
  replace y1 := upc hBV4 y1
  replace fy1 := upf hBV4 fy1
  replace z0 := upc hBV4 z0
  replace fz0 := upf hBV4 fz0
  replace z1 := upc hBV4 z1
  replace fz1 := upf hBV4 fz1
  replace zn := upz hBV4 zn
  replace zx := upz hBV4 zx
  replace zy := upz hBV4 zy
  replace zz := upz hBV4 zz
  replace HN := hid (upn hBV4 HN.out)
  replace HN1 := hid (upn hBV4 HN1.out)
  replace HN2 := hid (upn hBV4 HN2.out)
  replace HN3 := hid (upn hBV4 HN3.out)
  have WV4 := hid (upb hBV4 WV3.out)
  have HN4 : Hid (∀ v : After V4, NetIs (fun g => g < u10.w.heap.size) v.w (.agg #[.slice qb4 (nn) qd4, .slice ab4 (kn) ad4]) (ps) (K)) := hid fun v => hn9.below (b_then hCV4 v.2)
  have c0 : ∀ v : After V4, v.w.cell? ⟨u10.w.heap.size, 0, none⟩ = some (.slice qb4 (nn) qd4) := after_cell (by rw [hV4]; first | (simp; done) | omega | (simp; omega)) (by rw [hV4]; (repeat (first | with_reducible assumption | exact bn (by first | (simp; done) | omega | (simp; omega)) rfl | refine bo (by first | (simp; done) | omega | (simp; omega)) ?_)))
  have fc0 : ∀ v : After V4, v.w.frozen? ⟨u10.w.heap.size, 0, none⟩ = false := after_frozen (by rw [hV4]; first | (simp; done) | omega | (simp; omega)) (by rw [hV4]; (repeat (first | exact fn (by first | (simp; done) | omega | (simp; omega)) | refine fo (by first | (simp; done) | omega | (simp; omega)) ?_)))
  have c1 : ∀ v : After V4, v.w.cell? ⟨u10.w.heap.size, 1, none⟩ = some (.slice ab4 (kn) ad4) := after_cell (by rw [hV4]; first | (simp; done) | omega | (simp; omega)) (by rw [hV4]; (repeat (first | with_reducible assumption | exact bn (by first | (simp; done) | omega | (simp; omega)) rfl | refine bo (by first | (simp; done) | omega | (simp; omega)) ?_)))
  have fc1 : ∀ v : After V4, v.w.frozen? ⟨u10.w.heap.size, 1, none⟩ = false := after_frozen (by rw [hV4]; first | (simp; done) | omega | (simp; omega)) (by rw [hV4]; (repeat (first | exact fn (by first | (simp; done) | omega | (simp; omega)) | refine fo (by first | (simp; done) | omega | (simp; omega)) ?_)))
  have zc : ∀ v : After V4, u10.w.heap.size < v.w.heap.size := after_size (by rw [hV4]; first | (simp; done) | omega | (simp; omega))
  rw [← hV4]
  obtain ⟨u11, hu⟩ : ∃ u : After V4, u.w = V4 := ⟨After.here V4, rfl⟩
  rw [← hu]
  clear hu hV4 hCV4
  refine (Cut_any _ ps ls a b false _ _ hp1 hl1 (HN.out u11)).mono ?_
  rintro e w9 h9
  obtain ⟨v9, rfl, hn9, hB9⟩ := h9
  obtain ⟨u12, rfl⟩ : ∃ y9 : After V4, w9 = y9.w := ⟨u11.on hB9, rfl⟩
  clear hB9
  rw [F13, F14] at hn9
  rw [F1]
  have hn9 : NetIs (fun g => g < u12.w.heap.size) _ _ (ps) (K) := hn9.here.mono fun g h => h.2
  obtain ⟨qb5, ab5, qd5, ad5, rfl⟩ := hn9.form' (n := nn) (m := kn) hnn hkn
  have sn0u12 : W.heap.size < u12.w.heap.size := by have := zn u12; omega
  have ln0u12 : W.heap.size ≤ u12.w.heap.size := by have := zn u12; omega
  have sx0u12 : u4.w.heap.size < u12.w.heap.size := by have := zx u12; omega
  have lx0u12 : u4.w.heap.size ≤ u12.w.heap.size := by have := zx u12; omega
  have sy0u12 : u6.w.heap.size < u12.w.heap.size := by have := zy u12; omega
  have ly0u12 : u6.w.heap.size ≤ u12.w.heap.size := by have := zy u12; omega
  have sz0u12 : u8.w.heap.size < u12.w.heap.size := by have := zz u12; omega
  have lz0u12 : u8.w.heap.size ≤ u12.w.heap.size := by have := zz u12; omega
  have sc0u12 : u10.w.heap.size < u12.w.heap.size := by have := zc u12; omega
  have lc0u12 : u10.w.heap.size ≤ u12.w.heap.size := by have := zc u12; omega
  go_wp2_with fail
  obtain ⟨V5, hV5⟩ : ∃ V5, V5 = (u12.w.alloc (.cells #[.slice qb5 (nn) qd5, .slice ab5 (kn) ad5] 25)) := ⟨_, rfl⟩
  have hCV5 : Below u12.w.heap.size u12.w V5 := by rw [hV5]; exact (by repeat (first | exact Below.refl _ _ | assumption | refine b_then ?_ (by assumption) | refine b_alloc ?_ _ | refine b_drewN ?_ _ | refine b_drew ?_ | refine b_set ?_ (by omega) _ | refine b_set ?_ (by simp) _))
  have hBV5 : Below V4.heap.size V4 V5 := b_then u12.w_below hCV5
  have yV5n := zn u12
  have yV5x := zx u12
  have yV5y := zy u12
  have yV5z := zz u12
  have yV5c := zc u12
  replace n0 := upc hBV5 n0
  replace fn0 := upf hBV5 fn0
  replace n1 := upc hBV5 n1
  replace fn1 := upf hBV5 fn1
  replace x0 := upc hBV5 x0
  replace fx0 := upf hBV5 fx0
  replace x1 := upc hBV5 x1
  replace fx1 := upf hBV5 fx1
  replace y0 := upc hBV5 y0
  replace fy0 := upf hBV5 fy0
  replace y1 := upc hBV5 y1
  replace fy1 := upf hBV5 fy1
  replace z0 := upc hBV5 z0
  replace fz0 := upf hBV5 fz0
  replace z1 := upc hBV5 z1
  replace fz1 := upf hBV5 fz1
  replace c0 := upc hBV5 c0
  replace fc0 := upf hBV5 fc0
  replace c1 := upc hBV5 c1
  replace fc1 := upf hBV5 fc1
  replace zn := upz hBV5 zn
  replace zx := upz hBV5 zx
  replace zy := upz hBV5 zy
  replace zz := upz hBV5 zz
  replace zc := upz hBV5 zc
  replace HN := hid (upn hBV5 HN.out)
  replace HN1 := hid (upn hBV5 HN1.out)
  replace HN2 := hid (upn hBV5 HN2.out)
  replace HN3 := hid (upn hBV5 HN3.out)
  replace HN4 := hid (upn hBV5 HN4.out)
  have WV5 := hid (upb hBV5 WV4.out)
  have HN5 : Hid (∀ v : After V5, NetIs (fun g => g < u12.w.heap.size) v.w (.agg #[.slice qb5 (nn) qd5, .slice ab5 (kn) ad5]) (ps) (K)) := hid fun v => hn9.below (b_then hCV5 v.2)
  have k0 : ∀ v : After V5, v.w.cell? ⟨u12.w.heap.size, 0, none⟩ = some (.slice qb5 (nn) qd5) := after_cell (by rw [hV5]; first | (simp; done) | omega | (simp; omega)) (by rw [hV5]; (repeat (first | with_reducible assumption | exact bn (by first | (simp; done) | omega | (simp; omega)) rfl | refine bo (by first | (simp; done) | omega | (simp; omega)) ?_)))
  have fk0 : ∀ v : After V5, v.w.frozen? ⟨u12.w.heap.size, 0, none⟩ = false := after_frozen (by rw [hV5]; first | (simp; done) | omega | (simp; omega)) (by rw [hV5]; (repeat (first | exact fn (by first | (simp; done) | omega | (simp; omega)) | refine fo (by first | (simp; done) | omega | (simp; omega)) ?_)))
  have k1 : ∀ v : After V5, v.w.cell? ⟨u12.w.heap.size, 1, none⟩ = some (.slice ab5 (kn) ad5) := after_cell (by rw [hV5]; first | (simp; done) | omega | (simp; omega)) (by rw [hV5]; (repeat (first | with_reducible assumption | exact bn (by first | (simp; done) | omega | (simp; omega)) rfl | refine bo (by first | (simp; done) | omega | (simp; omega)) ?_)))
  have fk1 : ∀ v : After V5, v.w.frozen? ⟨u12.w.heap.size, 1, none⟩ = false := after_frozen (by rw [hV5]; first | (simp; done) | omega | (simp; omega)) (by rw [hV5]; (repeat (first | exact fn (by first | (simp; done) | omega | (simp; omega)) | refine fo (by first | (simp; done) | omega | (simp; omega)) ?_)))
  have zk : ∀ v : After V5, u12.w.heap.size < v.w.heap.size := after_size (by rw [hV5]; first | (simp; done) | omega | (simp; omega))
  rw [← hV5]
  obtain ⟨u13, hu⟩ : ∃ u : After V5, u.w = V5 := ⟨After.here V5, rfl⟩
  rw [← hu]
  clear hu hV5 hCV5
  refine (met (same_any d ps ps A A _ _ _ _ _ hp1 (by omega) (HN1.out u13) (HN2.out u13) (fun q hq => (HE.out q (.inl (hq.elim id id))).below (WV5.out u13)))).mono ?_
  rintro e _ ⟨rfl, u14, rfl⟩
  rw [decide_eq_true ⟨rfl, rfl⟩]
  go_wp2_with fail
  refine (met (same_any d ps ps A A _ _ _ _ _ hp1 (by omega) (HN1.out u14) (HN3.out u14) (fun q hq => (HE.out q (.inl (hq.elim id id))).below (WV5.out u14)))).mono ?_
  rintro e _ ⟨rfl, u15, rfl⟩
  rw [decide_eq_true ⟨rfl, rfl⟩]
  go_wp2_with fail
  by_cases hz : nn = 0
  case pos =>
    subst hz
    refine (met (same_any d ps ps K K _ _ _ _ _ hp1 (by omega) (HN4.out u15) (HN5.out u15) (fun q hq => (HE.out q (.inl (hq.elim id id))).below (WV5.out u15)))).mono ?_
    rintro e _ ⟨rfl, u16, rfl⟩
    rw [decide_eq_true ⟨rfl, rfl⟩]
    go_wp2_with fail
    exact bodyPost_ret (v := .bool true) (by simp [results, Try.results5, go_sem]) rfl ⟨rfl, WV5.out _⟩
  have hz' : ((nn : Int) == 0) = false := beq_eq_false_iff_ne.2 (by omega)
  have hr0 : 0 ≤ at_ % (nn : Int) := Int.emod_nonneg _ (by omega)
  have hr1 : at_ % (nn : Int) < nn := Int.emod_lt_of_pos _ (by omega)
  refine (met (same_any d ps ps K K _ _ _ _ _ hp1 (by omega) (HN4.out u15) (HN5.out u15) (fun q hq => (HE.out q (.inl (hq.elim id id))).below (WV5.out u15)))).mono ?_
  rintro e _ ⟨rfl, u16, rfl⟩
  rw [decide_eq_true ⟨rfl, rfl⟩]
  go_wp2_with fail
  obtain ⟨j, hj⟩ := Int.eq_ofNat_of_zero_le hr0
  rw [hj]
  rw [hj] at hr0 hr1
  clear hj
  have hjl : j < ps.length := by omega
  obtain ⟨p, q, G1, G2, G3, G4, G5, G6, G7, G8, hpm, hqm, hbt⟩ := hdel j hjl
  clear hdel hz hz'
  refine (Deliver_any _ ps A j _ _ hp1 hA2 (HN1.out u16)).mono ?_
  rintro e w9 ⟨v9, rfl, hn9, hB9⟩
  obtain ⟨u17, rfl⟩ : ∃ y9 : After V5, w9 = y9.w := ⟨u16.on hB9, rfl⟩
  clear hB9
  rw [show leftL ps A j = A from G5] at hn9
  rw [G1, G3]
  obtain ⟨nb6, en6⟩ : ∃ n, (leftQ ps A j).length = n := ⟨_, rfl⟩
  have hn9 : NetIs (fun g => g < u17.w.heap.size) _ _ (leftQ ps A j) (A) := hn9.here.mono fun g h => h.2
  obtain ⟨qb6, ab6, qd6, ad6, rfl⟩ := hn9.form' (n := nb6) (m := kn + 1) en6 han
  rw [show p.v = .agg #[.int .i64 p.fr, .int .i64 p.to, .slice p.da p.dn p.dc] from rfl]
  clear sn0u4 ln0u4 sn0u6 ln0u6 sx0u6 lx0u6 sn0u8 ln0u8 sx0u8 lx0u8 sy0u8 ly0u8 sn0u10 ln0u10 sx0u10 lx0u10 sy0u10 ly0u10 sz0u10 lz0u10 sn0u12 ln0u12 sx0u12 lx0u12 sy0u12 ly0u12 sz0u12 lz0u12 sc0u12 lc0u12
  have sn0u17 : W.heap.size < u17.w.heap.size := by have := zn u17; omega
  have ln0u17 : W.heap.size ≤ u17.w.heap.size := by have := zn u17; omega
  have sx0u17 : u4.w.heap.size < u17.w.heap.size := by have := zx u17; omega
  have lx0u17 : u4.w.heap.size ≤ u17.w.heap.size := by have := zx u17; omega
  have sy0u17 : u6.w.heap.size < u17.w.heap.size := by have := zy u17; omega
  have ly0u17 : u6.w.heap.size ≤ u17.w.heap.size := by have := zy u17; omega
  have sz0u17 : u8.w.heap.size < u17.w.heap.size := by have := zz u17; omega
  have lz0u17 : u8.w.heap.size ≤ u17.w.heap.size := by have := zz u17; omega
  have sc0u17 : u10.w.heap.size < u17.w.heap.size := by have := zc u17; omega
  have lc0u17 : u10.w.heap.size ≤ u17.w.heap.size := by have := zc u17; omega
  have sk0u17 : u12.w.heap.size < u17.w.heap.size := by have := zk u17; omega
  have lk0u17 : u12.w.heap.size ≤ u17.w.heap.size := by have := zk u17; omega
  go_wp2_with fail
  obtain ⟨V6, hV6⟩ : ∃ V6, V6 = ((u17.w.alloc (.cells #[.int .i64 p.fr, .int .i64 p.to, .slice p.da p.dn p.dc] 28)).alloc (.cells #[.slice qb6 (nb6) qd6, .slice ab6 (kn + 1) ad6] 25)) := ⟨_, rfl⟩
  have hCV6 : Below u17.w.heap.size u17.w V6 := by rw [hV6]; exact (by repeat (first | exact Below.refl _ _ | assumption | refine b_then ?_ (by assumption) | refine b_alloc ?_ _ | refine b_drewN ?_ _ | refine b_drew ?_ | refine b_set ?_ (by omega) _ | refine b_set ?_ (by simp) _))
  have hBV6 : Below V5.heap.size V5 V6 := b_then u17.w_below hCV6
  have yV6n := zn u17
  have yV6x := zx u17
  have yV6y := zy u17
  have yV6z := zz u17
  have yV6c := zc u17
  have yV6k := zk u17
  replace n0 := upc hBV6 n0
  replace fn0 := upf hBV6 fn0
  replace n1 := upc hBV6 n1
  replace fn1 := upf hBV6 fn1
  replace x0 := upc hBV6 x0
  replace fx0 := upf hBV6 fx0
  replace x1 := upc hBV6 x1
  replace fx1 := upf hBV6 fx1
  replace y0 := upc hBV6 y0
  replace fy0 := upf hBV6 fy0
  replace y1 := upc hBV6 y1
  replace fy1 := upf hBV6 fy1
  replace z0 := upc hBV6 z0
  replace fz0 := upf hBV6 fz0
  replace z1 := upc hBV6 z1
  replace fz1 := upf hBV6 fz1
  replace c0 := upc hBV6 c0
  replace fc0 := upf hBV6 fc0
  replace c1 := upc hBV6 c1
  replace fc1 := upf hBV6 fc1
  replace k0 := upc hBV6 k0
  replace fk0 := upf hBV6 fk0
  replace k1 := upc hBV6 k1
  replace fk1 := upf hBV6 fk1
  replace zn := upz hBV6 zn
  replace zx := upz hBV6 zx
  replace zy := upz hBV6 zy
  replace zz := upz hBV6 zz
  replace zc := upz hBV6 zc
  replace zk := upz hBV6 zk
  replace HN := hid (upn hBV6 HN.out)
  replace HN1 := hid (upn hBV6 HN1.out)
  replace HN2 := hid (upn hBV6 HN2.out)
  replace HN3 := hid (upn hBV6 HN3.out)
  replace HN4 := hid (upn hBV6 HN4.out)
  replace HN5 := hid (upn hBV6 HN5.out)
  have WV6 := hid (upb hBV6 WV5.out)
  have p0 : ∀ v : After V6, v.w.cell? ⟨u17.w.heap.size, 0, none⟩ = some (.int .i64 p.fr) := after_cell (by rw [hV6]; first | (simp; done) | omega | (simp; omega)) (by rw [hV6]; (repeat (first | with_reducible assumption | exact bn (by first | (simp; done) | omega | (simp; omega)) rfl | refine bo (by first | (simp; done) | omega | (simp; omega)) ?_)))
  have fp0 : ∀ v : After V6, v.w.frozen? ⟨u17.w.heap.size, 0, none⟩ = false := after_frozen (by rw [hV6]; first | (simp; done) | omega | (simp; omega)) (by rw [hV6]; (repeat (first | exact fn (by first | (simp; done) | omega | (simp; omega)) | refine fo (by first | (simp; done) | omega | (simp; omega)) ?_)))
  have p1 : ∀ v : After V6, v.w.cell? ⟨u17.w.heap.size, 1, none⟩ = some (.int .i64 p.to) := after_cell (by rw [hV6]; first | (simp; done) | omega | (simp; omega)) (by rw [hV6]; (repeat (first | with_reducible assumption | exact bn (by first | (simp; done) | omega | (simp; omega)) rfl | refine bo (by first | (simp; done) | omega | (simp; omega)) ?_)))
  have fp1 : ∀ v : After V6, v.w.frozen? ⟨u17.w.heap.size, 1, none⟩ = false := after_frozen (by rw [hV6]; first | (simp; done) | omega | (simp; omega)) (by rw [hV6]; (repeat (first | exact fn (by first | (simp; done) | omega | (simp; omega)) | refine fo (by first | (simp; done) | omega | (simp; omega)) ?_)))
  have p2 : ∀ v : After V6, v.w.cell? ⟨u17.w.heap.size, 2, none⟩ = some (.slice p.da p.dn p.dc) := after_cell (by rw [hV6]; first | (simp; done) | omega | (simp; omega)) (by rw [hV6]; (repeat (first | with_reducible assumption | exact bn (by first | (simp; done) | omega | (simp; omega)) rfl | refine bo (by first | (simp; done) | omega | (simp; omega)) ?_)))
  have fp2 : ∀ v : After V6, v.w.frozen? ⟨u17.w.heap.size, 2, none⟩ = false := after_frozen (by rw [hV6]; first | (simp; done) | omega | (simp; omega)) (by rw [hV6]; (repeat (first | exact fn (by first | (simp; done) | omega | (simp; omega)) | refine fo (by first | (simp; done) | omega | (simp; omega)) ?_)))
  have zp : ∀ v : After V6, u17.w.heap.size < v.w.heap.size := after_size (by rw [hV6]; first | (simp; done) | omega | (simp; omega))
  have r0 : ∀ v : After V6, v.w.cell? ⟨u17.w.heap.size + 1, 0, none⟩ = some (.slice qb6 (nb6) qd6) := after_cell (by rw [hV6]; first | (simp; done) | omega | (simp; omega)) (by rw [hV6]; (repeat (first | with_reducible assumption | exact bn (by first | (simp; done) | omega | (simp; omega)) rfl | refine bo (by first | (simp; done) | omega | (simp; omega)) ?_)))
  have fr0 : ∀ v : After V6, v.w.frozen? ⟨u17.w.heap.size + 1, 0, none⟩ = false := after_frozen (by rw [hV6]; first | (simp; done) | omega | (simp; omega)) (by rw [hV6]; (repeat (first | exact fn (by first | (simp; done) | omega | (simp; omega)) | refine fo (by first | (simp; done) | omega | (simp; omega)) ?_)))
  have r1 : ∀ v : After V6, v.w.cell? ⟨u17.w.heap.size + 1, 1, none⟩ = some (.slice ab6 (kn + 1) ad6) := after_cell (by rw [hV6]; first | (simp; done) | omega | (simp; omega)) (by rw [hV6]; (repeat (first | with_reducible assumption | exact bn (by first | (simp; done) | omega | (simp; omega)) rfl | refine bo (by first | (simp; done) | omega | (simp; omega)) ?_)))
  have fr1 : ∀ v : After V6, v.w.frozen? ⟨u17.w.heap.size + 1, 1, none⟩ = false := after_frozen (by rw [hV6]; first | (simp; done) | omega | (simp; omega)) (by rw [hV6]; (repeat (first | exact fn (by first | (simp; done) | omega | (simp; omega)) | refine fo (by first | (simp; done) | omega | (simp; omega)) ?_)))
  have zr : ∀ v : After V6, u17.w.heap.size + 1 < v.w.heap.size := after_size (by rw [hV6]; first | (simp; done) | omega | (simp; omega))
  rw [← hV6]
  obtain ⟨u18, hu⟩ : ∃ u : After V6, u.w = V6 := ⟨After.here V6, rfl⟩
  rw [← hu]
  clear hu hV6 hCV6
  refine (Deliver_any _ ps K j _ _ hp1 hK2 (HN5.out u18)).mono ?_
  rintro e w9 ⟨v9, rfl, hn9, hB9⟩
  obtain ⟨u19, rfl⟩ : ∃ y9 : After V6, w9 = y9.w := ⟨u18.on hB9, rfl⟩
  clear hB9
  rw [show leftL ps K j = K from G6] at hn9
  rw [G2, G4]
  obtain ⟨nb7, en7⟩ : ∃ n, (leftQ ps K j).length = n := ⟨_, rfl⟩
  have hn9 : NetIs (fun g => g < u19.w.heap.size) _ _ (leftQ ps K j) (K) := hn9.here.mono fun g h => h.2
  obtain ⟨qb7, ab7, qd7, ad7, rfl⟩ := hn9.form' (n := nb7) (m := kn) en7 hkn
  rw [show q.v = .agg #[.int .i64 q.fr, .int .i64 q.to, .slice q.da q.dn q.dc] from rfl]
  have sn0u19 : W.heap.size < u19.w.heap.size := by have := zn u19; omega
  have ln0u19 : W.heap.size ≤ u19.w.heap.size := by have := zn u19; omega
  have sx0u19 : u4.w.heap.size < u19.w.heap.size := by have := zx u19; omega
  have lx0u19 : u4.w.heap.size ≤ u19.w.heap.size := by have := zx u19; omega
  have sy0u19 : u6.w.heap.size < u19.w.heap.size := by have := zy u19; omega
  have ly0u19 : u6.w.heap.size ≤ u19.w.heap.size := by have := zy u19; omega
  have sz0u19 : u8.w.heap.size < u19.w.heap.size := by have := zz u19; omega
  have lz0u19 : u8.w.heap.size ≤ u19.w.heap.size := by have := zz u19; omega
  have sc0u19 : u10.w.heap.size < u19.w.heap.size := by have := zc u19; omega
  have lc0u19 : u10.w.heap.size ≤ u19.w.heap.size := by have := zc u19; omega
  have sk0u19 : u12.w.heap.size < u19.w.heap.size := by have := zk u19; omega
  have lk0u19 : u12.w.heap.size ≤ u19.w.heap.size := by have := zk u19; omega
  have sp0u19 : u17.w.heap.size < u19.w.heap.size := by have := zp u19; omega
  have lp0u19 : u17.w.heap.size ≤ u19.w.heap.size := by have := zp u19; omega
  have sr0u19 : u17.w.heap.size + 1 < u19.w.heap.size := by have := zr u19; omega
  have lr0u19 : u17.w.heap.size + 1 ≤ u19.w.heap.size := by have := zr u19; omega
  have HP := hid (fun v : After V6 => (HE.out p hpm).below (WV6.out v))
  have HQ := hid (fun v : After V6 => (HE.out q hqm).below (WV6.out v))
  have HZ := hid (fun v : After V6 => (HE.out Pk.zero (.inr rfl)).below (WV6.out v))
  clear sn0u17 ln0u17 sx0u17 lx0u17 sy0u17 ly0u17 sz0u17 lz0u17 sc0u17 lc0u17 sk0u17 lk0u17 sn0u19 ln0u19 sx0u19 lx0u19 sy0u19 ly0u19 sz0u19 lz0u19 sc0u19 lc0u19 sk0u19 lk0u19 sp0u19 lp0u19 sr0u19 lr0u19
  clear G1 G2 G3 G4 G5 G6 G7 G8 F1 F2 F3 F4 F5 F6 F7 F8 F9 F10 F11 F12 F13 F14
  rcases hbt with ⟨hb1, hpz⟩ | ⟨hb2, hpq⟩
  · have HPZ := hid hpz
    clear hpz
    rcases btw_cases hne hb1 with ⟨e1, e2⟩ | ⟨e1, e3, e4⟩
    all_goals
      go_wp2_with fail
      obtain ⟨V7, hV7⟩ : ∃ V7, V7 = ((u19.w.alloc (.cells #[.int .i64 q.fr, .int .i64 q.to, .slice q.da q.dn q.dc] 28)).alloc (.cells #[.slice qb7 (nb7) qd7, .slice ab7 (kn) ad7] 25)) := ⟨_, rfl⟩
      have hCV7 : Below u19.w.heap.size u19.w V7 := by rw [hV7]; exact (by repeat (first | exact Below.refl _ _ | assumption | refine b_then ?_ (by assumption) | refine b_alloc ?_ _ | refine b_drewN ?_ _ | refine b_drew ?_ | refine b_set ?_ (by omega) _ | refine b_set ?_ (by simp) _))
      have hBV7 : Below V6.heap.size V6 V7 := b_then u19.w_below hCV7
      have yV7n := zn u19
      have yV7x := zx u19
      have yV7y := zy u19
      have yV7z := zz u19
      have yV7c := zc u19
      have yV7k := zk u19
      have yV7p := zp u19
      have yV7r := zr u19
      replace n0 := upc hBV7 n0
      replace fn0 := upf hBV7 fn0
      replace n1 := upc hBV7 n1
      replace fn1 := upf hBV7 fn1
      replace x0 := upc hBV7 x0
      replace fx0 := upf hBV7 fx0
      replace x1 := upc hBV7 x1
      replace fx1 := upf hBV7 fx1
      replace y0 := upc hBV7 y0
      replace fy0 := upf hBV7 fy0
      replace y1 := upc hBV7 y1
      replace fy1 := upf hBV7 fy1
      replace z0 := upc hBV7 z0
      replace fz0 := upf hBV7 fz0
      replace z1 := upc hBV7 z1
      replace fz1 := upf hBV7 fz1
      replace c0 := upc hBV7 c0
      replace fc0 := upf hBV7 fc0
      replace c1 := upc hBV7 c1
      replace fc1 := upf hBV7 fc1
      replace k0 := upc hBV7 k0
      replace fk0 := upf hBV7 fk0
      replace k1 := upc hBV7 k1
      replace fk1 := upf hBV7 fk1
      replace p0 := upc hBV7 p0
      replace fp0 := upf hBV7 fp0
      replace p1 := upc hBV7 p1
      replace fp1 := upf hBV7 fp1
      replace p2 := upc hBV7 p2
      replace fp2 := upf hBV7 fp2
      replace r0 := upc hBV7 r0
      replace fr0 := upf hBV7 fr0
      replace r1 := upc hBV7 r1
      replace fr1 := upf hBV7 fr1
      replace zn := upz hBV7 zn
      replace zx := upz hBV7 zx
      replace zy := upz hBV7 zy
      replace zz := upz hBV7 zz
      replace zc := upz hBV7 zc
      replace zk := upz hBV7 zk
      replace zp := upz hBV7 zp
      replace zr := upz hBV7 zr
      replace HN := hid (upn hBV7 HN.out)
      replace HN1 := hid (upn hBV7 HN1.out)
      replace HN2 := hid (upn hBV7 HN2.out)
      replace HN3 := hid (upn hBV7 HN3.out)
      replace HN4 := hid (upn hBV7 HN4.out)
      replace HN5 := hid (upn hBV7 HN5.out)
      have WV7 := hid (upb hBV7 WV6.out)
      have q0 : ∀ v : After V7, v.w.cell? ⟨u19.w.heap.size, 0, none⟩ = some (.int .i64 q.fr) := after_cell (by rw [hV7]; first | (simp; done) | omega | (simp; omega)) (by rw [hV7]; (repeat (first | with_reducible assumption | exact bn (by first | (simp; done) | omega | (simp; omega)) rfl | refine bo (by first | (simp; done) | omega | (simp; omega)) ?_)))
      have fq0 : ∀ v : After V7, v.w.frozen? ⟨u19.w.heap.size, 0, none⟩ = false := after_frozen (by rw [hV7]; first | (simp; done) | omega | (simp; omega)) (by rw [hV7]; (repeat (first | exact fn (by first | (simp; done) | omega | (simp; omega)) | refine fo (by first | (simp; done) | omega | (simp; omega)) ?_)))
      have q1 : ∀ v : After V7, v.w.cell? ⟨u19.w.heap.size, 1, none⟩ = some (.int .i64 q.to) := after_cell (by rw [hV7]; first | (simp; done) | omega | (simp; omega)) (by rw [hV7]; (repeat (first | with_reducible assumption | exact bn (by first | (simp; done) | omega | (simp; omega)) rfl | refine bo (by first | (simp; done) | omega | (simp; omega)) ?_)))
      have fq1 : ∀ v : After V7, v.w.frozen? ⟨u19.w.heap.size, 1, none⟩ = false := after_frozen (by rw [hV7]; first | (simp; done) | omega | (simp; omega)) (by rw [hV7]; (repeat (first | exact fn (by first | (simp; done) | omega | (simp; omega)) | refine fo (by first | (simp; done) | omega | (simp; omega)) ?_)))
      have q2 : ∀ v : After V7, v.w.cell? ⟨u19.w.heap.size, 2, none⟩ = some (.slice q.da q.dn q.dc) := after_cell (by rw [hV7]; first | (simp; done) | omega | (simp; omega)) (by rw [hV7]; (repeat (first | with_reducible assumption | exact bn (by first | (simp; done) | omega | (simp; omega)) rfl | refine bo (by first | (simp; done) | omega | (simp; omega)) ?_)))
      have fq2 : ∀ v : After V7, v.w.frozen? ⟨u19.w.heap.size, 2, none⟩ = false := after_frozen (by rw [hV7]; first | (simp; done) | omega | (simp; omega)) (by rw [hV7]; (repeat (first | exact fn (by first | (simp; done) | omega | (simp; omega)) | refine fo (by first | (simp; done) | omega | (simp; omega)) ?_)))
      have zq : ∀ v : After V7, u19.w.heap.size < v.w.heap.size := after_size (by rw [hV7]; first | (simp; done) | omega | (simp; omega))
      have s0 : ∀ v : After V7, v.w.cell? ⟨u19.w.heap.size + 1, 0, none⟩ = some (.slice qb7 (nb7) qd7) := after_cell (by rw [hV7]; first | (simp; done) | omega | (simp; omega)) (by rw [hV7]; (repeat (first | with_reducible assumption | exact bn (by first | (simp; done) | omega | (simp; omega)) rfl | refine bo (by first | (simp; done) | omega | (simp; omega)) ?_)))
      have fs0 : ∀ v : After V7, v.w.frozen? ⟨u19.w.heap.size + 1, 0, none⟩ = false := after_frozen (by rw [hV7]; first | (simp; done) | omega | (simp; omega)) (by rw [hV7]; (repeat (first | exact fn (by first | (simp; done) | omega | (simp; omega)) | refine fo (by first | (simp; done) | omega | (simp; omega)) ?_)))
      have s1 : ∀ v : After V7, v.w.cell? ⟨u19.w.heap.size + 1, 1, none⟩ = some (.slice ab7 (kn) ad7) := after_cell (by rw [hV7]; first | (simp; done) | omega | (simp; omega)) (by rw [hV7]; (repeat (first | with_reducible assumption | exact bn (by first | (simp; done) | omega | (simp; omega)) rfl | refine bo (by first | (simp; done) | omega | (simp; omega)) ?_)))
      have fs1 : ∀ v : After V7, v.w.frozen? ⟨u19.w.heap.size + 1, 1, none⟩ = false := after_frozen (by rw [hV7]; first | (simp; done) | omega | (simp; omega)) (by rw [hV7]; (repeat (first | exact fn (by first | (simp; done) | omega | (simp; omega)) | refine fo (by first | (simp; done) | omega | (simp; omega)) ?_)))
      have zs : ∀ v : After V7, u19.w.heap.size + 1 < v.w.heap.size := after_size (by rw [hV7]; first | (simp; done) | omega | (simp; omega))
      rw [← hV7]
      obtain ⟨u20, hu⟩ : ∃ u : After V7, u.w = V7 := ⟨After.here V7, rfl⟩
      rw [← hu]
      clear hu hV7 hCV7
      have g := met (samePacket_any d p Pk.zero u20.w (HP.out (u20.up hBV7)) (HZ.out (u20.up hBV7)))
      rw [show Pk.v p = .agg #[.int .i64 p.fr, .int .i64 p.to, .slice p.da p.dn p.dc] from rfl, show Pk.v Pk.zero = .agg #[.int .i64 0, .int .i64 0, .slice none 0 0] from rfl, decide_eq_true (by rw [HPZ.out])] at g
      refine g.mono ?_
      clear g
      rintro e _ ⟨rfl, u21, rfl⟩
      go_wp2_with fail
      exact bodyPost_ret (v := .bool true) (by simp [results, Try.results5, go_sem]) rfl ⟨rfl, WV7.out _⟩
  · have HPQ := hid hpq
    clear hpq
    rcases nbtw_cases hne hb2 with ⟨e1, e3⟩ | ⟨e1, e3, e4⟩ | ⟨e1, e2, e3⟩
    all_goals
      go_wp2_with fail
      obtain ⟨V7, hV7⟩ : ∃ V7, V7 = ((u19.w.alloc (.cells #[.int .i64 q.fr, .int .i64 q.to, .slice q.da q.dn q.dc] 28)).alloc (.cells #[.slice qb7 (nb7) qd7, .slice ab7 (kn) ad7] 25)) := ⟨_, rfl⟩
      have hCV7 : Below u19.w.heap.size u19.w V7 := by rw [hV7]; exact (by repeat (first | exact Below.refl _ _ | assumption | refine b_then ?_ (by assumption) | refine b_alloc ?_ _ | refine b_drewN ?_ _ | refine b_drew ?_ | refine b_set ?_ (by omega) _ | refine b_set ?_ (by simp) _))
      have hBV7 : Below V6.heap.size V6 V7 := b_then u19.w_below hCV7
      have yV7n := zn u19
      have yV7x := zx u19
      have yV7y := zy u19
      have yV7z := zz u19
      have yV7c := zc u19
      have yV7k := zk u19
      have yV7p := zp u19
      have yV7r := zr u19
      replace n0 := upc hBV7 n0
      replace fn0 := upf hBV7 fn0
      replace n1 := upc hBV7 n1
      replace fn1 := upf hBV7 fn1
      replace x0 := upc hBV7 x0
      replace fx0 := upf hBV7 fx0
      replace x1 := upc hBV7 x1
      replace fx1 := upf hBV7 fx1
      replace y0 := upc hBV7 y0
      replace fy0 := upf hBV7 fy0
      replace y1 := upc hBV7 y1
      replace fy1 := upf hBV7 fy1
      replace z0 := upc hBV7 z0
      replace fz0 := upf hBV7 fz0
      replace z1 := upc hBV7 z1
      replace fz1 := upf hBV7 fz1
      replace c0 := upc hBV7 c0
      replace fc0 := upf hBV7 fc0
      replace c1 := upc hBV7 c1
      replace fc1 := upf hBV7 fc1
      replace k0 := upc hBV7 k0
      replace fk0 := upf hBV7 fk0
      replace k1 := upc hBV7 k1
      replace fk1 := upf hBV7 fk1
      replace p0 := upc hBV7 p0
      replace fp0 := upf hBV7 fp0
      replace p1 := upc hBV7 p1
      replace fp1 := upf hBV7 fp1
      replace p2 := upc hBV7 p2
      replace fp2 := upf hBV7 fp2
      replace r0 := upc hBV7 r0
      replace fr0 := upf hBV7 fr0
      replace r1 := upc hBV7 r1
      replace fr1 := upf hBV7 fr1
      replace zn := upz hBV7 zn
      replace zx := upz hBV7 zx
      replace zy := upz hBV7 zy
      replace zz := upz hBV7 zz
      replace zc := upz hBV7 zc
      replace zk := upz hBV7 zk
      replace zp := upz hBV7 zp
      replace zr := upz hBV7 zr
      replace HN := hid (upn hBV7 HN.out)
      replace HN1 := hid (upn hBV7 HN1.out)
      replace HN2 := hid (upn hBV7 HN2.out)
      replace HN3 := hid (upn hBV7 HN3.out)
      replace HN4 := hid (upn hBV7 HN4.out)
      replace HN5 := hid (upn hBV7 HN5.out)
      have WV7 := hid (upb hBV7 WV6.out)
      have q0 : ∀ v : After V7, v.w.cell? ⟨u19.w.heap.size, 0, none⟩ = some (.int .i64 q.fr) := after_cell (by rw [hV7]; first | (simp; done) | omega | (simp; omega)) (by rw [hV7]; (repeat (first | with_reducible assumption | exact bn (by first | (simp; done) | omega | (simp; omega)) rfl | refine bo (by first | (simp; done) | omega | (simp; omega)) ?_)))
      have fq0 : ∀ v : After V7, v.w.frozen? ⟨u19.w.heap.size, 0, none⟩ = false := after_frozen (by rw [hV7]; first | (simp; done) | omega | (simp; omega)) (by rw [hV7]; (repeat (first | exact fn (by first | (simp; done) | omega | (simp; omega)) | refine fo (by first | (simp; done) | omega | (simp; omega)) ?_)))
      have q1 : ∀ v : After V7, v.w.cell? ⟨u19.w.heap.size, 1, none⟩ = some (.int .i64 q.to) := after_cell (by rw [hV7]; first | (simp; done) | omega | (simp; omega)) (by rw [hV7]; (repeat (first | with_reducible assumption | exact bn (by first | (simp; done) | omega | (simp; omega)) rfl | refine bo (by first | (simp; done) | omega | (simp; omega)) ?_)))
      have fq1 : ∀ v : After V7, v.w.frozen? ⟨u19.w.heap.size, 1, none⟩ = false := after_frozen (by rw [hV7]; first | (simp; done) | omega | (simp; omega)) (by rw [hV7]; (repeat (first | exact fn (by first | (simp; done) | omega | (simp; omega)) | refine fo (by first | (simp; done) | omega | (simp; omega)) ?_)))
      have q2 : ∀ v : After V7, v.w.cell? ⟨u19.w.heap.size, 2, none⟩ = some (.slice q.da q.dn q.dc) := after_cell (by rw [hV7]; first | (simp; done) | omega | (simp; omega)) (by rw [hV7]; (repeat (first | with_reducible assumption | exact bn (by first | (simp; done) | omega | (simp; omega)) rfl | refine bo (by first | (simp; done) | omega | (simp; omega)) ?_)))
      have fq2 : ∀ v : After V7, v.w.frozen? ⟨u19.w.heap.size, 2, none⟩ = false := after_frozen (by rw [hV7]; first | (simp; done) | omega | (simp; omega)) (by rw [hV7]; (repeat (first | exact fn (by first | (simp; done) | omega | (simp; omega)) | refine fo (by first | (simp; done) | omega | (simp; omega)) ?_)))
      have zq : ∀ v : After V7, u19.w.heap.size < v.w.heap.size := after_size (by rw [hV7]; first | (simp; done) | omega | (simp; omega))
      have s0 : ∀ v : After V7, v.w.cell? ⟨u19.w.heap.size + 1, 0, none⟩ = some (.slice qb7 (nb7) qd7) := after_cell (by rw [hV7]; first | (simp; done) | omega | (simp; omega)) (by rw [hV7]; (repeat (first | with_reducible assumption | exact bn (by first | (simp; done) | omega | (simp; omega)) rfl | refine bo (by first | (simp; done) | omega | (simp; omega)) ?_)))
      have fs0 : ∀ v : After V7, v.w.frozen? ⟨u19.w.heap.size + 1, 0, none⟩ = false := after_frozen (by rw [hV7]; first | (simp; done) | omega | (simp; omega)) (by rw [hV7]; (repeat (first | exact fn (by first | (simp; done) | omega | (simp; omega)) | refine fo (by first | (simp; done) | omega | (simp; omega)) ?_)))
      have s1 : ∀ v : After V7, v.w.cell? ⟨u19.w.heap.size + 1, 1, none⟩ = some (.slice ab7 (kn) ad7) := after_cell (by rw [hV7]; first | (simp; done) | omega | (simp; omega)) (by rw [hV7]; (repeat (first | with_reducible assumption | exact bn (by first | (simp; done) | omega | (simp; omega)) rfl | refine bo (by first | (simp; done) | omega | (simp; omega)) ?_)))
      have fs1 : ∀ v : After V7, v.w.frozen? ⟨u19.w.heap.size + 1, 1, none⟩ = false := after_frozen (by rw [hV7]; first | (simp; done) | omega | (simp; omega)) (by rw [hV7]; (repeat (first | exact fn (by first | (simp; done) | omega | (simp; omega)) | refine fo (by first | (simp; done) | omega | (simp; omega)) ?_)))
      have zs : ∀ v : After V7, u19.w.heap.size + 1 < v.w.heap.size := after_size (by rw [hV7]; first | (simp; done) | omega | (simp; omega))
      rw [← hV7]
      obtain ⟨u20, hu⟩ : ∃ u : After V7, u.w = V7 := ⟨After.here V7, rfl⟩
      rw [← hu]
      clear hu hV7 hCV7
      rcases hB : decide (core d p = core d Pk.zero) with _ | _
      all_goals
        have hB2 : decide (core d q = core d Pk.zero) = _ := HPQ.out ▸ hB
        have HB := hid hB
        have HB2 := hid hB2
        clear hB hB2
        have g := met (samePacket_any d p Pk.zero u20.w (HP.out (u20.up hBV7)) (HZ.out (u20.up hBV7)))
        rw [show Pk.v p = .agg #[.int .i64 p.fr, .int .i64 p.to, .slice p.da p.dn p.dc] from rfl, show Pk.v Pk.zero = .agg #[.int .i64 0, .int .i64 0, .slice none 0 0] from rfl, HB.out] at g
        refine g.mono ?_
        clear g
        rintro e _ ⟨rfl, u21, rfl⟩
        go_wp2_with fail
        have g := met (samePacket_any d q Pk.zero u21.w (HQ.out (u21.up hBV7)) (HZ.out (u21.up hBV7)))
        rw [show Pk.v q = .agg #[.int .i64 q.fr, .int .i64 q.to, .slice q.da q.dn q.dc] from rfl, show Pk.v Pk.zero = .agg #[.int .i64 0, .int .i64 0, .slice none 0 0] from rfl, HB2.out] at g
        refine g.mono ?_
        clear g
        rintro e _ ⟨rfl, u22, rfl⟩
        go_wp2_with fail
        have g := met (samePacket_any d p q u22.w (HP.out (u22.up hBV7)) (HQ.out (u22.up hBV7)))
        rw [show Pk.v p = .agg #[.int .i64 p.fr, .int .i64 p.to, .slice p.da p.dn p.dc] from rfl, show Pk.v q = .agg #[.int .i64 q.fr, .int .i64 q.to, .slice q.da q.dn q.dc] from rfl, decide_eq_true (by rw [HPQ.out])] at g
        refine g.mono ?_
        clear g
        rintro e _ ⟨rfl, u23, rfl⟩
        go_wp2_with fail
        exact bodyPost_ret (v := .bool true) (by simp [results, Try.results5, go_sem]) rfl ⟨rfl, WV7.out _⟩
end Go.Proofs.Ytmikhkmdcpgkfaa
namespace Go.Proofs.Ytmikhkmdcpgkfaa.Cuts5
open Go.ChangeShapes Go.WideShapes Go.ChangeAt Go.RowKit Go.Joins

theorem own : ownKnob Try.prog.godebug = none := by kernel_rfl
theorem laidOut : laidOutB Try.prog = true := by kernel_rfl

set_option maxRecDepth 100000 in
theorem lifted (os : Os) (started : os.Started) (H : Type) (enc : TypeId × Value → H) :
    ReturnsInHanded {} Try.checked os 5 .any (Rows.networkCutsSpec.pre6 enc Try.prog Try.f5 Rows.networkCutsRow.domain false) (Rows.networkCutsSpec.post enc Try.prog Try.f5 false true false false) := by
  refine returnsInHanded_of_change (C := Try.checked) own started (by kernel_rfl) Try.func5
    (ChangeSpec.witness6 (enc := enc) (C := Try.checked) false ⟨#[], #[.agg #[.slice none 0 0, .slice none 0 0], .int .i64 0, .int .i64 0, .int .u64 0], []⟩ 8 (by kernel_rfl) (by kernel_rfl) (by kernel_rfl) (by kernel_rfl)) ?_
  intro W base args ds gs before hval0 hW hcnd _
  have hval : ∀ (j : Nat) t v, Try.f5.params[j]? = some t → args[j]? = some v → Value.okWide Try.prog W .any base t v := hval0
  have hW' := hW
  obtain ⟨p, q, hA0, hV, rfl, hfz, hnd⟩ := hW
  have hA : DataW.TrodAll enc Try.prog W 0 (fun _ => true) true Try.f5.params.toList args.toList ds p := hA0
  rw [Try.params5] at hA hval
  obtain ⟨v0, vs0, d0, ds0, p0, q0, hargs, rfl, rfl, h0, r0⟩ := trodAll_cons hA
  obtain ⟨v1, vs1, d1, ds1, p1, q1, rfl, rfl, rfl, h1, r1⟩ := trodAll_cons r0
  obtain ⟨v2, vs2, d2, ds2, p2, q2, rfl, rfl, rfl, h2, r2⟩ := trodAll_cons r1
  obtain ⟨v3, vs3, d3, ds3, p3, q3, rfl, rfl, rfl, h3, r3⟩ := trodAll_cons r2
  obtain ⟨rfl, rfl, rfl⟩ := trodAll_nil r3
  obtain rfl : args = #[v0, v1, v2, v3] := by cases args; simp_all
  obtain ⟨rfl, rfl⟩ := trodVars_none hV
  have k0 := h0
  have lt0 : ∀ x ∈ p0, x.block < W.heap.size := by obtain ⟨m, hm⟩ := k0; exact DataW.trod_lt m _ _ _ hm
  obtain ⟨ps0, ls0, hN0, hD0⟩ := open_netv (hval 0 25 v0 rfl rfl) h0
  obtain ⟨a1, rfl, rfl, rfl, w1⟩ := open_int Try.underlying3 (hval 1 3 v1 rfl rfl) h1
  obtain ⟨a2, rfl, rfl, rfl, w2⟩ := open_int Try.underlying3 (hval 2 3 v2 rfl rfl) h2
  obtain ⟨a3, rfl, rfl, rfl, w3⟩ := open_int Try.underlying42 (hval 3 42 v3 rfl rfl) h3
  clear hA0 hval0
  refine (cuts_walk (dOf W) ps0 ls0 v0 a1 a2 a3 (by have := bounds_u64 w3; omega) W hN0 (fun q hq => hq.elim (hD0 q) (fun e => e ▸ dOf_is ⟨[], rfl, .inl rfl⟩))).mono fun e W' ⟨he, bel⟩ => ?_
  subst he
  exact ⟨_, rfl, _, _, _, [], _, [], hW', trodAll_mk1 (shut_bool Try.underlying4 _), (trodAll_cons_mk (Below.trod laidOut (by kernel_rfl) (of_decide_eq_true (by kernel_rfl)) k0 bel lt0) (trodAll_cons_mk (shut_int Try.underlying3 w1) (trodAll_cons_mk (shut_int Try.underlying3 w2) (trodAll_cons_mk (shut_int Try.underlying42 w3) trodAll_mk0)))), rfl, bel.frame _, fun h => by cases h⟩

theorem over : Rows.networkCutsRow.holds Try.pinned (OpenSpec.ofChange Rows.networkCutsSpec) :=
  OpenClaim.holds_of_wide 5 Try.f5 rfl rfl rfl rfl rfl rfl rfl ⟨rfl, rfl, rfl, rfl, rfl⟩ rfl rfl rfl rfl rfl (by kernel_rfl) Try.func5 (by kernel_rfl)
    (of_decide_eq_true (by kernel_rfl)) (by unfold Func.isWrapper; first | (rw [if_pos (by decide +kernel)]; kernel_rfl) | (rw [if_neg (by decide +kernel)]; exact ⟨rfl, rfl⟩))
    (fun os started H enc _ => lifted os started H enc)
end Go.Proofs.Ytmikhkmdcpgkfaa.Cuts5
namespace Go.Proofs.Ytmikhkmdcpgkfaa
/-- The statement. -/
theorem networkCuts_holds : Rows.NetworkCutsSaid := Cuts5.over
end Go.Proofs.Ytmikhkmdcpgkfaa
