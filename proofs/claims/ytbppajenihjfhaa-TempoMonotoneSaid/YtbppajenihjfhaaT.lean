/- tempo.Insert. -/
import Derived.Test.YtbppajenihjfhaaP5
import Derived.IntWalk
namespace Go.Proofs.Ytbppajenihjfhaa
open Go.RowKit
open Go.Lib (hid)

def insE (m : List Tp) (t : Tp) : Int := chkT (insT m t)
def insV (m : List Tp) (t : Tp) : List Tp := if goodB (insT m t) = true then insT m t else []

set_option maxRecDepth 100000 in
set_option maxHeartbeats 4000000 in
theorem Insert_any (m : List Tp) (nn : Nat) (hnn : m.length = nn) (a : Option Addr) (c : Nat) (t : Tp) (hf : a = none → nn = 0 ∧ c = 0) (hb : nn * 32 ≤ 140737488351232) (w : World) (hr : Rd w a (m.flatMap Tp.c)) :
    Calls Try.prog 43 #[.slice a nn c, .agg #[.int .i64 t.k, .int .i64 t.n, .int .i64 t.d, .bool t.r]] w fun e w' => ∃ v, e = .returned (.tuple #[v, .int .i64 (insE m t)]) ∧ SlIs w' v (insV m t) ∧ Below w.heap.size w w' := by
  have HN := hid hnn; have HR := hid hr; have HF := hid hf
  clear hnn hr hf
  go_enter Try.func43, Try.ntmps43
  go_wp2_with fail
  obtain ⟨V, hV⟩ : ∃ V, V = (w.alloc (.cells #[.int .i64 t.k, .int .i64 t.n, .int .i64 t.d, .bool t.r] 53)) := ⟨_, rfl⟩
  have t0 : ∀ v : After V, v.w.cell? ⟨w.heap.size, 0, none⟩ = some (.int .i64 t.k) := after_cell (by rw [hV]; first | (simp; done) | omega | (simp; omega)) (by rw [hV]; (repeat (first | with_reducible assumption | exact bn (by first | (simp; done) | omega | (simp; omega)) rfl | refine bo (by first | (simp; done) | omega | (simp; omega)) ?_)))
  have ft0 : ∀ v : After V, v.w.frozen? ⟨w.heap.size, 0, none⟩ = false := after_frozen (by rw [hV]; first | (simp; done) | omega | (simp; omega)) (by rw [hV]; (repeat (first | exact fn (by first | (simp; done) | omega | (simp; omega)) | refine fo (by first | (simp; done) | omega | (simp; omega)) ?_)))
  have t1 : ∀ v : After V, v.w.cell? ⟨w.heap.size, 1, none⟩ = some (.int .i64 t.n) := after_cell (by rw [hV]; first | (simp; done) | omega | (simp; omega)) (by rw [hV]; (repeat (first | with_reducible assumption | exact bn (by first | (simp; done) | omega | (simp; omega)) rfl | refine bo (by first | (simp; done) | omega | (simp; omega)) ?_)))
  have ft1 : ∀ v : After V, v.w.frozen? ⟨w.heap.size, 1, none⟩ = false := after_frozen (by rw [hV]; first | (simp; done) | omega | (simp; omega)) (by rw [hV]; (repeat (first | exact fn (by first | (simp; done) | omega | (simp; omega)) | refine fo (by first | (simp; done) | omega | (simp; omega)) ?_)))
  have t2 : ∀ v : After V, v.w.cell? ⟨w.heap.size, 2, none⟩ = some (.int .i64 t.d) := after_cell (by rw [hV]; first | (simp; done) | omega | (simp; omega)) (by rw [hV]; (repeat (first | with_reducible assumption | exact bn (by first | (simp; done) | omega | (simp; omega)) rfl | refine bo (by first | (simp; done) | omega | (simp; omega)) ?_)))
  have ft2 : ∀ v : After V, v.w.frozen? ⟨w.heap.size, 2, none⟩ = false := after_frozen (by rw [hV]; first | (simp; done) | omega | (simp; omega)) (by rw [hV]; (repeat (first | exact fn (by first | (simp; done) | omega | (simp; omega)) | refine fo (by first | (simp; done) | omega | (simp; omega)) ?_)))
  have t3 : ∀ v : After V, v.w.cell? ⟨w.heap.size, 3, none⟩ = some (.bool t.r) := after_cell (by rw [hV]; first | (simp; done) | omega | (simp; omega)) (by rw [hV]; (repeat (first | with_reducible assumption | exact bn (by first | (simp; done) | omega | (simp; omega)) rfl | refine bo (by first | (simp; done) | omega | (simp; omega)) ?_)))
  have ft3 : ∀ v : After V, v.w.frozen? ⟨w.heap.size, 3, none⟩ = false := after_frozen (by rw [hV]; first | (simp; done) | omega | (simp; omega)) (by rw [hV]; (repeat (first | exact fn (by first | (simp; done) | omega | (simp; omega)) | refine fo (by first | (simp; done) | omega | (simp; omega)) ?_)))
  have zt : ∀ v : After V, w.heap.size < v.w.heap.size := after_size (by rw [hV]; first | (simp; done) | omega | (simp; omega))
  have hwV : Below w.heap.size w V := by rw [hV]; exact (by repeat (first | exact Below.refl _ _ | assumption | refine b_then ?_ (by assumption) | refine b_alloc ?_ _ | refine b_drewN ?_ _ | refine b_drew ?_ | refine b_set ?_ (by omega) _ | refine b_set ?_ (by simp) _))
  have WV := hid (after_below hwV)
  rw [← hV]
  obtain ⟨u0, hu⟩ : ∃ u : After V, u.w = V := ⟨After.here V, rfl⟩
  rw [← hu]
  clear hu hV
  have RV := hid (fun v : After V => HR.out.below (WV.out v))
  refine (indexFunc_any m nn HN.out a c 67 (.pointer (some ⟨w.heap.size, 0, none⟩)) (fun i => (tp m i).k == t.k) (by omega) u0.w (RV.out u0) (fun i hi v => ins1_any (tp m i) t w.heap.size v.w (t0 (u0.on v.2))) (enters_of Try.func67 (by kernel_rfl) rfl)).mono ?_
  rintro e w9 ⟨hF, hB9⟩
  obtain ⟨u1, rfl⟩ : ∃ y9 : After V, w9 = y9.w := ⟨u0.on hB9, rfl⟩
  clear hB9
  rcases hF with ⟨j, hj, rfl, h1, h2⟩ | ⟨rfl, h2⟩
  · have HX := hid (insT_same (m := m) (t := t) (by rw [HN.out]; exact hj) h1 h2)
    clear h1 h2
    go_wp2_with fail
    refine (clone_any m nn HN.out a c HF.out hb u1.w (RV.out u1)).mono ?_
    rintro e w8 ⟨⟨v8, rfl, ho8⟩, hB8⟩
    obtain ⟨u2, rfl⟩ : ∃ y9 : After V, w8 = y9.w := ⟨u1.on hB8, rfl⟩
    have hV1 : V.heap.size ≤ u1.w.heap.size := u1.2.size
    have hwV1 := hwV.size
    obtain ⟨va8, vc8, hva8, -, -, hrow0, -⟩ := own_slice ho8
    obtain ⟨hl8, h8⟩ := ho8
    rcases h8 with ⟨hv, hz⟩ | ⟨g, cap, cur, hv, hg, hh, hnc, hm8, hs8, ht8⟩
    · omega
    subst hv
    have hrd : Rd u2.w (some ⟨g, 0, none⟩) (m.flatMap Tp.c) := by cases hva8; exact hrow0
    have hlen : (m.flatMap Tp.c).length = nn * 4 := by rw [flat_len Tp.c 4 Tp.c4, HN.out]
    have hcell : ∀ o, o < 4 → ∃ u, u2.w.cell? ⟨g, j * 4 + o, none⟩ = some u := fun o ho => by
      obtain ⟨b', off', e', _, hc'⟩ := hrd.at_ (j := 0) (by omega)
      cases e'
      have := hc' (j * 4 + o) _ (List.getElem?_eq_getElem (by omega))
      rw [Nat.zero_add] at this
      exact ⟨_, this⟩
    obtain ⟨y0, hy0⟩ := hcell 0 (by omega)
    obtain ⟨y1, hy1⟩ := hcell 1 (by omega)
    obtain ⟨y2, hy2⟩ := hcell 2 (by omega)
    obtain ⟨y3, hy3⟩ := hcell 3 (by omega)
    rw [Nat.add_zero] at hy0
    have hfz : ∀ o, u2.w.frozen? ⟨g, o, none⟩ = false := fun o => by simp [World.frozen?, hh]
    have hz0 := hfz (j * 4)
    have hz1 := hfz (j * 4 + 1)
    have hz2 := hfz (j * 4 + 2)
    have hz3 := hfz (j * 4 + 3)
    have g0 := t0 u2
    have g1 := t1 u2
    have g2 := t2 u2
    have g3 := t3 u2
    have HRD := hid (rd_elem (t := t) (by rw [HN.out]; exact hj) hrd)
    have HNC := hid (show nn ≤ cap from hnc)
    have hgw : w.heap.size ≤ g := by omega
    have hii : (j : Int) < (nn : Int) := by omega
    clear hcell hfz hlen hrd hrow0 hva8 hl8 hh hs8 ht8 hm8 hg hnc
    go_wp2_with fail
    refine (tcheck_any (m.set j t) (nn) (by rw [List.length_set]; exact HN.out) (some ⟨g, 0, none⟩) cap _ (by omega) (HRD.out)).mono ?_
    rintro e w7 ⟨rfl, hB0⟩
    by_cases hg2 : goodB (m.set j t) = true
    · rw [chkT_ok hg2]
      have hg3 := hid hg2; clear hg2
      go_wp2_with fail
      have hg2 := hg3.out
      exact bodyPost_ret (v := .tuple #[.slice (some ⟨g, 0, none⟩) nn cap, .int .i64 0]) (by simp [results, Try.results43, go_sem]) rfl ⟨_, by rw [insE, HX.out, chkT_ok hg2], by rw [insV, HX.out, if_pos hg2]; exact (SlIs.below ⟨some ⟨g, 0, none⟩, cap, by rw [List.length_set, HN.out], HRD.out, fun h => by simp at h, by rw [List.length_set, HN.out]; exact HNC.out⟩ hB0), b_then (b_set (b_set (b_set (b_set (WV.out u2) hgw _) hgw _) hgw _) hgw _) hB0⟩
    · rw [chkT_90 hg2]
      have hg3 := hid hg2; clear hg2
      go_wp2_with fail
      have hg2 := hg3.out
      exact bodyPost_ret (v := .tuple #[.slice none 0 0, .int .i64 90]) (by simp [results, Try.results43, go_sem]) rfl ⟨_, by rw [insE, HX.out, chkT_90 hg2], by rw [insV, HX.out, if_neg hg2]; exact SlIs.nil _, b_then (b_set (b_set (b_set (b_set (WV.out u2) hgw _) hgw _) hgw _) hgw _) hB0⟩
  · have HNO := hid (fun x (hx : x < m.length) => h2 x (by rw [← HN.out]; exact hx))
    clear h2
    go_wp2_with fail
    refine (indexFunc_any m nn HN.out a c 69 (.pointer (some ⟨w.heap.size, 0, none⟩)) (fun i => decide (t.k < (tp m i).k)) (by omega) u1.w (RV.out u1) (fun i hi v => ins2_any (tp m i) t w.heap.size v.w (t0 (u1.on v.2))) (enters_of Try.func69 (by kernel_rfl) rfl)).mono ?_
    rintro e w9 ⟨hF, hB9⟩
    obtain ⟨u2, rfl⟩ : ∃ y9 : After V, w9 = y9.w := ⟨u1.on hB9, rfl⟩
    clear hB9
    rcases hF with ⟨j, hj, rfl, h1, h2⟩ | ⟨rfl, h2⟩
    · have HB := hid (show fstIx (fun i => decide (t.k < (tp m i).k)) m.length = j from fst_is (by rw [HN.out]; exact hj) h1 h2)
      have hbn : j ≤ nn := by omega
      clear h1 h2
      go_wp2_with fail
      refine whole_region 7 rfl (by kernel_rfl) ?_
      intro u0
      refine h_take 0 (x := ?_) rfl (by kernel_rfl) (by kernel_rfl) (by kernel_rfl) (fun _ _ _ h => h) (by rfl) (fun v => ?_) ?_
      rotate_left
      · (go_simp; try with_reducible rfl)
      try simp only [Act.put, List.setIfInBounds_toArray, List.set_cons_zero, List.set_cons_succ]
      refine h_take 2 (x := ?_) rfl (by kernel_rfl) (by kernel_rfl) (by kernel_rfl) (fun _ _ _ h => h) (by rfl) (fun v => ?_) ?_
      rotate_left
      · (go_simp; try with_reducible rfl)
      try simp only [Act.put, List.setIfInBounds_toArray, List.set_cons_zero, List.set_cons_succ]
      refine h_take 3 (x := ?_) rfl (by kernel_rfl) (by kernel_rfl) (by kernel_rfl) (fun _ _ _ h => h) (by rfl) (fun v => ?_) ?_
      rotate_left
      · (go_simp; try with_reducible rfl)
      try simp only [Act.put, List.setIfInBounds_toArray, List.set_cons_zero, List.set_cons_succ]
      refine h_two 1 4 (by kernel_rfl) rfl rfl (fun K hK => ?_) (fun K hK => ?_)
      · go_simp
        refine (clone_any m nn HN.out a c HF.out hb u0.w (RV.out u0)).mono ?_
        rintro e w7 ⟨⟨v7, rfl, ho7⟩, hB7⟩
        have hs7 := hB7.size
        have hbs : u0.w.heap.size ≤ w7.heap.size := hs7
        have hbv : V.heap.size ≤ u0.w.heap.size := u0.2.size
        obtain ⟨v1, rfl⟩ : ∃ v1 : After V, w7 = v1.w := ⟨u0.on hB7, rfl⟩
        clear hB7
        go_simp
        refine hK _ v1 ?_
        clear hK K
        try simp only [Act.put, List.setIfInBounds_toArray, List.set_cons_zero, List.set_cons_succ]
        refine h_step 4 (by kernel_rfl) rfl (fun K hK => ?_)
        go_simp
        obtain ⟨va, hva⟩ : ∃ y : After V, y.w = v1.w.alloc (.cells #[.int .i64 t.k, .int .i64 t.n, .int .i64 t.d, .bool t.r] 53) := ⟨v1.on (b_alloc (Below.refl _ _) _), rfl⟩
        rw [← hva]
        have hgb : va.w.heap[v1.w.heap.size]? = some (.cells t.c.toArray 53 (0, 0)) := by rw [hva]; exact World.alloc_heap_new _ _
        have hgl : v1.w.heap.size < va.w.heap.size := by rw [hva]; simp
        have hsa : va.w.heap.size = v1.w.heap.size + 1 := by rw [hva]; simp
        have hne : v7.ownBlock ≠ some v1.w.heap.size := fun h => by have := (ho7.lt _ h).2; omega
        have ho7 := own_after ho7 (w' := va.w) (by rw [hva]; exact b_alloc (Below.refl _ _) _)
        have hbs : u0.w.heap.size ≤ va.w.heap.size := by omega
        clear hva
        refine hK _ va ?_
        clear hK K
        try simp only [Act.put, List.setIfInBounds_toArray, List.set_cons_zero, List.set_cons_succ]
        refine h_step 5 (by kernel_rfl) rfl (fun K hK => ?_)
        go_simp
        refine (sins_any m t nn j v1.w.heap.size 1 (u0.w.heap.size) v7 HN.out hbn hb va.w hbs ho7 hgb hne).mono ?_
        rintro e w6 ⟨v6, rfl, ho6, hB6⟩
        obtain ⟨z6, rfl⟩ : ∃ z : After V, w6 = z.w := ⟨⟨w6, va.2.trans (hB6.mono hbv)⟩, rfl⟩
        clear hB6
        go_simp
        refine hK _ z6 ?_
        clear hK K
        try simp only [Act.put, List.setIfInBounds_toArray, List.set_cons_zero, List.set_cons_succ]
        refine h_take 6 (x := ?_) rfl (by kernel_rfl) (by kernel_rfl) (by kernel_rfl) (fun _ _ _ h => h) (by rfl) (fun v => ?_) ?_
        rotate_left
        · (go_simp; try with_reducible rfl)
        try simp only [Act.put, List.setIfInBounds_toArray, List.set_cons_zero, List.set_cons_succ]
        refine wpAnyH_done (by kernel_rfl) ?_ _
        refine NoPanic.normal ?_
        have HX := hid (insT_new (m := m) (t := t) HNO.out HB.out)
        obtain ⟨xa, xc, rfl, hxc, hxn, hxR, -⟩ := own_slice ho6
        have hsl := hid (show SlIs z6.w (.slice xa (nn + 1) xc) (m.take j ++ t :: m.drop j) from ⟨xa, xc, by rw [show (m.take j ++ t :: m.drop j).length = nn + 1 by simp [HN.out] <;> omega], hxR, fun h => by rw [show (m.take j ++ t :: m.drop j).length = nn + 1 by simp [HN.out] <;> omega]; exact hxn h, by rw [show (m.take j ++ t :: m.drop j).length = nn + 1 by simp [HN.out] <;> omega]; exact hxc⟩)
        have HXR := hid hxR
        clear hxR hxn hxc ho6 ho7 hgb hne
        go_wp2_with fail
        refine (tcheck_any (m.take j ++ t :: m.drop j) (nn + 1) (by simp [HN.out] <;> omega) xa xc _ (by omega) (HXR.out)).mono ?_
        rintro e w5 ⟨rfl, hB0⟩
        by_cases hg2 : goodB (m.take j ++ t :: m.drop j) = true
        · rw [chkT_ok hg2]
          have hg3 := hid hg2; clear hg2
          go_wp2_with fail
          have hg2 := hg3.out
          exact bodyPost_ret (v := .tuple #[.slice xa (nn + 1) xc, .int .i64 0]) (by simp [results, Try.results43, go_sem]) rfl ⟨_, by rw [insE, HX.out, chkT_ok hg2], by rw [insV, HX.out, if_pos hg2]; exact hsl.out.below hB0, b_then (WV.out z6) hB0⟩
        · rw [chkT_90 hg2]
          have hg3 := hid hg2; clear hg2
          go_wp2_with fail
          have hg2 := hg3.out
          exact bodyPost_ret (v := .tuple #[.slice none 0 0, .int .i64 90]) (by simp [results, Try.results43, go_sem]) rfl ⟨_, by rw [insE, HX.out, chkT_90 hg2], by rw [insV, HX.out, if_neg hg2]; exact SlIs.nil _, b_then (WV.out z6) hB0⟩
      · go_simp
        obtain ⟨va, hva⟩ : ∃ y : After V, y.w = u0.w.alloc (.cells #[.int .i64 t.k, .int .i64 t.n, .int .i64 t.d, .bool t.r] 53) := ⟨u0.on (b_alloc (Below.refl _ _) _), rfl⟩
        rw [← hva]
        have hgb : va.w.heap[u0.w.heap.size]? = some (.cells t.c.toArray 53 (0, 0)) := by rw [hva]; exact World.alloc_heap_new _ _
        have hgl : u0.w.heap.size < va.w.heap.size := by rw [hva]; simp
        have hsa : va.w.heap.size = u0.w.heap.size + 1 := by rw [hva]; simp
        clear hva
        refine hK _ va ?_
        clear hK K
        try simp only [Act.put, List.setIfInBounds_toArray, List.set_cons_zero, List.set_cons_succ]
        refine h_step 1 (by kernel_rfl) rfl (fun K hK => ?_)
        go_simp
        refine (clone_any m nn HN.out a c HF.out hb va.w (RV.out va)).mono ?_
        rintro e w7 ⟨⟨v7, rfl, ho7⟩, hB7⟩
        have hs7 := hB7.size
        have hgb := (hB7.block _ hgl).trans hgb
        have hgl := Nat.lt_of_lt_of_le hgl hs7
        have hne : v7.ownBlock ≠ some u0.w.heap.size := fun h => by have := (ho7.lt _ h).1; omega
        have hbs : va.w.heap.size ≤ w7.heap.size := hs7
        have hbv : V.heap.size ≤ va.w.heap.size := va.2.size
        obtain ⟨v1, rfl⟩ : ∃ v1 : After V, w7 = v1.w := ⟨va.on hB7, rfl⟩
        clear hB7
        go_simp
        refine hK _ v1 ?_
        clear hK K
        try simp only [Act.put, List.setIfInBounds_toArray, List.set_cons_zero, List.set_cons_succ]
        refine h_step 5 (by kernel_rfl) rfl (fun K hK => ?_)
        go_simp
        refine (sins_any m t nn j u0.w.heap.size 1 (va.w.heap.size) v7 HN.out hbn hb v1.w hbs ho7 hgb hne).mono ?_
        rintro e w6 ⟨v6, rfl, ho6, hB6⟩
        obtain ⟨z6, rfl⟩ : ∃ z : After V, w6 = z.w := ⟨⟨w6, v1.2.trans (hB6.mono hbv)⟩, rfl⟩
        clear hB6
        go_simp
        refine hK _ z6 ?_
        clear hK K
        try simp only [Act.put, List.setIfInBounds_toArray, List.set_cons_zero, List.set_cons_succ]
        refine h_take 6 (x := ?_) rfl (by kernel_rfl) (by kernel_rfl) (by kernel_rfl) (fun _ _ _ h => h) (by rfl) (fun v => ?_) ?_
        rotate_left
        · (go_simp; try with_reducible rfl)
        try simp only [Act.put, List.setIfInBounds_toArray, List.set_cons_zero, List.set_cons_succ]
        refine wpAnyH_done (by kernel_rfl) ?_ _
        refine NoPanic.normal ?_
        have HX := hid (insT_new (m := m) (t := t) HNO.out HB.out)
        obtain ⟨xa, xc, rfl, hxc, hxn, hxR, -⟩ := own_slice ho6
        have hsl := hid (show SlIs z6.w (.slice xa (nn + 1) xc) (m.take j ++ t :: m.drop j) from ⟨xa, xc, by rw [show (m.take j ++ t :: m.drop j).length = nn + 1 by simp [HN.out] <;> omega], hxR, fun h => by rw [show (m.take j ++ t :: m.drop j).length = nn + 1 by simp [HN.out] <;> omega]; exact hxn h, by rw [show (m.take j ++ t :: m.drop j).length = nn + 1 by simp [HN.out] <;> omega]; exact hxc⟩)
        have HXR := hid hxR
        clear hxR hxn hxc ho6 ho7 hgb hne
        go_wp2_with fail
        refine (tcheck_any (m.take j ++ t :: m.drop j) (nn + 1) (by simp [HN.out] <;> omega) xa xc _ (by omega) (HXR.out)).mono ?_
        rintro e w5 ⟨rfl, hB0⟩
        by_cases hg2 : goodB (m.take j ++ t :: m.drop j) = true
        · rw [chkT_ok hg2]
          have hg3 := hid hg2; clear hg2
          go_wp2_with fail
          have hg2 := hg3.out
          exact bodyPost_ret (v := .tuple #[.slice xa (nn + 1) xc, .int .i64 0]) (by simp [results, Try.results43, go_sem]) rfl ⟨_, by rw [insE, HX.out, chkT_ok hg2], by rw [insV, HX.out, if_pos hg2]; exact hsl.out.below hB0, b_then (WV.out z6) hB0⟩
        · rw [chkT_90 hg2]
          have hg3 := hid hg2; clear hg2
          go_wp2_with fail
          have hg2 := hg3.out
          exact bodyPost_ret (v := .tuple #[.slice none 0 0, .int .i64 90]) (by simp [results, Try.results43, go_sem]) rfl ⟨_, by rw [insE, HX.out, chkT_90 hg2], by rw [insV, HX.out, if_neg hg2]; exact SlIs.nil _, b_then (WV.out z6) hB0⟩
    · have HB := hid (show fstIx (fun i => decide (t.k < (tp m i).k)) m.length = nn by rw [fst_none (fun x hx => h2 x (by rw [← HN.out]; exact hx)), HN.out])
      have hbn : nn ≤ nn := Nat.le_refl _
      clear h2
      go_wp2_with fail
      refine whole_region 7 rfl (by kernel_rfl) ?_
      intro u0
      refine h_take 0 (x := ?_) rfl (by kernel_rfl) (by kernel_rfl) (by kernel_rfl) (fun _ _ _ h => h) (by rfl) (fun v => ?_) ?_
      rotate_left
      · (go_simp; try with_reducible rfl)
      try simp only [Act.put, List.setIfInBounds_toArray, List.set_cons_zero, List.set_cons_succ]
      refine h_take 2 (x := ?_) rfl (by kernel_rfl) (by kernel_rfl) (by kernel_rfl) (fun _ _ _ h => h) (by rfl) (fun v => ?_) ?_
      rotate_left
      · (go_simp; try with_reducible rfl)
      try simp only [Act.put, List.setIfInBounds_toArray, List.set_cons_zero, List.set_cons_succ]
      refine h_take 3 (x := ?_) rfl (by kernel_rfl) (by kernel_rfl) (by kernel_rfl) (fun _ _ _ h => h) (by rfl) (fun v => ?_) ?_
      rotate_left
      · (go_simp; try with_reducible rfl)
      try simp only [Act.put, List.setIfInBounds_toArray, List.set_cons_zero, List.set_cons_succ]
      refine h_two 1 4 (by kernel_rfl) rfl rfl (fun K hK => ?_) (fun K hK => ?_)
      · go_simp
        refine (clone_any m nn HN.out a c HF.out hb u0.w (RV.out u0)).mono ?_
        rintro e w7 ⟨⟨v7, rfl, ho7⟩, hB7⟩
        have hs7 := hB7.size
        have hbs : u0.w.heap.size ≤ w7.heap.size := hs7
        have hbv : V.heap.size ≤ u0.w.heap.size := u0.2.size
        obtain ⟨v1, rfl⟩ : ∃ v1 : After V, w7 = v1.w := ⟨u0.on hB7, rfl⟩
        clear hB7
        go_simp
        refine hK _ v1 ?_
        clear hK K
        try simp only [Act.put, List.setIfInBounds_toArray, List.set_cons_zero, List.set_cons_succ]
        refine h_step 4 (by kernel_rfl) rfl (fun K hK => ?_)
        go_simp
        obtain ⟨va, hva⟩ : ∃ y : After V, y.w = v1.w.alloc (.cells #[.int .i64 t.k, .int .i64 t.n, .int .i64 t.d, .bool t.r] 53) := ⟨v1.on (b_alloc (Below.refl _ _) _), rfl⟩
        rw [← hva]
        have hgb : va.w.heap[v1.w.heap.size]? = some (.cells t.c.toArray 53 (0, 0)) := by rw [hva]; exact World.alloc_heap_new _ _
        have hgl : v1.w.heap.size < va.w.heap.size := by rw [hva]; simp
        have hsa : va.w.heap.size = v1.w.heap.size + 1 := by rw [hva]; simp
        have hne : v7.ownBlock ≠ some v1.w.heap.size := fun h => by have := (ho7.lt _ h).2; omega
        have ho7 := own_after ho7 (w' := va.w) (by rw [hva]; exact b_alloc (Below.refl _ _) _)
        have hbs : u0.w.heap.size ≤ va.w.heap.size := by omega
        clear hva
        refine hK _ va ?_
        clear hK K
        try simp only [Act.put, List.setIfInBounds_toArray, List.set_cons_zero, List.set_cons_succ]
        refine h_step 5 (by kernel_rfl) rfl (fun K hK => ?_)
        go_simp
        refine (sins_any m t nn nn v1.w.heap.size 1 (u0.w.heap.size) v7 HN.out hbn hb va.w hbs ho7 hgb hne).mono ?_
        rintro e w6 ⟨v6, rfl, ho6, hB6⟩
        obtain ⟨z6, rfl⟩ : ∃ z : After V, w6 = z.w := ⟨⟨w6, va.2.trans (hB6.mono hbv)⟩, rfl⟩
        clear hB6
        go_simp
        refine hK _ z6 ?_
        clear hK K
        try simp only [Act.put, List.setIfInBounds_toArray, List.set_cons_zero, List.set_cons_succ]
        refine h_take 6 (x := ?_) rfl (by kernel_rfl) (by kernel_rfl) (by kernel_rfl) (fun _ _ _ h => h) (by rfl) (fun v => ?_) ?_
        rotate_left
        · (go_simp; try with_reducible rfl)
        try simp only [Act.put, List.setIfInBounds_toArray, List.set_cons_zero, List.set_cons_succ]
        refine wpAnyH_done (by kernel_rfl) ?_ _
        refine NoPanic.normal ?_
        have HX := hid (insT_new (m := m) (t := t) HNO.out HB.out)
        obtain ⟨xa, xc, rfl, hxc, hxn, hxR, -⟩ := own_slice ho6
        have hsl := hid (show SlIs z6.w (.slice xa (nn + 1) xc) (m.take nn ++ t :: m.drop nn) from ⟨xa, xc, by rw [show (m.take nn ++ t :: m.drop nn).length = nn + 1 by simp [HN.out] <;> omega], hxR, fun h => by rw [show (m.take nn ++ t :: m.drop nn).length = nn + 1 by simp [HN.out] <;> omega]; exact hxn h, by rw [show (m.take nn ++ t :: m.drop nn).length = nn + 1 by simp [HN.out] <;> omega]; exact hxc⟩)
        have HXR := hid hxR
        clear hxR hxn hxc ho6 ho7 hgb hne
        go_wp2_with fail
        refine (tcheck_any (m.take nn ++ t :: m.drop nn) (nn + 1) (by simp [HN.out] <;> omega) xa xc _ (by omega) (HXR.out)).mono ?_
        rintro e w5 ⟨rfl, hB0⟩
        by_cases hg2 : goodB (m.take nn ++ t :: m.drop nn) = true
        · rw [chkT_ok hg2]
          have hg3 := hid hg2; clear hg2
          go_wp2_with fail
          have hg2 := hg3.out
          exact bodyPost_ret (v := .tuple #[.slice xa (nn + 1) xc, .int .i64 0]) (by simp [results, Try.results43, go_sem]) rfl ⟨_, by rw [insE, HX.out, chkT_ok hg2], by rw [insV, HX.out, if_pos hg2]; exact hsl.out.below hB0, b_then (WV.out z6) hB0⟩
        · rw [chkT_90 hg2]
          have hg3 := hid hg2; clear hg2
          go_wp2_with fail
          have hg2 := hg3.out
          exact bodyPost_ret (v := .tuple #[.slice none 0 0, .int .i64 90]) (by simp [results, Try.results43, go_sem]) rfl ⟨_, by rw [insE, HX.out, chkT_90 hg2], by rw [insV, HX.out, if_neg hg2]; exact SlIs.nil _, b_then (WV.out z6) hB0⟩
      · go_simp
        obtain ⟨va, hva⟩ : ∃ y : After V, y.w = u0.w.alloc (.cells #[.int .i64 t.k, .int .i64 t.n, .int .i64 t.d, .bool t.r] 53) := ⟨u0.on (b_alloc (Below.refl _ _) _), rfl⟩
        rw [← hva]
        have hgb : va.w.heap[u0.w.heap.size]? = some (.cells t.c.toArray 53 (0, 0)) := by rw [hva]; exact World.alloc_heap_new _ _
        have hgl : u0.w.heap.size < va.w.heap.size := by rw [hva]; simp
        have hsa : va.w.heap.size = u0.w.heap.size + 1 := by rw [hva]; simp
        clear hva
        refine hK _ va ?_
        clear hK K
        try simp only [Act.put, List.setIfInBounds_toArray, List.set_cons_zero, List.set_cons_succ]
        refine h_step 1 (by kernel_rfl) rfl (fun K hK => ?_)
        go_simp
        refine (clone_any m nn HN.out a c HF.out hb va.w (RV.out va)).mono ?_
        rintro e w7 ⟨⟨v7, rfl, ho7⟩, hB7⟩
        have hs7 := hB7.size
        have hgb := (hB7.block _ hgl).trans hgb
        have hgl := Nat.lt_of_lt_of_le hgl hs7
        have hne : v7.ownBlock ≠ some u0.w.heap.size := fun h => by have := (ho7.lt _ h).1; omega
        have hbs : va.w.heap.size ≤ w7.heap.size := hs7
        have hbv : V.heap.size ≤ va.w.heap.size := va.2.size
        obtain ⟨v1, rfl⟩ : ∃ v1 : After V, w7 = v1.w := ⟨va.on hB7, rfl⟩
        clear hB7
        go_simp
        refine hK _ v1 ?_
        clear hK K
        try simp only [Act.put, List.setIfInBounds_toArray, List.set_cons_zero, List.set_cons_succ]
        refine h_step 5 (by kernel_rfl) rfl (fun K hK => ?_)
        go_simp
        refine (sins_any m t nn nn u0.w.heap.size 1 (va.w.heap.size) v7 HN.out hbn hb v1.w hbs ho7 hgb hne).mono ?_
        rintro e w6 ⟨v6, rfl, ho6, hB6⟩
        obtain ⟨z6, rfl⟩ : ∃ z : After V, w6 = z.w := ⟨⟨w6, v1.2.trans (hB6.mono hbv)⟩, rfl⟩
        clear hB6
        go_simp
        refine hK _ z6 ?_
        clear hK K
        try simp only [Act.put, List.setIfInBounds_toArray, List.set_cons_zero, List.set_cons_succ]
        refine h_take 6 (x := ?_) rfl (by kernel_rfl) (by kernel_rfl) (by kernel_rfl) (fun _ _ _ h => h) (by rfl) (fun v => ?_) ?_
        rotate_left
        · (go_simp; try with_reducible rfl)
        try simp only [Act.put, List.setIfInBounds_toArray, List.set_cons_zero, List.set_cons_succ]
        refine wpAnyH_done (by kernel_rfl) ?_ _
        refine NoPanic.normal ?_
        have HX := hid (insT_new (m := m) (t := t) HNO.out HB.out)
        obtain ⟨xa, xc, rfl, hxc, hxn, hxR, -⟩ := own_slice ho6
        have hsl := hid (show SlIs z6.w (.slice xa (nn + 1) xc) (m.take nn ++ t :: m.drop nn) from ⟨xa, xc, by rw [show (m.take nn ++ t :: m.drop nn).length = nn + 1 by simp [HN.out] <;> omega], hxR, fun h => by rw [show (m.take nn ++ t :: m.drop nn).length = nn + 1 by simp [HN.out] <;> omega]; exact hxn h, by rw [show (m.take nn ++ t :: m.drop nn).length = nn + 1 by simp [HN.out] <;> omega]; exact hxc⟩)
        have HXR := hid hxR
        clear hxR hxn hxc ho6 ho7 hgb hne
        go_wp2_with fail
        refine (tcheck_any (m.take nn ++ t :: m.drop nn) (nn + 1) (by simp [HN.out] <;> omega) xa xc _ (by omega) (HXR.out)).mono ?_
        rintro e w5 ⟨rfl, hB0⟩
        by_cases hg2 : goodB (m.take nn ++ t :: m.drop nn) = true
        · rw [chkT_ok hg2]
          have hg3 := hid hg2; clear hg2
          go_wp2_with fail
          have hg2 := hg3.out
          exact bodyPost_ret (v := .tuple #[.slice xa (nn + 1) xc, .int .i64 0]) (by simp [results, Try.results43, go_sem]) rfl ⟨_, by rw [insE, HX.out, chkT_ok hg2], by rw [insV, HX.out, if_pos hg2]; exact hsl.out.below hB0, b_then (WV.out z6) hB0⟩
        · rw [chkT_90 hg2]
          have hg3 := hid hg2; clear hg2
          go_wp2_with fail
          have hg2 := hg3.out
          exact bodyPost_ret (v := .tuple #[.slice none 0 0, .int .i64 90]) (by simp [results, Try.results43, go_sem]) rfl ⟨_, by rw [insE, HX.out, chkT_90 hg2], by rw [insV, HX.out, if_neg hg2]; exact SlIs.nil _, b_then (WV.out z6) hB0⟩
end Go.Proofs.Ytbppajenihjfhaa
