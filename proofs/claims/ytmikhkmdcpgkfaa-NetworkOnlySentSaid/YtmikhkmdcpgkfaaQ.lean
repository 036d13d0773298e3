/- The reference's Send. -/
import Derived.Test.YtmikhkmdcpgkfaaO
import Derived.Test.YtmikhkmdcpgkfaaP
namespace Go.Proofs.Ytmikhkmdcpgkfaa
open Go.RowKit
open Go.Lib (hid)

set_option maxHeartbeats 4000000 in
theorem rSend_any (ok : Nat → Prop) (ps : List Pk) (ls : List (Int × Int)) (p : Pk) (v : Value) (w : World) (hp : ps.length ≤ 1000) (hl : ls.length ≤ 1000) (hv : NetIs ok w v ps ls) :
    Calls Try.prog 12 #[v, p.v] w fun e w' => SendTo ok ps ls p w w' e := by
  obtain ⟨qa, aa, qc, ac, rfl, hq, ha, ⟨hqc, hqn⟩, hfa, hsq, hsa⟩ := hv
  have HSA := hid hsa; clear hsa hsq
  have HQ := hid hq; clear hq
  have HA := hid ha; clear ha
  have HF := hid hfa; clear hfa
  rw [show netV ps ls qa aa qc ac = .agg #[.slice qa ps.length qc, .slice aa ls.length ac] from rfl, show p.v = .agg #[.int .i64 p.fr, .int .i64 p.to, .slice p.da p.dn p.dc] from rfl]
  obtain ⟨i0, hi, hz0, hz1, hz2⟩ := info_parts info28
  go_enter Try.func12, Try.ntmps12
  go_wp2_with fail
  obtain ⟨V, hV⟩ : ∃ V, V = (((w.alloc (.cells #[.slice qa ps.length qc, .slice aa ls.length ac] 25)).alloc (.cells #[.int .i64 p.fr, .int .i64 p.to, .slice p.da p.dn p.dc] 28)).alloc (.cells #[.slice none 0 0, .slice none 0 0] 25)) := ⟨_, rfl⟩
  have c0 : ∀ v : After V, v.w.cell? ⟨w.heap.size, 0, none⟩ = some (.slice qa ps.length qc) := after_cell (by rw [hV]; first | (simp; done) | omega | (simp; omega)) (by rw [hV]; (repeat (first | with_reducible assumption | exact bn (by first | (simp; done) | omega | (simp; omega)) rfl | refine bo (by first | (simp; done) | omega | (simp; omega)) ?_)))
  have fc0 : ∀ v : After V, v.w.frozen? ⟨w.heap.size, 0, none⟩ = false := after_frozen (by rw [hV]; first | (simp; done) | omega | (simp; omega)) (by rw [hV]; (repeat (first | exact fn (by first | (simp; done) | omega | (simp; omega)) | refine fo (by first | (simp; done) | omega | (simp; omega)) ?_)))
  have c1 : ∀ v : After V, v.w.cell? ⟨w.heap.size, 1, none⟩ = some (.slice aa ls.length ac) := after_cell (by rw [hV]; first | (simp; done) | omega | (simp; omega)) (by rw [hV]; (repeat (first | with_reducible assumption | exact bn (by first | (simp; done) | omega | (simp; omega)) rfl | refine bo (by first | (simp; done) | omega | (simp; omega)) ?_)))
  have fc1 : ∀ v : After V, v.w.frozen? ⟨w.heap.size, 1, none⟩ = false := after_frozen (by rw [hV]; first | (simp; done) | omega | (simp; omega)) (by rw [hV]; (repeat (first | exact fn (by first | (simp; done) | omega | (simp; omega)) | refine fo (by first | (simp; done) | omega | (simp; omega)) ?_)))
  have zc : ∀ v : After V, w.heap.size < v.w.heap.size := after_size (by rw [hV]; first | (simp; done) | omega | (simp; omega))
  have p0 : ∀ v : After V, v.w.cell? ⟨w.heap.size + 1, 0, none⟩ = some (.int .i64 p.fr) := after_cell (by rw [hV]; first | (simp; done) | omega | (simp; omega)) (by rw [hV]; (repeat (first | with_reducible assumption | exact bn (by first | (simp; done) | omega | (simp; omega)) rfl | refine bo (by first | (simp; done) | omega | (simp; omega)) ?_)))
  have fp0 : ∀ v : After V, v.w.frozen? ⟨w.heap.size + 1, 0, none⟩ = false := after_frozen (by rw [hV]; first | (simp; done) | omega | (simp; omega)) (by rw [hV]; (repeat (first | exact fn (by first | (simp; done) | omega | (simp; omega)) | refine fo (by first | (simp; done) | omega | (simp; omega)) ?_)))
  have p1 : ∀ v : After V, v.w.cell? ⟨w.heap.size + 1, 1, none⟩ = some (.int .i64 p.to) := after_cell (by rw [hV]; first | (simp; done) | omega | (simp; omega)) (by rw [hV]; (repeat (first | with_reducible assumption | exact bn (by first | (simp; done) | omega | (simp; omega)) rfl | refine bo (by first | (simp; done) | omega | (simp; omega)) ?_)))
  have fp1 : ∀ v : After V, v.w.frozen? ⟨w.heap.size + 1, 1, none⟩ = false := after_frozen (by rw [hV]; first | (simp; done) | omega | (simp; omega)) (by rw [hV]; (repeat (first | exact fn (by first | (simp; done) | omega | (simp; omega)) | refine fo (by first | (simp; done) | omega | (simp; omega)) ?_)))
  have p2 : ∀ v : After V, v.w.cell? ⟨w.heap.size + 1, 2, none⟩ = some (.slice p.da p.dn p.dc) := after_cell (by rw [hV]; first | (simp; done) | omega | (simp; omega)) (by rw [hV]; (repeat (first | with_reducible assumption | exact bn (by first | (simp; done) | omega | (simp; omega)) rfl | refine bo (by first | (simp; done) | omega | (simp; omega)) ?_)))
  have fp2 : ∀ v : After V, v.w.frozen? ⟨w.heap.size + 1, 2, none⟩ = false := after_frozen (by rw [hV]; first | (simp; done) | omega | (simp; omega)) (by rw [hV]; (repeat (first | exact fn (by first | (simp; done) | omega | (simp; omega)) | refine fo (by first | (simp; done) | omega | (simp; omega)) ?_)))
  have zp : ∀ v : After V, w.heap.size + 1 < v.w.heap.size := after_size (by rw [hV]; first | (simp; done) | omega | (simp; omega))
  have e0 : ∀ v : After V, v.w.cell? ⟨w.heap.size + 1 + 1, 0, none⟩ = some (.slice none 0 0) := after_cell (by rw [hV]; first | (simp; done) | omega | (simp; omega)) (by rw [hV]; (repeat (first | with_reducible assumption | exact bn (by first | (simp; done) | omega | (simp; omega)) rfl | refine bo (by first | (simp; done) | omega | (simp; omega)) ?_)))
  have fe0 : ∀ v : After V, v.w.frozen? ⟨w.heap.size + 1 + 1, 0, none⟩ = false := after_frozen (by rw [hV]; first | (simp; done) | omega | (simp; omega)) (by rw [hV]; (repeat (first | exact fn (by first | (simp; done) | omega | (simp; omega)) | refine fo (by first | (simp; done) | omega | (simp; omega)) ?_)))
  have e1 : ∀ v : After V, v.w.cell? ⟨w.heap.size + 1 + 1, 1, none⟩ = some (.slice none 0 0) := after_cell (by rw [hV]; first | (simp; done) | omega | (simp; omega)) (by rw [hV]; (repeat (first | with_reducible assumption | exact bn (by first | (simp; done) | omega | (simp; omega)) rfl | refine bo (by first | (simp; done) | omega | (simp; omega)) ?_)))
  have fe1 : ∀ v : After V, v.w.frozen? ⟨w.heap.size + 1 + 1, 1, none⟩ = false := after_frozen (by rw [hV]; first | (simp; done) | omega | (simp; omega)) (by rw [hV]; (repeat (first | exact fn (by first | (simp; done) | omega | (simp; omega)) | refine fo (by first | (simp; done) | omega | (simp; omega)) ?_)))
  have ze : ∀ v : After V, w.heap.size + 1 + 1 < v.w.heap.size := after_size (by rw [hV]; first | (simp; done) | omega | (simp; omega))
  have hwV : Below w.heap.size w V := by rw [hV]; exact (by repeat (first | exact Below.refl _ _ | assumption | refine b_then ?_ (by assumption) | refine b_alloc ?_ _ | refine b_drewN ?_ _ | refine b_drew ?_ | refine b_set ?_ (by omega) _ | refine b_set ?_ (by simp) _))
  have WV := hid (after_below hwV)
  rw [← hV]
  obtain ⟨u0, hu⟩ : ∃ u : After V, u.w = V := ⟨After.here V, rfl⟩
  rw [← hu]
  clear hu hV
  refine (met (rCheck_any ps ls qa aa qc ac _ hp hl (HQ.out.below (WV.out u0)) (HA.out.below (WV.out u0)))).mono ?_
  rintro e _ ⟨rfl, u1, rfl⟩
  by_cases hc : chk ps ls = 0
  · rw [hc]
    have Hc := hid hc; clear hc
    go_wp2_with fail
    refine (met (rpacket_any p _)).mono ?_
    rintro e _ ⟨rfl, u2, rfl⟩
    rcases hpk : pkOk p with _ | _
    · have r0 := two0 (e0 u2)
      have r1 := two1 (e1 u2)
      have hW2 := WV.out u2
      go_wp2_with fail
      refine bodyPost_ret (v := .tuple #[.agg #[.slice none 0 0, .slice none 0 0], .int .i64 60]) (by simp [results, Try.results12, go_sem, r0, r1]) rfl ⟨_, ⟨_, rfl, ?_⟩, (by repeat (first | exact Below.refl _ _ | assumption | refine b_then ?_ (by assumption) | refine b_alloc ?_ _ | refine b_drewN ?_ _ | refine b_drew ?_ | refine b_set ?_ (by omega) _ | refine b_set ?_ (by simp) _))⟩
      rw [if_neg (by simp [hpk])]
      exact ⟨rfl, NetIs.zero _ _⟩
    · have h4096 : ((ps.length : Int) == 4096) = false := beq_eq_false_iff_ne.2 (by omega)
      go_upto_region 5 with fail
      refine region_split 7 (by kernel_rfl) (by kernel_rfl) rfl ?_
      intro u0
      simp only [List.take_succ_cons, List.take_zero]
      refine h_take 1 (x := ?_) rfl (by kernel_rfl) (by kernel_rfl) (by kernel_rfl) (fun _ _ _ h => h) (by rfl) (fun v => ?_) ?_
      rotate_left
      · (go_simp; try with_reducible rfl)
      try simp only [Act.put, List.setIfInBounds_toArray, List.set_cons_zero, List.set_cons_succ]
      refine h_take 2 (x := ?_) rfl (by kernel_rfl) (by kernel_rfl) (by kernel_rfl) (fun _ _ _ h => h) (by rfl) (fun v => ?_) ?_
      rotate_left
      · (go_simp; try with_reducible rfl)
      try simp only [Act.put, List.setIfInBounds_toArray, List.set_cons_zero, List.set_cons_succ]
      refine h_take 4 (x := ?_) rfl (by kernel_rfl) (by kernel_rfl) (by kernel_rfl) (fun _ _ _ h => h) (by rfl) (fun v => ?_) ?_
      rotate_left
      · (go_simp; try with_reducible rfl)
      try simp only [Act.put, List.setIfInBounds_toArray, List.set_cons_zero, List.set_cons_succ]
      refine h_two 0 5 (by kernel_rfl) rfl rfl (fun K hK => ?_) (fun K hK => ?_)
      · go_simp
        obtain ⟨v1, hv1⟩ : ∃ y9 : After V, y9.w = u0.w.alloc (.cells #[] 28) := ⟨u0.on (b_alloc (Below.refl _ _) _), rfl⟩
        rw [← hv1]
        have hown1 : v1.w.ownsRow u0.w.heap.size 28 3 (.slice (some ⟨u0.w.heap.size, 0, none⟩) 0 0) 0 [] := by rw [hv1]; exact World.ownsRow_made u0.w #[] 0 (Nat.le_refl _) (by unfold maxLen; omega) (by simp)
        have sz1 : u0.w.heap.size ≤ v1.w.heap.size := by rw [hv1]; simp
        clear hv1
        refine hK _ v1 ?_
        clear hK K
        try simp only [Act.put, List.setIfInBounds_toArray, List.set_cons_zero, List.set_cons_succ]
        refine h_two 3 5 (by kernel_rfl) rfl rfl (fun K hK => ?_) (fun K hK => ?_)
        · refine step_append_rd _ rfl (.tmp 20) (.tmp 22) 22 rfl u0.w.heap.size 28 i0 (.agg #[.int .i64 0, .int .i64 0, .slice none 0 0]) 3 40 und22 hi hz0 hz1 hz2 rfl (by decide) _ _ _ (by rfl) hown1 qa ps.length _ (ps.flatMap Pk.c) (by rfl) (flat_len Pk.c 3 Pk.c3 ps) (HQ.out.below (WV.out v1)) (Pk.ones _) (by unfold maxLen; omega) (by omega) sz1 ?_
          intro x2 w' hown2 hgrow
          obtain ⟨v2, rfl, sz2⟩ := After.app u0 v1 hown1 hgrow sz1
          clear hgrow
          refine hK _ v2 ?_
          clear hK K
          try simp only [Act.put, List.setIfInBounds_toArray, List.set_cons_zero, List.set_cons_succ]
          refine h_step 5 (by kernel_rfl) rfl (fun K hK => ?_)
          go_simp
          obtain ⟨v3, hv1⟩ : ∃ y9 : After V, y9.w = v2.w.alloc (.cells #[.int .i64 p.fr, .int .i64 p.to, .slice p.da p.dn p.dc] 28) := ⟨v2.on (b_alloc (Below.refl _ _) _), rfl⟩
          rw [← hv1]
          have hgx3 : Rd v3.w (some ⟨v2.w.heap.size, 0, none⟩) (p.c) := by rw [hv1]; exact rd_new _ _ _ rfl
          have hgl3 : v2.w.heap.size < v3.w.heap.size := by rw [hv1]; simp
          have sz3 : u0.w.heap.size ≤ v3.w.heap.size := by rw [hv1]; simpa using Nat.le_succ_of_le sz2
          have hown3 := own_eq (own_after hown2 (b_alloc (Below.refl _ _) _)) hv1
          have hne3 := own_far hown2 (v2.w.heap.size) (Nat.le_refl _)
          clear hv1
          refine hK _ v3 ?_
          clear hK K
          try simp only [Act.put, List.setIfInBounds_toArray, List.set_cons_zero, List.set_cons_succ]
          refine h_step 6 (by kernel_rfl) rfl (fun K hK => ?_)
          refine step_append_rd _ rfl (.tmp 23) (.tmp 25) 22 rfl u0.w.heap.size 28 i0 (.agg #[.int .i64 0, .int .i64 0, .slice none 0 0]) 3 40 und22 hi hz0 hz1 hz2 rfl (by decide) _ _ _ (by rfl) hown3 (some ⟨v2.w.heap.size, 0, none⟩) 1 _ p.c (by rfl) rfl hgx3 p.one (by unfold maxLen; omega) (by omega) sz3 ?_
          intro x4 w' hown4 hgrow
          obtain ⟨v4, rfl, sz4⟩ := After.app u0 v3 hown3 hgrow sz3
          clear hgrow
          obtain ⟨a2, k2, rfl, hk2, hnzk2, hRk2, hfark2⟩ := own_slice hown4
          refine hK _ v4 ?_
          clear hK K
          try simp only [Act.put, List.setIfInBounds_toArray, List.set_cons_zero, List.set_cons_succ]
          refine tail_go (by kernel_rfl) ?_
          refine tail_in ?_
          refine t_take 7 (x := ?_) rfl (by kernel_rfl) (by kernel_rfl) (by kernel_rfl) (fun _ _ _ h => h) (by rfl) (fun w => ?_) ?_
          rotate_left
          · (go_simp; try with_reducible rfl)
          try simp only [Act.put, List.setIfInBounds_toArray, List.set_cons_zero, List.set_cons_succ]
          refine t_step 8 (by kernel_rfl) rfl (fun K hK => ?_)
          go_simp
          refine hK _ _ ?_
          clear hK K
          try simp only [Act.put, List.setIfInBounds_toArray, List.set_cons_zero, List.set_cons_succ]
          refine wpAnyH_done (by kernel_rfl) ?_ _
          refine NoPanic.normal ?_
          have hfar3 : ∀ g off f, a2 = some ⟨g, off, f⟩ → V.heap.size ≤ g := fun g off f h => Nat.le_trans u0.2.size (hfark2 g off f h)
          have HR2 := hid hRk2; have Hfar2 := hid hfar3; have Hnz2 := hid hnzk2
          generalize hZ : World.setCell _ _ _ = Z
          have q0 : Z.cell? ⟨w.heap.size, 0, none⟩ = some (.slice a2 (0 + ps.length + 1) k2) := by rw [← hZ]; simpa using st_hit _ (c0 v4)
          have q1 : Z.cell? ⟨w.heap.size, 1, none⟩ = some (.slice aa ls.length ac) := by rw [← hZ]; exact st_off _ (.inl (by decide)) (c1 v4)
          have y0 : Z.cell? ⟨w.heap.size + 1 + 1, 0, none⟩ = some (.slice none 0 0) := by rw [← hZ]; exact st_off _ (.inr (by omega)) (e0 v4)
          have y1 : Z.cell? ⟨w.heap.size + 1 + 1, 1, none⟩ = some (.slice none 0 0) := by rw [← hZ]; exact st_off _ (.inr (by omega)) (e1 v4)
          have fy0 : Z.frozen? ⟨w.heap.size + 1 + 1, 0, none⟩ = false := by rw [← hZ]; exact sf _ (fe0 v4)
          have fy1 : Z.frozen? ⟨w.heap.size + 1 + 1, 1, none⟩ = false := by rw [← hZ]; exact sf _ (fe1 v4)
          have hWZ : Below w.heap.size w Z := by rw [← hZ]; exact b_set (WV.out v4) (Nat.le_refl _) _
          have hV2 : w.heap.size + 1 + 1 < V.heap.size := ze (After.here V)
          have HRZ : Hid (Rd Z a2 ((ps ++ [p]).flatMap Pk.c)) := by
            refine hid ?_
            rw [← hZ]
            refine Rd.set ?_ (fun g off h => by have := Hfar2.out g off _ h; omega) _
            rw [List.flatMap_append]
            simpa using HR2.out
          clear hZ hRk2 hfark2 hfar3 hnzk2
          have r0 := two0 y0
          have r1 := two1 y1
          go_wp2_with fail
          refine bodyPost_ret (v := .tuple #[.agg #[.slice a2 (0 + ps.length + 1) k2, .slice aa ls.length ac], .int .i64 0]) (by simp [results, Try.results12, go_sem, r0, r1]) rfl ⟨_, ⟨_, rfl, ?_⟩, (by repeat (first | exact Below.refl _ _ | assumption | refine b_then ?_ (by assumption) | refine b_alloc ?_ _ | refine b_drewN ?_ _ | refine b_drew ?_ | refine b_set ?_ (by omega) _ | refine b_set ?_ (by simp) _))⟩
          rw [if_pos ⟨Hc.out, hpk⟩]
          refine ⟨rfl, a2, aa, k2, ac, ?_, Rd.set (Rd.set HRZ.out (fun g off h => by have := Hfar2.out g off _ h; omega) _) (fun g off h => by have := Hfar2.out g off _ h; omega) _, HA.out.below (by repeat (first | exact Below.refl _ _ | assumption | refine b_then ?_ (by assumption) | refine b_alloc ?_ _ | refine b_drewN ?_ _ | refine b_drew ?_ | refine b_set ?_ (by omega) _ | refine b_set ?_ (by simp) _)), ⟨?_, fun h => ?_⟩, HF.out, .inr fun g off f h => .inr (by have := Hfar2.out g off f h; omega), HSA.out.mono fun b h => .inl h⟩
          · simp [netV]
          · simpa using hk2
          · have := Hnz2.out h; omega
        · go_simp
          obtain ⟨v2, hv1⟩ : ∃ y9 : After V, y9.w = v1.w.alloc (.cells #[.int .i64 p.fr, .int .i64 p.to, .slice p.da p.dn p.dc] 28) := ⟨v1.on (b_alloc (Below.refl _ _) _), rfl⟩
          rw [← hv1]
          have hgx2 : Rd v2.w (some ⟨v1.w.heap.size, 0, none⟩) (p.c) := by rw [hv1]; exact rd_new _ _ _ rfl
          have hgl2 : v1.w.heap.size < v2.w.heap.size := by rw [hv1]; simp
          have sz2 : u0.w.heap.size ≤ v2.w.heap.size := by rw [hv1]; simpa using Nat.le_succ_of_le sz1
          have hown2 := own_eq (own_after hown1 (b_alloc (Below.refl _ _) _)) hv1
          have hne2 := own_far hown1 (v1.w.heap.size) (Nat.le_refl _)
          clear hv1
          refine hK _ v2 ?_
          clear hK K
          try simp only [Act.put, List.setIfInBounds_toArray, List.set_cons_zero, List.set_cons_succ]
          refine h_step 3 (by kernel_rfl) rfl (fun K hK => ?_)
          refine step_append_rd _ rfl (.tmp 20) (.tmp 22) 22 rfl u0.w.heap.size 28 i0 (.agg #[.int .i64 0, .int .i64 0, .slice none 0 0]) 3 40 und22 hi hz0 hz1 hz2 rfl (by decide) _ _ _ (by rfl) hown2 qa ps.length _ (ps.flatMap Pk.c) (by rfl) (flat_len Pk.c 3 Pk.c3 ps) (HQ.out.below (WV.out v2)) (Pk.ones _) (by unfold maxLen; omega) (by omega) sz2 ?_
          intro x3 w' hown3 hgrow
          have hgx3 := rd_grown hgx2 hgrow hne2
          have hgl3 := Nat.lt_of_lt_of_le hgl2 hgrow.size
          obtain ⟨v3, rfl, sz3⟩ := After.app u0 v2 hown2 hgrow sz2
          clear hgrow
          refine hK _ v3 ?_
          clear hK K
          try simp only [Act.put, List.setIfInBounds_toArray, List.set_cons_zero, List.set_cons_succ]
          refine h_step 6 (by kernel_rfl) rfl (fun K hK => ?_)
          refine step_append_rd _ rfl (.tmp 23) (.tmp 25) 22 rfl u0.w.heap.size 28 i0 (.agg #[.int .i64 0, .int .i64 0, .slice none 0 0]) 3 40 und22 hi hz0 hz1 hz2 rfl (by decide) _ _ _ (by rfl) hown3 (some ⟨v1.w.heap.size, 0, none⟩) 1 _ p.c (by rfl) rfl hgx3 p.one (by unfold maxLen; omega) (by omega) sz3 ?_
          intro x4 w' hown4 hgrow
          obtain ⟨v4, rfl, sz4⟩ := After.app u0 v3 hown3 hgrow sz3
          clear hgrow
          obtain ⟨a2, k2, rfl, hk2, hnzk2, hRk2, hfark2⟩ := own_slice hown4
          refine hK _ v4 ?_
          clear hK K
          try simp only [Act.put, List.setIfInBounds_toArray, List.set_cons_zero, List.set_cons_succ]
          refine tail_go (by kernel_rfl) ?_
          refine tail_in ?_
          refine t_take 7 (x := ?_) rfl (by kernel_rfl) (by kernel_rfl) (by kernel_rfl) (fun _ _ _ h => h) (by rfl) (fun w => ?_) ?_
          rotate_left
          · (go_simp; try with_reducible rfl)
          try simp only [Act.put, List.setIfInBounds_toArray, List.set_cons_zero, List.set_cons_succ]
          refine t_step 8 (by kernel_rfl) rfl (fun K hK => ?_)
          go_simp
          refine hK _ _ ?_
          clear hK K
          try simp only [Act.put, List.setIfInBounds_toArray, List.set_cons_zero, List.set_cons_succ]
          refine wpAnyH_done (by kernel_rfl) ?_ _
          refine NoPanic.normal ?_
          have hfar3 : ∀ g off f, a2 = some ⟨g, off, f⟩ → V.heap.size ≤ g := fun g off f h => Nat.le_trans u0.2.size (hfark2 g off f h)
          have HR2 := hid hRk2; have Hfar2 := hid hfar3; have Hnz2 := hid hnzk2
          generalize hZ : World.setCell _ _ _ = Z
          have q0 : Z.cell? ⟨w.heap.size, 0, none⟩ = some (.slice a2 (0 + ps.length + 1) k2) := by rw [← hZ]; simpa using st_hit _ (c0 v4)
          have q1 : Z.cell? ⟨w.heap.size, 1, none⟩ = some (.slice aa ls.length ac) := by rw [← hZ]; exact st_off _ (.inl (by decide)) (c1 v4)
          have y0 : Z.cell? ⟨w.heap.size + 1 + 1, 0, none⟩ = some (.slice none 0 0) := by rw [← hZ]; exact st_off _ (.inr (by omega)) (e0 v4)
          have y1 : Z.cell? ⟨w.heap.size + 1 + 1, 1, none⟩ = some (.slice none 0 0) := by rw [← hZ]; exact st_off _ (.inr (by omega)) (e1 v4)
          have fy0 : Z.frozen? ⟨w.heap.size + 1 + 1, 0, none⟩ = false := by rw [← hZ]; exact sf _ (fe0 v4)
          have fy1 : Z.frozen? ⟨w.heap.size + 1 + 1, 1, none⟩ = false := by rw [← hZ]; exact sf _ (fe1 v4)
          have hWZ : Below w.heap.size w Z := by rw [← hZ]; exact b_set (WV.out v4) (Nat.le_refl _) _
          have hV2 : w.heap.size + 1 + 1 < V.heap.size := ze (After.here V)
          have HRZ : Hid (Rd Z a2 ((ps ++ [p]).flatMap Pk.c)) := by
            refine hid ?_
            rw [← hZ]
            refine Rd.set ?_ (fun g off h => by have := Hfar2.out g off _ h; omega) _
            rw [List.flatMap_append]
            simpa using HR2.out
          clear hZ hRk2 hfark2 hfar3 hnzk2
          have r0 := two0 y0
          have r1 := two1 y1
          go_wp2_with fail
          refine bodyPost_ret (v := .tuple #[.agg #[.slice a2 (0 + ps.length + 1) k2, .slice aa ls.length ac], .int .i64 0]) (by simp [results, Try.results12, go_sem, r0, r1]) rfl ⟨_, ⟨_, rfl, ?_⟩, (by repeat (first | exact Below.refl _ _ | assumption | refine b_then ?_ (by assumption) | refine b_alloc ?_ _ | refine b_drewN ?_ _ | refine b_drew ?_ | refine b_set ?_ (by omega) _ | refine b_set ?_ (by simp) _))⟩
          rw [if_pos ⟨Hc.out, hpk⟩]
          refine ⟨rfl, a2, aa, k2, ac, ?_, Rd.set (Rd.set HRZ.out (fun g off h => by have := Hfar2.out g off _ h; omega) _) (fun g off h => by have := Hfar2.out g off _ h; omega) _, HA.out.below (by repeat (first | exact Below.refl _ _ | assumption | refine b_then ?_ (by assumption) | refine b_alloc ?_ _ | refine b_drewN ?_ _ | refine b_drew ?_ | refine b_set ?_ (by omega) _ | refine b_set ?_ (by simp) _)), ⟨?_, fun h => ?_⟩, HF.out, .inr fun g off f h => .inr (by have := Hfar2.out g off f h; omega), HSA.out.mono fun b h => .inl h⟩
          · simp [netV]
          · simpa using hk2
          · have := Hnz2.out h; omega
      · go_simp
        obtain ⟨v1, hv1⟩ : ∃ y9 : After V, y9.w = u0.w.alloc (.cells #[.int .i64 p.fr, .int .i64 p.to, .slice p.da p.dn p.dc] 28) := ⟨u0.on (b_alloc (Below.refl _ _) _), rfl⟩
        rw [← hv1]
        have hgx1 : Rd v1.w (some ⟨u0.w.heap.size, 0, none⟩) (p.c) := by rw [hv1]; exact rd_new _ _ _ rfl
        have hgl1 : u0.w.heap.size < v1.w.heap.size := by rw [hv1]; simp
        have sz1 : u0.w.heap.size ≤ v1.w.heap.size := by rw [hv1]; simp
        clear hv1
        refine hK _ v1 ?_
        clear hK K
        try simp only [Act.put, List.setIfInBounds_toArray, List.set_cons_zero, List.set_cons_succ]
        refine h_step 0 (by kernel_rfl) rfl (fun K hK => ?_)
        go_simp
        obtain ⟨v2, hv1⟩ : ∃ y9 : After V, y9.w = v1.w.alloc (.cells #[] 28) := ⟨v1.on (b_alloc (Below.refl _ _) _), rfl⟩
        rw [← hv1]
        have hown2 : v2.w.ownsRow u0.w.heap.size 28 3 (.slice (some ⟨v1.w.heap.size, 0, none⟩) 0 0) 0 [] := by rw [hv1]; exact World.ownsRow_made v1.w #[] 0 sz1 (by unfold maxLen; omega) (by simp)
        have sz2 : u0.w.heap.size ≤ v2.w.heap.size := by rw [hv1]; simpa using Nat.le_succ_of_le sz1
        have hgx2 : Rd v2.w (some ⟨u0.w.heap.size, 0, none⟩) (p.c) := by rw [hv1]; exact hgx1.alloc _
        have hne2 : ∀ g off, (some ⟨u0.w.heap.size, 0, none⟩ : Option Addr) = some ⟨g, off, none⟩ → (Value.slice (some ⟨v1.w.heap.size, 0, none⟩) 0 0).ownBlock ≠ some g := fun g off h => by have := hgl1; simp only [Option.some.injEq, Addr.mk.injEq] at h; simp only [Value.ownBlock, ne_eq, Option.some.injEq]; omega
        have hgl2 : u0.w.heap.size < v2.w.heap.size := Nat.lt_of_lt_of_le hgl1 (by rw [hv1]; simp)
        clear hv1
        refine hK _ v2 ?_
        clear hK K
        try simp only [Act.put, List.setIfInBounds_toArray, List.set_cons_zero, List.set_cons_succ]
        refine h_step 3 (by kernel_rfl) rfl (fun K hK => ?_)
        refine step_append_rd _ rfl (.tmp 20) (.tmp 22) 22 rfl u0.w.heap.size 28 i0 (.agg #[.int .i64 0, .int .i64 0, .slice none 0 0]) 3 40 und22 hi hz0 hz1 hz2 rfl (by decide) _ _ _ (by rfl) hown2 qa ps.length _ (ps.flatMap Pk.c) (by rfl) (flat_len Pk.c 3 Pk.c3 ps) (HQ.out.below (WV.out v2)) (Pk.ones _) (by unfold maxLen; omega) (by omega) sz2 ?_
        intro x3 w' hown3 hgrow
        have hgx3 := rd_grown hgx2 hgrow hne2
        have hgl3 := Nat.lt_of_lt_of_le hgl2 hgrow.size
        obtain ⟨v3, rfl, sz3⟩ := After.app u0 v2 hown2 hgrow sz2
        clear hgrow
        refine hK _ v3 ?_
        clear hK K
        try simp only [Act.put, List.setIfInBounds_toArray, List.set_cons_zero, List.set_cons_succ]
        refine h_step 6 (by kernel_rfl) rfl (fun K hK => ?_)
        refine step_append_rd _ rfl (.tmp 23) (.tmp 25) 22 rfl u0.w.heap.size 28 i0 (.agg #[.int .i64 0, .int .i64 0, .slice none 0 0]) 3 40 und22 hi hz0 hz1 hz2 rfl (by decide) _ _ _ (by rfl) hown3 (some ⟨u0.w.heap.size, 0, none⟩) 1 _ p.c (by rfl) rfl hgx3 p.one (by unfold maxLen; omega) (by omega) sz3 ?_
        intro x4 w' hown4 hgrow
        obtain ⟨v4, rfl, sz4⟩ := After.app u0 v3 hown3 hgrow sz3
        clear hgrow
        obtain ⟨a2, k2, rfl, hk2, hnzk2, hRk2, hfark2⟩ := own_slice hown4
        refine hK _ v4 ?_
        clear hK K
        try simp only [Act.put, List.setIfInBounds_toArray, List.set_cons_zero, List.set_cons_succ]
        refine tail_go (by kernel_rfl) ?_
        refine tail_in ?_
        refine t_take 7 (x := ?_) rfl (by kernel_rfl) (by kernel_rfl) (by kernel_rfl) (fun _ _ _ h => h) (by rfl) (fun w => ?_) ?_
        rotate_left
        · (go_simp; try with_reducible rfl)
        try simp only [Act.put, List.setIfInBounds_toArray, List.set_cons_zero, List.set_cons_succ]
        refine t_step 8 (by kernel_rfl) rfl (fun K hK => ?_)
        go_simp
        refine hK _ _ ?_
        clear hK K
        try simp only [Act.put, List.setIfInBounds_toArray, List.set_cons_zero, List.set_cons_succ]
        refine wpAnyH_done (by kernel_rfl) ?_ _
        refine NoPanic.normal ?_
        have hfar3 : ∀ g off f, a2 = some ⟨g, off, f⟩ → V.heap.size ≤ g := fun g off f h => Nat.le_trans u0.2.size (hfark2 g off f h)
        have HR2 := hid hRk2; have Hfar2 := hid hfar3; have Hnz2 := hid hnzk2
        generalize hZ : World.setCell _ _ _ = Z
        have q0 : Z.cell? ⟨w.heap.size, 0, none⟩ = some (.slice a2 (0 + ps.length + 1) k2) := by rw [← hZ]; simpa using st_hit _ (c0 v4)
        have q1 : Z.cell? ⟨w.heap.size, 1, none⟩ = some (.slice aa ls.length ac) := by rw [← hZ]; exact st_off _ (.inl (by decide)) (c1 v4)
        have y0 : Z.cell? ⟨w.heap.size + 1 + 1, 0, none⟩ = some (.slice none 0 0) := by rw [← hZ]; exact st_off _ (.inr (by omega)) (e0 v4)
        have y1 : Z.cell? ⟨w.heap.size + 1 + 1, 1, none⟩ = some (.slice none 0 0) := by rw [← hZ]; exact st_off _ (.inr (by omega)) (e1 v4)
        have fy0 : Z.frozen? ⟨w.heap.size + 1 + 1, 0, none⟩ = false := by rw [← hZ]; exact sf _ (fe0 v4)
        have fy1 : Z.frozen? ⟨w.heap.size + 1 + 1, 1, none⟩ = false := by rw [← hZ]; exact sf _ (fe1 v4)
        have hWZ : Below w.heap.size w Z := by rw [← hZ]; exact b_set (WV.out v4) (Nat.le_refl _) _
        have hV2 : w.heap.size + 1 + 1 < V.heap.size := ze (After.here V)
        have HRZ : Hid (Rd Z a2 ((ps ++ [p]).flatMap Pk.c)) := by
          refine hid ?_
          rw [← hZ]
          refine Rd.set ?_ (fun g off h => by have := Hfar2.out g off _ h; omega) _
          rw [List.flatMap_append]
          simpa using HR2.out
        clear hZ hRk2 hfark2 hfar3 hnzk2
        have r0 := two0 y0
        have r1 := two1 y1
        go_wp2_with fail
        refine bodyPost_ret (v := .tuple #[.agg #[.slice a2 (0 + ps.length + 1) k2, .slice aa ls.length ac], .int .i64 0]) (by simp [results, Try.results12, go_sem, r0, r1]) rfl ⟨_, ⟨_, rfl, ?_⟩, (by repeat (first | exact Below.refl _ _ | assumption | refine b_then ?_ (by assumption) | refine b_alloc ?_ _ | refine b_drewN ?_ _ | refine b_drew ?_ | refine b_set ?_ (by omega) _ | refine b_set ?_ (by simp) _))⟩
        rw [if_pos ⟨Hc.out, hpk⟩]
        refine ⟨rfl, a2, aa, k2, ac, ?_, Rd.set (Rd.set HRZ.out (fun g off h => by have := Hfar2.out g off _ h; omega) _) (fun g off h => by have := Hfar2.out g off _ h; omega) _, HA.out.below (by repeat (first | exact Below.refl _ _ | assumption | refine b_then ?_ (by assumption) | refine b_alloc ?_ _ | refine b_drewN ?_ _ | refine b_drew ?_ | refine b_set ?_ (by omega) _ | refine b_set ?_ (by simp) _)), ⟨?_, fun h => ?_⟩, HF.out, .inr fun g off f h => .inr (by have := Hfar2.out g off f h; omega), HSA.out.mono fun b h => .inl h⟩
        · simp [netV]
        · simpa using hk2
        · have := Hnz2.out h; omega
  · have Hc := hid hc
    rw [chk_60 hc]
    clear hc
    have r0 := two0 (e0 u1)
    have r1 := two1 (e1 u1)
    have hW1 := WV.out u1
    go_wp2_with fail
    refine bodyPost_ret (v := .tuple #[.agg #[.slice none 0 0, .slice none 0 0], .int .i64 60]) (by simp [results, Try.results12, go_sem, r0, r1]) rfl ⟨_, ⟨_, rfl, ?_⟩, (by repeat (first | exact Below.refl _ _ | assumption | refine b_then ?_ (by assumption) | refine b_alloc ?_ _ | refine b_drewN ?_ _ | refine b_drew ?_ | refine b_set ?_ (by omega) _ | refine b_set ?_ (by simp) _))⟩
    rw [if_neg (fun h => Hc.out h.1)]
    exact ⟨rfl, NetIs.zero _ _⟩
end Go.Proofs.Ytmikhkmdcpgkfaa
