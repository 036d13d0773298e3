/- The reference's Lose, Repeat, Deliver. -/
import Derived.Test.YtmikhkmdcpgkfaaQ
import Derived.Test.YtmikhkmdcpgkfaaL
namespace Go.Proofs.Ytmikhkmdcpgkfaa
open Go.RowKit
open Go.Lib (hid)

set_option maxHeartbeats 1000000 in
theorem rLose_any (ok : Nat → Prop) (ps : List Pk) (ls : List (Int × Int)) (i : Int) (v : Value) (w : World) (hp : ps.length ≤ 1000) (hl : ls.length ≤ 1000) (hv : NetIs ok w v ps ls) :
    Calls Try.prog 24 #[v, .int .i64 i] w fun e w' => ∃ v', e = .returned (.tuple #[v', .int .i64 (ask ps ls i)]) ∧ NetIs (fun g => ok g ∨ w.heap.size ≤ g) w' v' (leftQ ps ls i) (leftL ps ls i) ∧ Below w.heap.size w w' := by
  have HV := hid hv.here
  have hv0 := hv
  obtain ⟨qa, aa, qc, ac, rfl, hq, hRa, -⟩ := hv0
  rw [show netV ps ls qa aa qc ac = .agg #[.slice qa ps.length qc, .slice aa ls.length ac] from rfl] at HV hv ⊢
  have HQ := hid hq; clear hq hRa hv
  go_enter Try.func24, Try.ntmps24
  go_wp2_with fail
  obtain ⟨V, hV⟩ : ∃ V, V = ((w.alloc (.cells #[.slice qa ps.length qc, .slice aa ls.length ac] 25)).alloc (.cells #[.slice none 0 0, .slice none 0 0] 25)) := ⟨_, rfl⟩
  have c0 : ∀ v : After V, v.w.cell? ⟨w.heap.size, 0, none⟩ = some (.slice qa ps.length qc) := after_cell (by rw [hV]; first | (simp; done) | omega | (simp; omega)) (by rw [hV]; (repeat (first | with_reducible assumption | exact bn (by first | (simp; done) | omega | (simp; omega)) rfl | refine bo (by first | (simp; done) | omega | (simp; omega)) ?_)))
  have fc0 : ∀ v : After V, v.w.frozen? ⟨w.heap.size, 0, none⟩ = false := after_frozen (by rw [hV]; first | (simp; done) | omega | (simp; omega)) (by rw [hV]; (repeat (first | exact fn (by first | (simp; done) | omega | (simp; omega)) | refine fo (by first | (simp; done) | omega | (simp; omega)) ?_)))
  have c1 : ∀ v : After V, v.w.cell? ⟨w.heap.size, 1, none⟩ = some (.slice aa ls.length ac) := after_cell (by rw [hV]; first | (simp; done) | omega | (simp; omega)) (by rw [hV]; (repeat (first | with_reducible assumption | exact bn (by first | (simp; done) | omega | (simp; omega)) rfl | refine bo (by first | (simp; done) | omega | (simp; omega)) ?_)))
  have fc1 : ∀ v : After V, v.w.frozen? ⟨w.heap.size, 1, none⟩ = false := after_frozen (by rw [hV]; first | (simp; done) | omega | (simp; omega)) (by rw [hV]; (repeat (first | exact fn (by first | (simp; done) | omega | (simp; omega)) | refine fo (by first | (simp; done) | omega | (simp; omega)) ?_)))
  have zc : ∀ v : After V, w.heap.size < v.w.heap.size := after_size (by rw [hV]; first | (simp; done) | omega | (simp; omega))
  have e0 : ∀ v : After V, v.w.cell? ⟨w.heap.size + 1, 0, none⟩ = some (.slice none 0 0) := after_cell (by rw [hV]; first | (simp; done) | omega | (simp; omega)) (by rw [hV]; (repeat (first | with_reducible assumption | exact bn (by first | (simp; done) | omega | (simp; omega)) rfl | refine bo (by first | (simp; done) | omega | (simp; omega)) ?_)))
  have fe0 : ∀ v : After V, v.w.frozen? ⟨w.heap.size + 1, 0, none⟩ = false := after_frozen (by rw [hV]; first | (simp; done) | omega | (simp; omega)) (by rw [hV]; (repeat (first | exact fn (by first | (simp; done) | omega | (simp; omega)) | refine fo (by first | (simp; done) | omega | (simp; omega)) ?_)))
  have e1 : ∀ v : After V, v.w.cell? ⟨w.heap.size + 1, 1, none⟩ = some (.slice none 0 0) := after_cell (by rw [hV]; first | (simp; done) | omega | (simp; omega)) (by rw [hV]; (repeat (first | with_reducible assumption | exact bn (by first | (simp; done) | omega | (simp; omega)) rfl | refine bo (by first | (simp; done) | omega | (simp; omega)) ?_)))
  have fe1 : ∀ v : After V, v.w.frozen? ⟨w.heap.size + 1, 1, none⟩ = false := after_frozen (by rw [hV]; first | (simp; done) | omega | (simp; omega)) (by rw [hV]; (repeat (first | exact fn (by first | (simp; done) | omega | (simp; omega)) | refine fo (by first | (simp; done) | omega | (simp; omega)) ?_)))
  have ze : ∀ v : After V, w.heap.size + 1 < v.w.heap.size := after_size (by rw [hV]; first | (simp; done) | omega | (simp; omega))
  have hwV : Below w.heap.size w V := by rw [hV]; exact (by repeat (first | exact Below.refl _ _ | assumption | refine b_then ?_ (by assumption) | refine b_alloc ?_ _ | refine b_drewN ?_ _ | refine b_drew ?_ | refine b_set ?_ (by omega) _ | refine b_set ?_ (by simp) _))
  have WV := hid (after_below hwV)
  rw [← hV]
  obtain ⟨u0, hu⟩ : ∃ u : After V, u.w = V := ⟨After.here V, rfl⟩
  rw [← hu]
  clear hu hV
  refine (met (asked_any _ ps ls i _ _ hp hl (HV.out.below (WV.out u0)))).mono ?_
  rintro e _ ⟨rfl, u1, rfl⟩
  by_cases hk : ask ps ls i = 0
  · obtain ⟨hi0, hlt, hc⟩ := ask_in hk
    obtain ⟨j, rfl⟩ := Int.eq_ofNat_of_zero_le hi0
    have Hk := hid hk
    rw [hk]
    clear hk
    go_wp2_with fail
    refine (rwithout_any _ ps ls j (.agg #[.slice qa ps.length qc, .slice aa ls.length ac]) _ hp hlt (HV.out.below (WV.out u1))).mono ?_
    rintro e w2 ⟨v', rfl, hn, hB2⟩
    obtain ⟨qb, ab, qd, ad, rfl⟩ := hn.form
    generalize hlen : (ps.take j ++ ps.drop (j + 1)).length = nn at hn ⊢
    have HL := hid hlen; clear hlen
    have HN := hid hn; clear hn
    obtain ⟨u2, rfl⟩ : ∃ u2 : After V, w2 = u2.w := ⟨u1.on hB2, rfl⟩
    have r0 := two0 (e0 u2)
    have r1 := two1 (e1 u2)
    have hW2 := WV.out u2
    have hs0 : w.heap.size + 1 < u1.w.heap.size := ze u1
    clear hB2
    go_wp2_with fail
    refine bodyPost_ret (v := .tuple #[.agg #[.slice qb nn qd, .slice ab ls.length ad], .int .i64 0]) (by simp [results, Try.results24, go_sem, r0, r1]) rfl ⟨_, by rw [Hk.out], ?_, (by repeat (first | exact Below.refl _ _ | assumption | refine b_then ?_ (by assumption) | refine b_alloc ?_ _ | refine b_drewN ?_ _ | refine b_drew ?_ | refine b_set ?_ (by omega) _ | refine b_set ?_ (by simp) _))⟩
    rw [show leftQ ps ls j = ps.take j ++ ps.drop (j + 1) by simp [leftQ, Hk.out], show leftL ps ls j = ls by simp [leftL, Hk.out]]
    refine NetIs.mono (ok := fun g => (ok g ∧ g < w.heap.size) ∨ u1.w.heap.size ≤ g) ?_ (fun g h => h.elim (fun h => .inl h.1) (fun h => .inr (by omega)))
    iterate 2 (refine NetIs.set ?_ (by omega) _)
    exact HN.out
  · have Hk := hid hk
    have hb : (ask ps ls i == 0) = false := beq_eq_false_iff_ne.2 hk
    clear hk
    have r0 := two0 (e0 u1)
    have r1 := two1 (e1 u1)
    have hW1 := WV.out u1
    go_wp2_with fail
    refine bodyPost_ret (v := .tuple #[.agg #[.slice none 0 0, .slice none 0 0], .int .i64 (ask ps ls i)]) (by simp [results, Try.results24, go_sem, r0, r1]) rfl ⟨_, rfl, ?_, (by repeat (first | exact Below.refl _ _ | assumption | refine b_then ?_ (by assumption) | refine b_alloc ?_ _ | refine b_drewN ?_ _ | refine b_drew ?_ | refine b_set ?_ (by omega) _ | refine b_set ?_ (by simp) _))⟩
    rw [show leftQ ps ls i = [] by simp [leftQ, Hk.out], show leftL ps ls i = [] by simp [leftL, Hk.out]]
    exact NetIs.zero _ _

theorem send_cases {ok : Nat → Prop} {ps : List Pk} {ls : List (Int × Int)} {p : Pk} {w w' : World} {v : Value} {x : Int}
    (h : if chk ps ls = 0 ∧ pkOk p = true then x = 0 ∧ NetIs (fun g => ok g ∨ w.heap.size ≤ g) w' v (ps ++ [p]) ls else x = 60 ∧ NetIs (fun g => ok g ∨ w.heap.size ≤ g) w' v [] []) (hc : chk ps ls = 0) :
    ∃ qs rs, NetIs (fun g => ok g ∨ w.heap.size ≤ g) w' v qs rs ∧ (if pkOk p = true then x = 0 ∧ qs = ps ++ [p] ∧ rs = ls else x = 60 ∧ qs = [] ∧ rs = []) := by
  split at h
  · rename_i hh
    exact ⟨_, _, h.2, by rw [if_pos hh.2]; exact ⟨h.1, rfl, rfl⟩⟩
  · rename_i hh
    exact ⟨_, _, h.2, by rw [if_neg (fun h2 => hh ⟨hc, h2⟩)]; exact ⟨h.1, rfl, rfl⟩⟩

set_option maxHeartbeats 4000000 in
theorem rRepeat_any (ok : Nat → Prop) (ps : List Pk) (ls : List (Int × Int)) (i : Int) (v : Value) (w : World) (hp : ps.length ≤ 1000) (hl : ls.length ≤ 1000) (hv : NetIs ok w v ps ls) :
    Calls Try.prog 26 #[v, .int .i64 i] w fun e w' => RepTo ok ps ls i w w' e := by
  have HV := hid hv.here
  have hv0 := hv
  obtain ⟨qa, aa, qc, ac, rfl, hq, hRa, -⟩ := hv0
  rw [show netV ps ls qa aa qc ac = .agg #[.slice qa ps.length qc, .slice aa ls.length ac] from rfl] at HV hv ⊢
  have HQ := hid hq; clear hq hRa hv
  go_enter Try.func26, Try.ntmps26
  go_wp2_with fail
  obtain ⟨V, hV⟩ : ∃ V, V = ((w.alloc (.cells #[.slice qa ps.length qc, .slice aa ls.length ac] 25)).alloc (.cells #[.slice none 0 0, .slice none 0 0] 25)) := ⟨_, rfl⟩
  have c0 : ∀ v : After V, v.w.cell? ⟨w.heap.size, 0, none⟩ = some (.slice qa ps.length qc) := after_cell (by rw [hV]; first | (simp; done) | omega | (simp; omega)) (by rw [hV]; (repeat (first | with_reducible assumption | exact bn (by first | (simp; done) | omega | (simp; omega)) rfl | refine bo (by first | (simp; done) | omega | (simp; omega)) ?_)))
  have fc0 : ∀ v : After V, v.w.frozen? ⟨w.heap.size, 0, none⟩ = false := after_frozen (by rw [hV]; first | (simp; done) | omega | (simp; omega)) (by rw [hV]; (repeat (first | exact fn (by first | (simp; done) | omega | (simp; omega)) | refine fo (by first | (simp; done) | omega | (simp; omega)) ?_)))
  have c1 : ∀ v : After V, v.w.cell? ⟨w.heap.size, 1, none⟩ = some (.slice aa ls.length ac) := after_cell (by rw [hV]; first | (simp; done) | omega | (simp; omega)) (by rw [hV]; (repeat (first | with_reducible assumption | exact bn (by first | (simp; done) | omega | (simp; omega)) rfl | refine bo (by first | (simp; done) | omega | (simp; omega)) ?_)))
  have fc1 : ∀ v : After V, v.w.frozen? ⟨w.heap.size, 1, none⟩ = false := after_frozen (by rw [hV]; first | (simp; done) | omega | (simp; omega)) (by rw [hV]; (repeat (first | exact fn (by first | (simp; done) | omega | (simp; omega)) | refine fo (by first | (simp; done) | omega | (simp; omega)) ?_)))
  have zc : ∀ v : After V, w.heap.size < v.w.heap.size := after_size (by rw [hV]; first | (simp; done) | omega | (simp; omega))
  have e0 : ∀ v : After V, v.w.cell? ⟨w.heap.size + 1, 0, none⟩ = some (.slice none 0 0) := after_cell (by rw [hV]; first | (simp; done) | omega | (simp; omega)) (by rw [hV]; (repeat (first | with_reducible assumption | exact bn (by first | (simp; done) | omega | (simp; omega)) rfl | refine bo (by first | (simp; done) | omega | (simp; omega)) ?_)))
  have fe0 : ∀ v : After V, v.w.frozen? ⟨w.heap.size + 1, 0, none⟩ = false := after_frozen (by rw [hV]; first | (simp; done) | omega | (simp; omega)) (by rw [hV]; (repeat (first | exact fn (by first | (simp; done) | omega | (simp; omega)) | refine fo (by first | (simp; done) | omega | (simp; omega)) ?_)))
  have e1 : ∀ v : After V, v.w.cell? ⟨w.heap.size + 1, 1, none⟩ = some (.slice none 0 0) := after_cell (by rw [hV]; first | (simp; done) | omega | (simp; omega)) (by rw [hV]; (repeat (first | with_reducible assumption | exact bn (by first | (simp; done) | omega | (simp; omega)) rfl | refine bo (by first | (simp; done) | omega | (simp; omega)) ?_)))
  have fe1 : ∀ v : After V, v.w.frozen? ⟨w.heap.size + 1, 1, none⟩ = false := after_frozen (by rw [hV]; first | (simp; done) | omega | (simp; omega)) (by rw [hV]; (repeat (first | exact fn (by first | (simp; done) | omega | (simp; omega)) | refine fo (by first | (simp; done) | omega | (simp; omega)) ?_)))
  have ze : ∀ v : After V, w.heap.size + 1 < v.w.heap.size := after_size (by rw [hV]; first | (simp; done) | omega | (simp; omega))
  have hwV : Below w.heap.size w V := by rw [hV]; exact (by repeat (first | exact Below.refl _ _ | assumption | refine b_then ?_ (by assumption) | refine b_alloc ?_ _ | refine b_drewN ?_ _ | refine b_drew ?_ | refine b_set ?_ (by omega) _ | refine b_set ?_ (by simp) _))
  have WV := hid (after_below hwV)
  rw [← hV]
  obtain ⟨u0, hu⟩ : ∃ u : After V, u.w = V := ⟨After.here V, rfl⟩
  rw [← hu]
  clear hu hV
  refine (met (asked_any _ ps ls i _ _ hp hl (HV.out.below (WV.out u0)))).mono ?_
  rintro e _ ⟨rfl, u1, rfl⟩
  by_cases hk : ask ps ls i = 0
  · obtain ⟨hi0, hlt, hc⟩ := ask_in hk
    obtain ⟨j, rfl⟩ := Int.eq_ofNat_of_zero_le hi0
    have Hk := hid hk
    have Hc := hid hc
    rw [hk]
    clear hk hc
    have hlt' : j < ps.length := by simpa using hlt
    obtain ⟨b, off, rfl, hb⟩ := HQ.out.addr (by rw [flat_len Pk.c 3 Pk.c3]; omega)
    have RQ := hid (fun v : After V => HQ.out.below (WV.out v))
    have k0 : ∀ v : After V, v.w.cell? ⟨b, off + j * 3, none⟩ = some (.int .i64 ps[j].fr) := row_cell Pk.c3 RQ.out hlt' 0 (by decide) rfl rfl
    have k1 : ∀ v : After V, v.w.cell? ⟨b, off + j * 3 + 1, none⟩ = some (.int .i64 ps[j].to) := row_cell Pk.c3 RQ.out hlt' 1 (by decide) rfl rfl
    have k2 : ∀ v : After V, v.w.cell? ⟨b, off + j * 3 + 2, none⟩ = some (.slice ps[j].da ps[j].dn ps[j].dc) := row_cell Pk.c3 RQ.out hlt' 2 (by decide) rfl rfl
    have i0 : (0 : Int) ≤ (j : Int) := by omega
    have i1 : (j : Int) < ps.length := by omega
    go_upto_region 4 with fail
    refine region_split 9 (by kernel_rfl) (by kernel_rfl) rfl ?_
    intro u0
    simp only [List.take_succ_cons, List.take_zero]
    refine h_take 0 (x := ?_) rfl (by kernel_rfl) (by kernel_rfl) (by kernel_rfl) (fun _ _ _ h => h) (by rfl) (fun v => ?_) ?_
    rotate_left
    · (go_simp; try with_reducible rfl)
    try simp only [Act.put, List.setIfInBounds_toArray, List.set_cons_zero, List.set_cons_succ]
    refine h_take 1 (x := ?_) rfl (by kernel_rfl) (by kernel_rfl) (by kernel_rfl) (fun _ _ _ h => h) (by rfl) (fun v => ?_) ?_
    rotate_left
    · (go_simp; try with_reducible rfl)
    try simp only [Act.put, List.setIfInBounds_toArray, List.set_cons_zero, List.set_cons_succ]
    refine h_take 2 (x := ?_) rfl (by kernel_rfl) (by kernel_rfl) (by kernel_rfl) (fun _ _ _ h => h) (by rfl) (fun v => ?_) ?_
    rotate_left
    · (go_simp; try with_reducible rfl)
    try simp only [Act.put, List.setIfInBounds_toArray, List.set_cons_zero, List.set_cons_succ]
    refine h_take 3 (x := ?_) rfl (by kernel_rfl) (by kernel_rfl) (by kernel_rfl) (fun _ _ _ h => h) (by rfl) (fun v => ?_) ?_
    rotate_left
    · (go_simp; try with_reducible rfl)
    try simp only [Act.put, List.setIfInBounds_toArray, List.set_cons_zero, List.set_cons_succ]
    refine h_take 4 (x := ?_) rfl (by kernel_rfl) (by kernel_rfl) (by kernel_rfl) (fun _ _ _ h => h) (by rfl) (fun v => ?_) ?_
    rotate_left
    · (go_simp; try with_reducible rfl)
    try simp only [Act.put, List.setIfInBounds_toArray, List.set_cons_zero, List.set_cons_succ]
    refine h_take 5 (x := ?_) rfl (by kernel_rfl) (by kernel_rfl) (by kernel_rfl) (fun _ _ _ h => h) (by rfl) (fun v => ?_) ?_
    rotate_left
    · (go_simp; try with_reducible rfl)
    try simp only [Act.put, List.setIfInBounds_toArray, List.set_cons_zero, List.set_cons_succ]
    refine h_step 6 (by kernel_rfl) rfl (fun K hK => ?_)
    go_simp
    (refine (rSend_any _ ps ls ps[j] (.agg #[.slice (some ⟨b, off, none⟩) ps.length qc, .slice aa ls.length ac]) _ hp hl (HV.out.below (WV.out u0))).mono ?_)
    rintro e w7 ⟨x, ⟨v', rfl, hn⟩, hB7⟩
    obtain ⟨qs, rs, hn, hx⟩ := send_cases hn Hc.out
    obtain ⟨qb, ab, qd, ad, rfl⟩ := hn.form
    have HN := hid hn; clear hn
    have HX := hid hx; clear hx
    obtain ⟨v1, rfl⟩ : ∃ v1 : After V, w7 = v1.w := ⟨u0.on hB7, rfl⟩
    have hs7 := hB7.size
    clear hB7
    go_simp
    refine hK _ v1 ?_
    clear hK K
    try simp only [Act.put, List.setIfInBounds_toArray, List.set_cons_zero, List.set_cons_succ]
    refine h_take 7 (x := ?_) rfl (by kernel_rfl) (by kernel_rfl) (by kernel_rfl) (fun _ _ _ h => h) (by rfl) (fun v => ?_) ?_
    rotate_left
    · (go_simp; try with_reducible rfl)
    try simp only [Act.put, List.setIfInBounds_toArray, List.set_cons_zero, List.set_cons_succ]
    refine h_take 8 (x := ?_) rfl (by kernel_rfl) (by kernel_rfl) (by kernel_rfl) (fun _ _ _ h => h) (by rfl) (fun v => ?_) ?_
    rotate_left
    · (go_simp; try with_reducible rfl)
    try simp only [Act.put, List.setIfInBounds_toArray, List.set_cons_zero, List.set_cons_succ]
    refine tail_go (by kernel_rfl) ?_
    refine tail_in ?_
    refine t_step 9 (by kernel_rfl) rfl (fun K hK => ?_)
    go_simp
    refine hK _ _ ?_
    clear hK K
    try simp only [Act.put, List.setIfInBounds_toArray, List.set_cons_zero, List.set_cons_succ]
    refine t_take 10 (x := ?_) rfl (by kernel_rfl) (by kernel_rfl) (by kernel_rfl) (fun _ _ _ h => h) (by rfl) (fun w => ?_) ?_
    rotate_left
    · (go_simp; try with_reducible rfl)
    try simp only [Act.put, List.setIfInBounds_toArray, List.set_cons_zero, List.set_cons_succ]
    refine wpAnyH_done (by kernel_rfl) ?_ _
    refine NoPanic.normal ?_
    generalize hZ : World.setCell _ _ _ = Z
    have r0 : Z.cell? ⟨w.heap.size + 1, 0, none⟩ = some (.slice qb qs.length qd) := by rw [← hZ]; exact st_off _ (.inl (by decide)) (st_hit _ (e0 v1))
    have r1 : Z.cell? ⟨w.heap.size + 1, 1, none⟩ = some (.slice ab rs.length ad) := by rw [← hZ]; exact st_hit _ (st_off _ (.inl (by decide)) (e1 v1))
    have hWZ : Below w.heap.size w Z := by
      rw [← hZ]
      iterate 2 (refine b_set ?_ (by omega) _)
      exact WV.out v1
    have hs0 : w.heap.size + 1 < u0.w.heap.size := ze u0
    have hm : NetIs (fun g => ok g ∨ w.heap.size ≤ g) Z (.agg #[.slice qb qs.length qd, .slice ab rs.length ad]) qs rs := by
      rw [← hZ]
      refine NetIs.mono (ok := fun g => (ok g ∧ g < w.heap.size) ∨ u0.w.heap.size ≤ g) ?_ (fun g h => h.elim (fun h => .inl h.1) (fun h => .inr (by omega)))
      iterate 2 (refine NetIs.set ?_ (by omega) _)
      exact HN.out
    have HM := hid hm
    clear hZ hm
    go_wp2_with fail
    refine bodyPost_ret (v := .tuple #[.agg #[.slice qb qs.length qd, .slice ab rs.length ad], .int .i64 x]) (by simp [results, Try.results26, go_sem, r0, r1]) rfl ⟨_, ⟨_, rfl, ?_⟩, hWZ⟩
    rw [if_pos Hk.out, show atP ps j = ps[j] by simp [atP, hlt']]
    have hm := HM.out
    have hx := HX.out
    split at hx
    · rename_i hpk
      obtain ⟨rfl, rfl, rfl⟩ := hx
      rw [if_pos hpk]
      exact ⟨rfl, hm⟩
    · rename_i hpk
      obtain ⟨rfl, rfl, rfl⟩ := hx
      rw [if_neg hpk]
      exact ⟨rfl, hm⟩
  · have Hk := hid hk
    have hb : (ask ps ls i == 0) = false := beq_eq_false_iff_ne.2 hk
    clear hk
    have r0 := two0 (e0 u1)
    have r1 := two1 (e1 u1)
    have hW1 := WV.out u1
    go_wp2_with fail
    refine bodyPost_ret (v := .tuple #[.agg #[.slice none 0 0, .slice none 0 0], .int .i64 (ask ps ls i)]) (by simp [results, Try.results26, go_sem, r0, r1]) rfl ⟨_, ⟨_, rfl, ?_⟩, (by repeat (first | exact Below.refl _ _ | assumption | refine b_then ?_ (by assumption) | refine b_alloc ?_ _ | refine b_drewN ?_ _ | refine b_drew ?_ | refine b_set ?_ (by omega) _ | refine b_set ?_ (by simp) _))⟩
    rw [if_neg Hk.out]
    exact ⟨rfl, NetIs.zero _ _⟩

set_option maxHeartbeats 4000000 in
theorem rDeliver_any (ok : Nat → Prop) (ps : List Pk) (ls : List (Int × Int)) (i : Int) (v : Value) (w : World) (hp : ps.length ≤ 1000) (hl : ls.length ≤ 1000) (hv : NetIs ok w v ps ls) :
    Calls Try.prog 22 #[v, .int .i64 i] w fun e w' => DelTo ok ps ls i w w' e := by
  have HV := hid hv.here
  have hv0 := hv
  obtain ⟨qa, aa, qc, ac, rfl, hq, hRa, -⟩ := hv0
  rw [show netV ps ls qa aa qc ac = .agg #[.slice qa ps.length qc, .slice aa ls.length ac] from rfl] at HV hv ⊢
  have HQ := hid hq; clear hq hRa hv
  go_enter Try.func22, Try.ntmps22
  go_wp2_with fail
  obtain ⟨V, hV⟩ : ∃ V, V = (((w.alloc (.cells #[.slice qa ps.length qc, .slice aa ls.length ac] 25)).alloc (.cells #[.int .i64 0, .int .i64 0, .slice none 0 0] 28)).alloc (.cells #[.slice none 0 0, .slice none 0 0] 25)) := ⟨_, rfl⟩
  have c0 : ∀ v : After V, v.w.cell? ⟨w.heap.size, 0, none⟩ = some (.slice qa ps.length qc) := after_cell (by rw [hV]; first | (simp; done) | omega | (simp; omega)) (by rw [hV]; (repeat (first | with_reducible assumption | exact bn (by first | (simp; done) | omega | (simp; omega)) rfl | refine bo (by first | (simp; done) | omega | (simp; omega)) ?_)))
  have fc0 : ∀ v : After V, v.w.frozen? ⟨w.heap.size, 0, none⟩ = false := after_frozen (by rw [hV]; first | (simp; done) | omega | (simp; omega)) (by rw [hV]; (repeat (first | exact fn (by first | (simp; done) | omega | (simp; omega)) | refine fo (by first | (simp; done) | omega | (simp; omega)) ?_)))
  have c1 : ∀ v : After V, v.w.cell? ⟨w.heap.size, 1, none⟩ = some (.slice aa ls.length ac) := after_cell (by rw [hV]; first | (simp; done) | omega | (simp; omega)) (by rw [hV]; (repeat (first | with_reducible assumption | exact bn (by first | (simp; done) | omega | (simp; omega)) rfl | refine bo (by first | (simp; done) | omega | (simp; omega)) ?_)))
  have fc1 : ∀ v : After V, v.w.frozen? ⟨w.heap.size, 1, none⟩ = false := after_frozen (by rw [hV]; first | (simp; done) | omega | (simp; omega)) (by rw [hV]; (repeat (first | exact fn (by first | (simp; done) | omega | (simp; omega)) | refine fo (by first | (simp; done) | omega | (simp; omega)) ?_)))
  have zc : ∀ v : After V, w.heap.size < v.w.heap.size := after_size (by rw [hV]; first | (simp; done) | omega | (simp; omega))
  have p0 : ∀ v : After V, v.w.cell? ⟨w.heap.size + 1, 0, none⟩ = some (.int .i64 0) := after_cell (by rw [hV]; first | (simp; done) | omega | (simp; omega)) (by rw [hV]; (repeat (first | with_reducible assumption | exact bn (by first | (simp; done) | omega | (simp; omega)) rfl | refine bo (by first | (simp; done) | omega | (simp; omega)) ?_)))
  have fp0 : ∀ v : After V, v.w.frozen? ⟨w.heap.size + 1, 0, none⟩ = false := after_frozen (by rw [hV]; first | (simp; done) | omega | (simp; omega)) (by rw [hV]; (repeat (first | exact fn (by first | (simp; done) | omega | (simp; omega)) | refine fo (by first | (simp; done) | omega | (simp; omega)) ?_)))
  have p1 : ∀ v : After V, v.w.cell? ⟨w.heap.size + 1, 1, none⟩ = some (.int .i64 0) := after_cell (by rw [hV]; first | (simp; done) | omega | (simp; omega)) (by rw [hV]; (repeat (first | with_reducible assumption | exact bn (by first | (simp; done) | omega | (simp; omega)) rfl | refine bo (by first | (simp; done) | omega | (simp; omega)) ?_)))
  have fp1 : ∀ v : After V, v.w.frozen? ⟨w.heap.size + 1, 1, none⟩ = false := after_frozen (by rw [hV]; first | (simp; done) | omega | (simp; omega)) (by rw [hV]; (repeat (first | exact fn (by first | (simp; done) | omega | (simp; omega)) | refine fo (by first | (simp; done) | omega | (simp; omega)) ?_)))
  have p2 : ∀ v : After V, v.w.cell? ⟨w.heap.size + 1, 2, none⟩ = some (.slice none 0 0) := after_cell (by rw [hV]; first | (simp; done) | omega | (simp; omega)) (by rw [hV]; (repeat (first | with_reducible assumption | exact bn (by first | (simp; done) | omega | (simp; omega)) rfl | refine bo (by first | (simp; done) | omega | (simp; omega)) ?_)))
  have fp2 : ∀ v : After V, v.w.frozen? ⟨w.heap.size + 1, 2, none⟩ = false := after_frozen (by rw [hV]; first | (simp; done) | omega | (simp; omega)) (by rw [hV]; (repeat (first | exact fn (by first | (simp; done) | omega | (simp; omega)) | refine fo (by first | (simp; done) | omega | (simp; omega)) ?_)))
  have zp : ∀ v : After V, w.heap.size + 1 < v.w.heap.size := after_size (by rw [hV]; first | (simp; done) | omega | (simp; omega))
  have e0 : ∀ v : After V, v.w.cell? ⟨w.heap.size + 1 + 1, 0, none⟩ = some (.slice none 0 0) := after_cell (by rw [hV]; first | (simp; done) | omega | (simp; omega)) (by rw [hV]; (repeat (first | with_reducible assumption | exact bn (by first | (simp; done) | omega | (simp; omega)) rfl | refine bo (by first | (simp; done) | omega | (simp; omega)) ?_)))
  have fe0 : ∀ v : After V, v.w.frozen? ⟨w.heap.size + 1 + 1, 0, none⟩ = false := after_frozen (by rw [hV]; first | (simp; done) | omega | (simp; omega)) (by rw [hV]; (repeat (first | exact fn (by first | (simp; done) | omega | (simp; omega)) | refine fo (by first | (simp; done) | omega | (simp; omega)) ?_)))
  have e1 : ∀ v : After V, v.w.cell? ⟨w.heap.size + 1 + 1, 1, none⟩ = some (.slice none 0 0) := after_cell (by rw [hV]; first | (simp; done) | omega | (simp; omega)) (by rw [hV]; (repeat (first | with_reducible assumption | exact bn (by first | (simp; done) | omega | (simp; omega)) rfl | refine bo (by first | (simp; done) | omega | (simp; omega)) ?_)))
  have fe1 : ∀ v : After V, v.w.frozen? ⟨w.heap.size + 1 + 1, 1, none⟩ = false := after_frozen (by rw [hV]; first | (simp; done) | omega | (simp; omega)) (by rw [hV]; (repeat (first | exact fn (by first | (simp; done) | omega | (simp; omega)) | refine fo (by first | (simp; done) | omega | (simp; omega)) ?_)))
  have ze : ∀ v : After V, w.heap.size + 1 + 1 < v.w.heap.size := after_size (by rw [hV]; first | (simp; done) | omega | (simp; omega))
  have hwV : Below w.heap.size w V := by rw [hV]; exact (by repeat (first | exact Below.refl _ _ | assumption | refine b_then ?_ (by assumption) | refine b_alloc ?_ _ | refine b_drewN ?_ _ | refine b_drew ?_ | refine b_set ?_ (by omega) _ | refine b_set ?_ (by simp) _))
  have WV := hid (after_below hwV)
  rw [← hV]
  obtain ⟨u0, hu⟩ : ∃ u : After V, u.w = V := ⟨After.here V, rfl⟩
  rw [← hu]
  clear hu hV
  refine (met (asked_any _ ps ls i _ _ hp hl (HV.out.below (WV.out u0)))).mono ?_
  rintro e _ ⟨rfl, u1, rfl⟩
  by_cases hk : ask ps ls i = 0
  · obtain ⟨hi0, hlt, hc⟩ := ask_in hk
    obtain ⟨j, rfl⟩ := Int.eq_ofNat_of_zero_le hi0
    have Hk := hid hk
    rw [hk]
    clear hk
    have hlt' : j < ps.length := by simpa using hlt
    obtain ⟨b, off, rfl, hb⟩ := HQ.out.addr (by rw [flat_len Pk.c 3 Pk.c3]; omega)
    have RQ := hid (fun v : After V => HQ.out.below (WV.out v))
    have k0 : ∀ v : After V, v.w.cell? ⟨b, off + j * 3, none⟩ = some (.int .i64 ps[j].fr) := row_cell Pk.c3 RQ.out hlt' 0 (by decide) rfl rfl
    have k1 : ∀ v : After V, v.w.cell? ⟨b, off + j * 3 + 1, none⟩ = some (.int .i64 ps[j].to) := row_cell Pk.c3 RQ.out hlt' 1 (by decide) rfl rfl
    have k2 : ∀ v : After V, v.w.cell? ⟨b, off + j * 3 + 2, none⟩ = some (.slice ps[j].da ps[j].dn ps[j].dc) := row_cell Pk.c3 RQ.out hlt' 2 (by decide) rfl rfl
    have i0 : (0 : Int) ≤ (j : Int) := by omega
    have i1 : (j : Int) < ps.length := by omega
    go_upto_region 5 with fail
    obtain ⟨X, hX⟩ : ∃ X, X = u1.w.alloc (.cells #[.int .i64 ps[j].fr, .int .i64 ps[j].to, .slice ps[j].da ps[j].dn ps[j].dc] 28) := ⟨_, rfl⟩
    have hBX : Below V.heap.size V X := by rw [hX]; exact b_alloc u1.w_below _
    have ydc := zc u1
    have ydp := zp u1
    have yde := ze u1
    replace c0 := upc hBX c0
    replace fc0 := upf hBX fc0
    replace c1 := upc hBX c1
    replace fc1 := upf hBX fc1
    replace p0 := upc hBX p0
    replace fp0 := upf hBX fp0
    replace p1 := upc hBX p1
    replace fp1 := upf hBX fp1
    replace p2 := upc hBX p2
    replace fp2 := upf hBX fp2
    replace e0 := upc hBX e0
    replace fe0 := upf hBX fe0
    replace e1 := upc hBX e1
    replace fe1 := upf hBX fe1
    replace zc := upz hBX zc
    replace zp := upz hBX zp
    replace ze := upz hBX ze
    have WX := hid (upb hBX WV.out)
    have d0 : ∀ v : After X, v.w.cell? ⟨u1.w.heap.size, 0, none⟩ = some (.int .i64 ps[j].fr) := new_cell hX rfl rfl
    have fd0 : ∀ v : After X, v.w.frozen? ⟨u1.w.heap.size, 0, none⟩ = false := new_frozen hX rfl
    have d1 : ∀ v : After X, v.w.cell? ⟨u1.w.heap.size, 1, none⟩ = some (.int .i64 ps[j].to) := new_cell hX rfl rfl
    have fd1 : ∀ v : After X, v.w.frozen? ⟨u1.w.heap.size, 1, none⟩ = false := new_frozen hX rfl
    have d2 : ∀ v : After X, v.w.cell? ⟨u1.w.heap.size, 2, none⟩ = some (.slice ps[j].da ps[j].dn ps[j].dc) := new_cell hX rfl rfl
    have fd2 : ∀ v : After X, v.w.frozen? ⟨u1.w.heap.size, 2, none⟩ = false := new_frozen hX rfl
    have zd : ∀ v : After X, u1.w.heap.size < v.w.heap.size := after_size (by rw [hX]; simp)
    rw [← hX]
    obtain ⟨x, hu⟩ : ∃ u : After X, u.w = X := ⟨After.here X, rfl⟩
    rw [← hu]
    clear hu hX
    go_wp2_with fail
    refine (met (isCut_any _ ps ls ps[j].fr ps[j].to _ _ hl (HV.out.below (WX.out x)))).mono ?_
    rintro e _ ⟨rfl, u5, rfl⟩
    rcases hct : ls.contains (min ps[j].fr ps[j].to, max ps[j].fr ps[j].to) with _ | _
    · have HD := hid (show delP ps ls j = ps[j] by simp [delP, Hk.out, atP, hlt', cutIn, -List.contains_eq_mem, hct])
      go_upto_region 7 with fail
      refine region_split 4 (by kernel_rfl) (by kernel_rfl) rfl ?_
      intro u0
      simp only [List.take_succ_cons, List.take_zero]
      refine h_take 0 (x := ?_) rfl (by kernel_rfl) (by kernel_rfl) (by kernel_rfl) (fun _ _ _ h => h) (by rfl) (fun v => ?_) ?_
      rotate_left
      · (go_simp; try with_reducible rfl)
      try simp only [Act.put, List.setIfInBounds_toArray, List.set_cons_zero, List.set_cons_succ]
      refine h_take 1 (x := ?_) rfl (by kernel_rfl) (by kernel_rfl) (by kernel_rfl) (fun _ _ _ h => h) (by rfl) (fun v => ?_) ?_
      rotate_left
      · (go_simp; try with_reducible rfl)
      try simp only [Act.put, List.setIfInBounds_toArray, List.set_cons_zero, List.set_cons_succ]
      refine h_take 2 (x := ?_) rfl (by kernel_rfl) (by kernel_rfl) (by kernel_rfl) (fun _ _ _ h => h) (by rfl) (fun v => ?_) ?_
      rotate_left
      · (go_simp; try with_reducible rfl)
      try simp only [Act.put, List.setIfInBounds_toArray, List.set_cons_zero, List.set_cons_succ]
      refine h_step 3 (by kernel_rfl) rfl (fun K hK => ?_)
      go_simp
      (refine (rwithout_any _ ps ls j (.agg #[.slice (some ⟨b, off, none⟩) ps.length qc, .slice aa ls.length ac]) _ hp hlt (HV.out.below (WX.out u0))).mono ?_)
      rintro e w7 ⟨v', rfl, hn, hB7⟩
      obtain ⟨qb, ab, qd, ad, rfl⟩ := hn.form
      generalize hlen : (ps.take j ++ ps.drop (j + 1)).length = nn at hn ⊢
      have HL := hid hlen; clear hlen
      have HN := hid hn; clear hn
      obtain ⟨v1, rfl⟩ : ∃ v1 : After X, w7 = v1.w := ⟨u0.on hB7, rfl⟩
      have hs7 := hB7.size
      clear hB7
      go_simp
      refine hK _ v1 ?_
      clear hK K
      try simp only [Act.put, List.setIfInBounds_toArray, List.set_cons_zero, List.set_cons_succ]
      refine tail_go (by kernel_rfl) ?_
      refine tail_in ?_
      refine t_step 4 (by kernel_rfl) rfl (fun K hK => ?_)
      go_simp
      refine hK _ _ ?_
      clear hK K
      try simp only [Act.put, List.setIfInBounds_toArray, List.set_cons_zero, List.set_cons_succ]
      refine t_step 5 (by kernel_rfl) rfl (fun K hK => ?_)
      go_simp
      refine hK _ _ ?_
      clear hK K
      try simp only [Act.put, List.setIfInBounds_toArray, List.set_cons_zero, List.set_cons_succ]
      refine t_take 6 (x := ?_) rfl (by kernel_rfl) (by kernel_rfl) (by kernel_rfl) (fun _ _ _ h => h) (by rfl) (fun w => ?_) ?_
      rotate_left
      · (go_simp; try with_reducible rfl)
      try simp only [Act.put, List.setIfInBounds_toArray, List.set_cons_zero, List.set_cons_succ]
      refine wpAnyH_done (by kernel_rfl) ?_ _
      refine NoPanic.normal ?_
      generalize hZ : World.setCell _ _ _ = Z
      have q0 : Z.cell? ⟨w.heap.size + 1, 0, none⟩ = some (.int .i64 ps[j].fr) := by rw [← hZ]; exact st_off _ (.inr (by omega)) (st_off _ (.inr (by omega)) (st_off _ (.inl (by decide)) (st_off _ (.inl (by decide)) (st_hit _ (p0 v1)))))
      have q1 : Z.cell? ⟨w.heap.size + 1, 1, none⟩ = some (.int .i64 ps[j].to) := by rw [← hZ]; exact st_off _ (.inr (by omega)) (st_off _ (.inr (by omega)) (st_off _ (.inl (by decide)) (st_hit _ (st_off _ (.inl (by decide)) (p1 v1)))))
      have q2 : Z.cell? ⟨w.heap.size + 1, 2, none⟩ = some (.slice ps[j].da ps[j].dn ps[j].dc) := by rw [← hZ]; exact st_off _ (.inr (by omega)) (st_off _ (.inr (by omega)) (st_hit _ (st_off _ (.inl (by decide)) (st_off _ (.inl (by decide)) (p2 v1)))))
      have r0 : Z.cell? ⟨w.heap.size + 1 + 1, 0, none⟩ = some (.slice qb nn qd) := by rw [← hZ]; exact st_off _ (.inl (by decide)) (st_hit _ (st_off _ (.inr (by omega)) (st_off _ (.inr (by omega)) (st_off _ (.inr (by omega)) (e0 v1)))))
      have r1 : Z.cell? ⟨w.heap.size + 1 + 1, 1, none⟩ = some (.slice ab ls.length ad) := by rw [← hZ]; exact st_hit _ (st_off _ (.inl (by decide)) (st_off _ (.inr (by omega)) (st_off _ (.inr (by omega)) (st_off _ (.inr (by omega)) (e1 v1)))))
      have hWZ : Below w.heap.size w Z := by
        rw [← hZ]
        iterate 5 (refine b_set ?_ (by omega) _)
        exact WX.out v1
      have hs0 : w.heap.size + 1 + 1 < u0.w.heap.size := ze u0
      have hNZ : NetIs (fun g => ok g ∨ w.heap.size ≤ g) Z (.agg #[.slice qb nn qd, .slice ab ls.length ad]) (ps.take j ++ ps.drop (j + 1)) ls := by
        rw [← hZ]
        refine NetIs.mono (ok := fun g => (ok g ∧ g < w.heap.size) ∨ u0.w.heap.size ≤ g) ?_ (fun g h => h.elim (fun h => .inl h.1) (fun h => .inr (by omega)))
        iterate 5 (refine NetIs.set ?_ (by omega) _)
        exact HN.out
      have HNZ := hid hNZ
      clear hZ hNZ
      go_wp2_with fail
      refine bodyPost_ret (v := .tuple #[.agg #[.int .i64 ps[j].fr, .int .i64 ps[j].to, .slice ps[j].da ps[j].dn ps[j].dc], .agg #[.slice qb nn qd, .slice ab ls.length ad], .int .i64 0]) (by simp [results, Try.results22, go_sem, q0, q1, q2, r0, r1]) rfl ⟨_, by rw [Hk.out, HD.out]; rfl, ?_, hWZ⟩
      rw [show leftQ ps ls j = ps.take j ++ ps.drop (j + 1) by simp [leftQ, Hk.out], show leftL ps ls j = ls by simp [leftL, Hk.out]]
      exact HNZ.out
    · have HD := hid (show delP ps ls j = Pk.zero by simp [delP, Hk.out, atP, hlt', cutIn, -List.contains_eq_mem, hct])
      go_upto_region 7 with fail
      obtain ⟨Y, hY⟩ : ∃ Y, Y = (((u5.w.setCell ⟨u1.w.heap.size, 0, none⟩ (.int .i64 0)).setCell ⟨u1.w.heap.size, 1, none⟩ (.int .i64 0)).setCell ⟨u1.w.heap.size, 2, none⟩ (.slice none 0 0)) := ⟨_, rfl⟩
      replace c0 : ∀ v : After Y, v.w.cell? ⟨w.heap.size, 0, none⟩ = some (.slice (some ⟨b, off, none⟩) ps.length qc) := after_cell (by rw [hY]; simpa using cell_lt (c0 u5)) (by rw [hY]; exact (st_off _ (by first | (left; decide) | (right; omega) | (right; simp; omega)) (st_off _ (by first | (left; decide) | (right; omega) | (right; simp; omega)) (st_off _ (by first | (left; decide) | (right; omega) | (right; simp; omega)) (c0 u5)))))
      replace fc0 : ∀ v : After Y, v.w.frozen? ⟨w.heap.size, 0, none⟩ = false := after_frozen (by rw [hY]; simpa using zc u5) (by rw [hY]; exact (sf _ (sf _ (sf _ (fc0 u5)))))
      replace c1 : ∀ v : After Y, v.w.cell? ⟨w.heap.size, 1, none⟩ = some (.slice aa ls.length ac) := after_cell (by rw [hY]; simpa using cell_lt (c1 u5)) (by rw [hY]; exact (st_off _ (by first | (left; decide) | (right; omega) | (right; simp; omega)) (st_off _ (by first | (left; decide) | (right; omega) | (right; simp; omega)) (st_off _ (by first | (left; decide) | (right; omega) | (right; simp; omega)) (c1 u5)))))
      replace fc1 : ∀ v : After Y, v.w.frozen? ⟨w.heap.size, 1, none⟩ = false := after_frozen (by rw [hY]; simpa using zc u5) (by rw [hY]; exact (sf _ (sf _ (sf _ (fc1 u5)))))
      replace p0 : ∀ v : After Y, v.w.cell? ⟨w.heap.size + 1, 0, none⟩ = some (.int .i64 0) := after_cell (by rw [hY]; simpa using cell_lt (p0 u5)) (by rw [hY]; exact (st_off _ (by first | (left; decide) | (right; omega) | (right; simp; omega)) (st_off _ (by first | (left; decide) | (right; omega) | (right; simp; omega)) (st_off _ (by first | (left; decide) | (right; omega) | (right; simp; omega)) (p0 u5)))))
      replace fp0 : ∀ v : After Y, v.w.frozen? ⟨w.heap.size + 1, 0, none⟩ = false := after_frozen (by rw [hY]; simpa using zp u5) (by rw [hY]; exact (sf _ (sf _ (sf _ (fp0 u5)))))
      replace p1 : ∀ v : After Y, v.w.cell? ⟨w.heap.size + 1, 1, none⟩ = some (.int .i64 0) := after_cell (by rw [hY]; simpa using cell_lt (p1 u5)) (by rw [hY]; exact (st_off _ (by first | (left; decide) | (right; omega) | (right; simp; omega)) (st_off _ (by first | (left; decide) | (right; omega) | (right; simp; omega)) (st_off _ (by first | (left; decide) | (right; omega) | (right; simp; omega)) (p1 u5)))))
      replace fp1 : ∀ v : After Y, v.w.frozen? ⟨w.heap.size + 1, 1, none⟩ = false := after_frozen (by rw [hY]; simpa using zp u5) (by rw [hY]; exact (sf _ (sf _ (sf _ (fp1 u5)))))
      replace p2 : ∀ v : After Y, v.w.cell? ⟨w.heap.size + 1, 2, none⟩ = some (.slice none 0 0) := after_cell (by rw [hY]; simpa using cell_lt (p2 u5)) (by rw [hY]; exact (st_off _ (by first | (left; decide) | (right; omega) | (right; simp; omega)) (st_off _ (by first | (left; decide) | (right; omega) | (right; simp; omega)) (st_off _ (by first | (left; decide) | (right; omega) | (right; simp; omega)) (p2 u5)))))
      replace fp2 : ∀ v : After Y, v.w.frozen? ⟨w.heap.size + 1, 2, none⟩ = false := after_frozen (by rw [hY]; simpa using zp u5) (by rw [hY]; exact (sf _ (sf _ (sf _ (fp2 u5)))))
      replace e0 : ∀ v : After Y, v.w.cell? ⟨w.heap.size + 1 + 1, 0, none⟩ = some (.slice none 0 0) := after_cell (by rw [hY]; simpa using cell_lt (e0 u5)) (by rw [hY]; exact (st_off _ (by first | (left; decide) | (right; omega) | (right; simp; omega)) (st_off _ (by first | (left; decide) | (right; omega) | (right; simp; omega)) (st_off _ (by first | (left; decide) | (right; omega) | (right; simp; omega)) (e0 u5)))))
      replace fe0 : ∀ v : After Y, v.w.frozen? ⟨w.heap.size + 1 + 1, 0, none⟩ = false := after_frozen (by rw [hY]; simpa using ze u5) (by rw [hY]; exact (sf _ (sf _ (sf _ (fe0 u5)))))
      replace e1 : ∀ v : After Y, v.w.cell? ⟨w.heap.size + 1 + 1, 1, none⟩ = some (.slice none 0 0) := after_cell (by rw [hY]; simpa using cell_lt (e1 u5)) (by rw [hY]; exact (st_off _ (by first | (left; decide) | (right; omega) | (right; simp; omega)) (st_off _ (by first | (left; decide) | (right; omega) | (right; simp; omega)) (st_off _ (by first | (left; decide) | (right; omega) | (right; simp; omega)) (e1 u5)))))
      replace fe1 : ∀ v : After Y, v.w.frozen? ⟨w.heap.size + 1 + 1, 1, none⟩ = false := after_frozen (by rw [hY]; simpa using ze u5) (by rw [hY]; exact (sf _ (sf _ (sf _ (fe1 u5)))))
      replace d0 : ∀ v : After Y, v.w.cell? ⟨u1.w.heap.size, 0, none⟩ = some (.int .i64 0) := after_cell (by rw [hY]; simpa using cell_lt (d0 u5)) (by rw [hY]; exact (st_off _ (.inl (by decide)) (st_off _ (.inl (by decide)) (st_hit _ (d0 u5)))))
      replace fd0 : ∀ v : After Y, v.w.frozen? ⟨u1.w.heap.size, 0, none⟩ = false := after_frozen (by rw [hY]; simpa using zd u5) (by rw [hY]; exact (sf _ (sf _ (sf _ (fd0 u5)))))
      replace d1 : ∀ v : After Y, v.w.cell? ⟨u1.w.heap.size, 1, none⟩ = some (.int .i64 0) := after_cell (by rw [hY]; simpa using cell_lt (d1 u5)) (by rw [hY]; exact (st_off _ (.inl (by decide)) (st_hit _ (st_off _ (.inl (by decide)) (d1 u5)))))
      replace fd1 : ∀ v : After Y, v.w.frozen? ⟨u1.w.heap.size, 1, none⟩ = false := after_frozen (by rw [hY]; simpa using zd u5) (by rw [hY]; exact (sf _ (sf _ (sf _ (fd1 u5)))))
      replace d2 : ∀ v : After Y, v.w.cell? ⟨u1.w.heap.size, 2, none⟩ = some (.slice none 0 0) := after_cell (by rw [hY]; simpa using cell_lt (d2 u5)) (by rw [hY]; exact (st_hit _ (st_off _ (.inl (by decide)) (st_off _ (.inl (by decide)) (d2 u5)))))
      replace fd2 : ∀ v : After Y, v.w.frozen? ⟨u1.w.heap.size, 2, none⟩ = false := after_frozen (by rw [hY]; simpa using zd u5) (by rw [hY]; exact (sf _ (sf _ (sf _ (fd2 u5)))))
      replace zc : ∀ v : After Y, w.heap.size < v.w.heap.size := after_size (by rw [hY]; simpa using zc u5)
      replace zp : ∀ v : After Y, w.heap.size + 1 < v.w.heap.size := after_size (by rw [hY]; simpa using zp u5)
      replace ze : ∀ v : After Y, w.heap.size + 1 + 1 < v.w.heap.size := after_size (by rw [hY]; simpa using ze u5)
      replace zd : ∀ v : After Y, u1.w.heap.size < v.w.heap.size := after_size (by rw [hY]; simpa using zd u5)
      have hwY : Below w.heap.size w Y := by rw [hY]; exact (b_set (b_set (b_set (WX.out u5) (by omega) _) (by omega) _) (by omega) _)
      have WY := hid (after_below hwY)
      rw [← hY]
      obtain ⟨y, hu⟩ : ∃ u : After Y, u.w = Y := ⟨After.here Y, rfl⟩
      rw [← hu]
      have HY := hid hY
      clear hu hY
      refine region_split 4 (by kernel_rfl) (by kernel_rfl) rfl ?_
      intro u0
      simp only [List.take_succ_cons, List.take_zero]
      refine h_take 0 (x := ?_) rfl (by kernel_rfl) (by kernel_rfl) (by kernel_rfl) (fun _ _ _ h => h) (by rfl) (fun v => ?_) ?_
      rotate_left
      · (go_simp; try with_reducible rfl)
      try simp only [Act.put, List.setIfInBounds_toArray, List.set_cons_zero, List.set_cons_succ]
      refine h_take 1 (x := ?_) rfl (by kernel_rfl) (by kernel_rfl) (by kernel_rfl) (fun _ _ _ h => h) (by rfl) (fun v => ?_) ?_
      rotate_left
      · (go_simp; try with_reducible rfl)
      try simp only [Act.put, List.setIfInBounds_toArray, List.set_cons_zero, List.set_cons_succ]
      refine h_take 2 (x := ?_) rfl (by kernel_rfl) (by kernel_rfl) (by kernel_rfl) (fun _ _ _ h => h) (by rfl) (fun v => ?_) ?_
      rotate_left
      · (go_simp; try with_reducible rfl)
      try simp only [Act.put, List.setIfInBounds_toArray, List.set_cons_zero, List.set_cons_succ]
      refine h_step 3 (by kernel_rfl) rfl (fun K hK => ?_)
      go_simp
      (refine (rwithout_any _ ps ls j (.agg #[.slice (some ⟨b, off, none⟩) ps.length qc, .slice aa ls.length ac]) _ hp hlt (HV.out.below (WY.out u0))).mono ?_)
      rintro e w7 ⟨v', rfl, hn, hB7⟩
      obtain ⟨qb, ab, qd, ad, rfl⟩ := hn.form
      generalize hlen : (ps.take j ++ ps.drop (j + 1)).length = nn at hn ⊢
      have HL := hid hlen; clear hlen
      have HN := hid hn; clear hn
      obtain ⟨v1, rfl⟩ : ∃ v1 : After Y, w7 = v1.w := ⟨u0.on hB7, rfl⟩
      have hs7 := hB7.size
      clear hB7
      go_simp
      refine hK _ v1 ?_
      clear hK K
      try simp only [Act.put, List.setIfInBounds_toArray, List.set_cons_zero, List.set_cons_succ]
      refine tail_go (by kernel_rfl) ?_
      refine tail_in ?_
      refine t_step 4 (by kernel_rfl) rfl (fun K hK => ?_)
      go_simp
      refine hK _ _ ?_
      clear hK K
      try simp only [Act.put, List.setIfInBounds_toArray, List.set_cons_zero, List.set_cons_succ]
      refine t_step 5 (by kernel_rfl) rfl (fun K hK => ?_)
      go_simp
      refine hK _ _ ?_
      clear hK K
      try simp only [Act.put, List.setIfInBounds_toArray, List.set_cons_zero, List.set_cons_succ]
      refine t_take 6 (x := ?_) rfl (by kernel_rfl) (by kernel_rfl) (by kernel_rfl) (fun _ _ _ h => h) (by rfl) (fun w => ?_) ?_
      rotate_left
      · (go_simp; try with_reducible rfl)
      try simp only [Act.put, List.setIfInBounds_toArray, List.set_cons_zero, List.set_cons_succ]
      refine wpAnyH_done (by kernel_rfl) ?_ _
      refine NoPanic.normal ?_
      generalize hZ : World.setCell _ _ _ = Z
      have q0 : Z.cell? ⟨w.heap.size + 1, 0, none⟩ = some (.int .i64 0) := by rw [← hZ]; exact st_off _ (.inr (by omega)) (st_off _ (.inr (by omega)) (st_off _ (.inl (by decide)) (st_off _ (.inl (by decide)) (st_hit _ (p0 v1)))))
      have q1 : Z.cell? ⟨w.heap.size + 1, 1, none⟩ = some (.int .i64 0) := by rw [← hZ]; exact st_off _ (.inr (by omega)) (st_off _ (.inr (by omega)) (st_off _ (.inl (by decide)) (st_hit _ (st_off _ (.inl (by decide)) (p1 v1)))))
      have q2 : Z.cell? ⟨w.heap.size + 1, 2, none⟩ = some (.slice none 0 0) := by rw [← hZ]; exact st_off _ (.inr (by omega)) (st_off _ (.inr (by omega)) (st_hit _ (st_off _ (.inl (by decide)) (st_off _ (.inl (by decide)) (p2 v1)))))
      have r0 : Z.cell? ⟨w.heap.size + 1 + 1, 0, none⟩ = some (.slice qb nn qd) := by rw [← hZ]; exact st_off _ (.inl (by decide)) (st_hit _ (st_off _ (.inr (by omega)) (st_off _ (.inr (by omega)) (st_off _ (.inr (by omega)) (e0 v1)))))
      have r1 : Z.cell? ⟨w.heap.size + 1 + 1, 1, none⟩ = some (.slice ab ls.length ad) := by rw [← hZ]; exact st_hit _ (st_off _ (.inl (by decide)) (st_off _ (.inr (by omega)) (st_off _ (.inr (by omega)) (st_off _ (.inr (by omega)) (e1 v1)))))
      have hWZ : Below w.heap.size w Z := by
        rw [← hZ]
        iterate 5 (refine b_set ?_ (by omega) _)
        exact WY.out v1
      have hs0 : w.heap.size + 1 + 1 < u0.w.heap.size := ze u0
      have hNZ : NetIs (fun g => ok g ∨ w.heap.size ≤ g) Z (.agg #[.slice qb nn qd, .slice ab ls.length ad]) (ps.take j ++ ps.drop (j + 1)) ls := by
        rw [← hZ]
        refine NetIs.mono (ok := fun g => (ok g ∧ g < w.heap.size) ∨ u0.w.heap.size ≤ g) ?_ (fun g h => h.elim (fun h => .inl h.1) (fun h => .inr (by omega)))
        iterate 5 (refine NetIs.set ?_ (by omega) _)
        exact HN.out
      have HNZ := hid hNZ
      clear hZ hNZ
      go_wp2_with fail
      refine bodyPost_ret (v := .tuple #[.agg #[.int .i64 0, .int .i64 0, .slice none 0 0], .agg #[.slice qb nn qd, .slice ab ls.length ad], .int .i64 0]) (by simp [results, Try.results22, go_sem, q0, q1, q2, r0, r1]) rfl ⟨_, by rw [Hk.out, HD.out]; rfl, ?_, hWZ⟩
      rw [show leftQ ps ls j = ps.take j ++ ps.drop (j + 1) by simp [leftQ, Hk.out], show leftL ps ls j = ls by simp [leftL, Hk.out]]
      exact HNZ.out
  · have Hk := hid hk
    have hb : (ask ps ls i == 0) = false := beq_eq_false_iff_ne.2 hk
    have HD := hid (show delP ps ls i = Pk.zero by simp [delP, hk])
    clear hk
    go_wp2_with fail
    generalize hZ : World.setCell _ _ _ = Z
    have q0 : Z.cell? ⟨w.heap.size + 1, 0, none⟩ = some (.int .i64 0) := by rw [← hZ]; exact st_off _ (.inr (by omega)) (st_off _ (.inr (by omega)) (st_off _ (.inl (by decide)) (st_off _ (.inl (by decide)) (st_hit _ (p0 u1)))))
    have q1 : Z.cell? ⟨w.heap.size + 1, 1, none⟩ = some (.int .i64 0) := by rw [← hZ]; exact st_off _ (.inr (by omega)) (st_off _ (.inr (by omega)) (st_off _ (.inl (by decide)) (st_hit _ (st_off _ (.inl (by decide)) (p1 u1)))))
    have q2 : Z.cell? ⟨w.heap.size + 1, 2, none⟩ = some (.slice none 0 0) := by rw [← hZ]; exact st_off _ (.inr (by omega)) (st_off _ (.inr (by omega)) (st_hit _ (st_off _ (.inl (by decide)) (st_off _ (.inl (by decide)) (p2 u1)))))
    have r0 : Z.cell? ⟨w.heap.size + 1 + 1, 0, none⟩ = some (.slice none 0 0) := by rw [← hZ]; exact st_off _ (.inl (by decide)) (st_hit _ (st_off _ (.inr (by omega)) (st_off _ (.inr (by omega)) (st_off _ (.inr (by omega)) (e0 u1)))))
    have r1 : Z.cell? ⟨w.heap.size + 1 + 1, 1, none⟩ = some (.slice none 0 0) := by rw [← hZ]; exact st_hit _ (st_off _ (.inl (by decide)) (st_off _ (.inr (by omega)) (st_off _ (.inr (by omega)) (st_off _ (.inr (by omega)) (e1 u1)))))
    have hWZ : Below w.heap.size w Z := by
      rw [← hZ]
      iterate 5 (refine b_set ?_ (by omega) _)
      exact WV.out u1
    clear hZ
    refine bodyPost_ret (v := .tuple #[.agg #[.int .i64 0, .int .i64 0, .slice none 0 0], .agg #[.slice none 0 0, .slice none 0 0], .int .i64 (ask ps ls i)]) (by simp [results, Try.results22, go_sem, q0, q1, q2, r0, r1]) rfl ⟨_, by rw [HD.out]; rfl, ?_, hWZ⟩
    rw [show leftQ ps ls i = [] by simp [leftQ, Hk.out], show leftL ps ls i = [] by simp [leftL, Hk.out]]
    exact NetIs.zero _ _
end Go.Proofs.Ytmikhkmdcpgkfaa
