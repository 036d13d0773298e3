/- Links in memory; Send. -/
import Derived.Test.YtmikhkmdcpgkfaaE
import Derived.Test.YtmikhkmdcpgkfaaS
import Derived.Deep.RegionLawGrows
import Derived.Deep.AppendLies
import Derived.Deep.DeepCutAuto
namespace Go.Proofs.Ytmikhkmdcpgkfaa
open Go.RowKit
open Go.Lib (hid)

/-- A slice value's form: its address, length and capacity fit. -/
def Fits (a : Option Addr) (n c : Nat) : Prop := n ≤ c ∧ (a = none → n = 0 ∧ c = 0)
/-- A row that holds something lies in a block that ok allows. -/
def Sits (ok : Nat → Prop) (a : Option Addr) (xs : List Value) : Prop := xs = [] ∨ ∀ b off f, a = some ⟨b, off, f⟩ → ok b
theorem Sits.mono {ok ok' : Nat → Prop} {a : Option Addr} {xs : List Value} (h : Sits ok a xs) (hk : ∀ b, ok b → ok' b) : Sits ok' a xs := h.imp id fun h b off f e => hk b (h b off f e)
theorem Rd.setOff {ok : Nat → Prop} {w : World} {a : Option Addr} {xs : List Value} (h : Rd w a xs) (hs : Sits ok a xs) {b o : Nat} (hb : ¬ ok b) (u : Value) : Rd (w.setCell ⟨b, o, none⟩ u) a xs := by
  rcases hs with hs | hs
  · exact .inl hs
  · exact h.set (fun g off e hbg => hb (by rw [hbg]; exact hs g off none e)) u
/-- The value v is a net: packets ps, cuts ls, its rows in blocks that ok allows. -/
def NetIs (ok : Nat → Prop) (w : World) (v : Value) (ps : List Pk) (ls : List (Int × Int)) : Prop :=
  ∃ qa aa qc ac, v = netV ps ls qa aa qc ac ∧ Rd w qa (ps.flatMap Pk.c) ∧ Rd w aa (ls.flatMap lkc) ∧ Fits qa ps.length qc ∧ Fits aa ls.length ac ∧ Sits ok qa (ps.flatMap Pk.c) ∧ Sits ok aa (ls.flatMap lkc)
theorem NetIs.zero (ok : Nat → Prop) (w : World) : NetIs ok w (.agg #[.slice none 0 0, .slice none 0 0]) [] [] := ⟨none, none, 0, 0, rfl, Rd.nil, Rd.nil, ⟨Nat.le_refl _, fun _ => ⟨rfl, rfl⟩⟩, ⟨Nat.le_refl _, fun _ => ⟨rfl, rfl⟩⟩, .inl rfl, .inl rfl⟩
theorem NetIs.below {ok : Nat → Prop} {w w' : World} {v : Value} {ps : List Pk} {ls : List (Int × Int)} (h : NetIs ok w v ps ls) (hB : Below w.heap.size w w') : NetIs ok w' v ps ls := by
  obtain ⟨qa, aa, qc, ac, hv, hq, ha, h⟩ := h
  exact ⟨qa, aa, qc, ac, hv, hq.below hB, ha.below hB, h⟩
theorem NetIs.mono {ok ok' : Nat → Prop} {w : World} {v : Value} {ps : List Pk} {ls : List (Int × Int)} (h : NetIs ok w v ps ls) (hk : ∀ b, ok b → ok' b) : NetIs ok' w v ps ls := by
  obtain ⟨qa, aa, qc, ac, hv, hq, ha, h1, h2, h3, h4⟩ := h
  exact ⟨qa, aa, qc, ac, hv, hq, ha, h1, h2, h3.mono hk, h4.mono hk⟩
theorem NetIs.set {ok : Nat → Prop} {w : World} {v : Value} {ps : List Pk} {ls : List (Int × Int)} (h : NetIs ok w v ps ls) {b o : Nat} (hb : ¬ ok b) (u : Value) : NetIs ok (w.setCell ⟨b, o, none⟩ u) v ps ls := by
  obtain ⟨qa, aa, qc, ac, hv, hq, ha, h1, h2, h3, h4⟩ := h
  exact ⟨qa, aa, qc, ac, hv, hq.setOff h3 hb u, ha.setOff h4 hb u, h1, h2, h3, h4⟩
/-- Whatever net there is lies in blocks that are there. -/
theorem NetIs.here {ok : Nat → Prop} {w : World} {v : Value} {ps : List Pk} {ls : List (Int × Int)} (h : NetIs ok w v ps ls) : NetIs (fun g => ok g ∧ g < w.heap.size) w v ps ls := by
  obtain ⟨qa, aa, qc, ac, hv, hq, ha, h1, h2, h3, h4⟩ := h
  refine ⟨qa, aa, qc, ac, hv, hq, ha, h1, h2, ?_, ?_⟩
  · rcases h3 with h3 | h3
    · exact .inl h3
    · rcases hq with e | ⟨g, off, ha', hg, _⟩
      · exact .inl e
      · exact .inr fun b off' f e => ⟨h3 b off' f e, by rw [e] at ha'; cases ha'; exact hg⟩
  · rcases h4 with h4 | h4
    · exact .inl h4
    · rcases ha with e | ⟨g, off, ha', hg, _⟩
      · exact .inl e
      · exact .inr fun b off' f e => ⟨h4 b off' f e, by rw [e] at ha'; cases ha'; exact hg⟩
theorem Check_net {ok : Nat → Prop} {w : World} {v : Value} {ps : List Pk} {ls : List (Int × Int)} (h : NetIs ok w v ps ls) (hp : ps.length ≤ 1000) (hl : ls.length ≤ 1000) :
    Calls Try.prog 13 #[v] w fun e w' => e = .returned (.int .i64 (chk ps ls)) ∧ Below w.heap.size w w' := by
  obtain ⟨qa, aa, qc, ac, rfl, hq, ha, _⟩ := h
  exact Check_any ps ls qa aa qc ac w hp hl hq ha

theorem own_le {w : World} {base : Nat} {e : TypeId} {size n c : Nat} {a : Option Addr} {xs : List Value} (h : w.ownsRow base e size (.slice a n c) n xs) : n ≤ c := by
  obtain ⟨hl, h2⟩ := h
  rcases h2 with ⟨hv, hn⟩ | ⟨g, cap, cur, hv, hg, hh, hn, hm, hs, ht⟩
  · omega
  · simp only [Value.slice.injEq] at hv
    omega

theorem Pk.one (p : Pk) : ∀ u ∈ p.c, u.oneCell' = true := by
  intro u hu
  simp [Pk.c] at hu
  rcases hu with rfl | rfl | rfl <;> rfl

theorem und22 : Try.prog.underlying 22 = some (.slice 28) := by kernel_rfl
theorem info28 : (Try.prog.info? 28).map (fun i => (i.zero, i.size, i.bytes)) = some (some (.agg #[.int .i64 0, .int .i64 0, .slice none 0 0]), 3, 40) := by kernel_rfl

theorem chk_60 {ps : List Pk} {ls : List (Int × Int)} (h : ¬ chk ps ls = 0) : chk ps ls = 60 := by
  unfold chk at h ⊢
  split at h <;> simp_all
/-- What Send answers. -/
def SendTo (ok : Nat → Prop) (ps : List Pk) (ls : List (Int × Int)) (p : Pk) (w w' : World) (e : Ending) : Prop :=
  ∃ x, (∃ v, e = .returned (.tuple #[v, .int .i64 x]) ∧ (if chk ps ls = 0 ∧ pkOk p = true then x = 0 ∧ NetIs (fun g => ok g ∨ w.heap.size ≤ g) w' v (ps ++ [p]) ls else x = 60 ∧ NetIs (fun g => ok g ∨ w.heap.size ≤ g) w' v [] [])) ∧ Below w.heap.size w w'

set_option maxHeartbeats 4000000 in
theorem Send_any (ok : Nat → Prop) (ps : List Pk) (ls : List (Int × Int)) (p : Pk) (v : Value) (w : World) (hp : ps.length ≤ 1000) (hl : ls.length ≤ 1000) (hv : NetIs ok w v ps ls) :
    Calls Try.prog 11 #[v, p.v] w fun e w' => SendTo ok ps ls p w w' e := by
  obtain ⟨qa, aa, qc, ac, rfl, hq, ha, ⟨hqc, hqn⟩, hfa, hsq, hsa⟩ := hv
  have HSA := hid hsa; clear hsa hsq
  have HQ := hid hq; clear hq
  have HA := hid ha; clear ha
  have HF := hid hfa; clear hfa
  rw [show netV ps ls qa aa qc ac = .agg #[.slice qa ps.length qc, .slice aa ls.length ac] from rfl, show p.v = .agg #[.int .i64 p.fr, .int .i64 p.to, .slice p.da p.dn p.dc] from rfl]
  obtain ⟨i0, hi, hz0, hz1, hz2⟩ := info_parts info28
  go_enter Try.func11, Try.ntmps11
  go_wp2_with fail
  obtain ⟨V, hV⟩ : ∃ V, V = (((w.alloc (.cells #[.slice qa ps.length qc, .slice aa ls.length ac] 25)).alloc (.cells #[.int .i64 p.fr, .int .i64 p.to, .slice p.da p.dn p.dc] 28)).alloc (.cells #[.slice none 0 0, .slice none 0 0] 25)) := ⟨_, rfl⟩
  have c0 : ∀ v : After V, v.w.cell? ⟨w.heap.size, 0, none⟩ = some (.slice qa ps.length qc) := after_cell (by rw [hV]; first | (simp; done) | omega | (simp; omega)) (by rw [hV]; (repeat (first | with_reducible assumption | exact bn (by first | (simp; done) | omega | (simp; omega)) rfl | refine bo (by first | (simp; done) | omega | (simp; omega)) ?_)))
  have fc0 : ∀ v : After V, v.w.frozen? ⟨w.heap.size, 0, none⟩ = false := after_frozen (by rw [hV]; first | (simp; done) | omega | (simp; omega)) (by rw [hV]; (repeat (first | exact fn (by first | (simp; done) | omega | (simp; omega)) | refine fo (by first | (simp; done) | omega | (simp; omega)) ?_)))
  have c1 : ∀ v : After V, v.w.cell? ⟨w.heap.size, 1, none⟩ = some (.slice aa ls.length ac) := after_cell (by rw [hV]; first | (simp; done) | omega | (simp; omega)) (by rw [hV]; (repeat (first | with_reducible assumption | exact bn (by first | (simp; done) | omega | (simp; omega)) rfl | refine bo (by first | (simp; done) | omega | (simp; omega)) ?_)))
  have fc1 : ∀ v : After V, v.w.frozen? ⟨w.heap.size, 1, none⟩ = false := after_frozen (by rw [hV]; first | (simp; done) | omega | (simp; omega)) (by rw [hV]; (repeat (first | exact fn (by first | (simp; done) | omega | (simp; omega)) | refine fo (by first | (simp; done) | omega | (simp; omega)) ?_)))
  have zc : ∀ v : After V, w.heap.size < v.w.heap.size := after_size (by rw [hV]; first | (simp; done) | omega | (simp; omega))
  have p0 : ∀ v : After V, v.w.cell? ⟨w.heap.size + 1, 0, none⟩ = some (.int .i64 p.fr) := after_cell (by rw [hV]; first | (simp; done) | omega | (simp; omega)) (by rw [hV]; (repeat (first | with_reducible assumption | exact bn (by first | (simp; done) | omega | (simp; omega)) rfl | refine bo (by first | (simp; done) | omega | (simp; omega)) ?_)))
  have fp0 : ∀ v : After V, v.w.frozen? ⟨w.heap.size + 1, 0, none⟩ = false := after_frozen (by rw [hV]; first | (simp; done) | omega | (simp; omega)) (by rw [hV]; (repeat (first | exact fn (by first | (simp; done) | omega | (simp; omega)) | refine fo (by first | (simp; done) | omega | (simp; omega)) ?_)))
  have p1 : ∀ v : After V, v.w.cell? ⟨w.heap.size + 1, 1, none⟩ = some (.int .i64 p.to) := after_cell (by rw [hV]; first | (simp; done) | omega | (simp; omega)) (by rw [hV]; (repeat (first | with_reducible assumption | exact bn (by first | (simp; done) | omega | (simp; omega)) rfl | refine bo (by first | (simp; done) | omega | (simp; omega)) ?_)))
  have fp1 : ∀ v : After V, v.w.frozen? ⟨w.heap.size + 1, 1, none⟩ = false := after_frozen (by rw [hV]; first | (simp; done) | omega | (simp; omega)) (by rw [hV]; (repeat (first | exact fn (by first | (simp; done) | omega | (simp; omega)) | refine fo (by first | (simp; done) | omega | (simp; omega)) ?_)))
  have p2 : ∀ v : After V, v.w.cell? ⟨w.heap.size + 1, 2, none⟩ = some (.slice p.da p.dn p.dc) := after_cell (by rw [hV]; first | (simp; done) | omega | (simp; omega)) (by rw [hV]; (repeat (first | with_reducible assumption | exact bn (by first | (simp; done) | omega | (simp; omega)) rfl | refine bo (by first | (simp; done) | omega | (simp; omega)) ?_)))
  have fp2 : ∀ v : After V, v.w.frozen? ⟨w.heap.size + 1, 2, none⟩ = false := after_frozen (by rw [hV]; first | (simp; done) | omega | (simp; omega)) (by rw [hV]; (repeat (first | exact fn (by first | (simp; done) | omega | (simp; omega)) | refine fo (by first | (simp; done) | omega | (simp; omega)) ?_)))
  have zp : ∀ v : After V, w.heap.size + 1 < v.w.heap.size := after_size (by rw [hV]; first | (simp; done) | omega | (simp; omega))
  have e0 : ∀ v : After V, v.w.cell? ⟨w.heap.size + 1 + 1, 0, none⟩ = some (.slice none 0 0) := after_cell (by rw [hV]; first | (simp; done) | omega | (simp; omega)) (by rw [hV]; (repeat (first | with_reducible assumption | exact bn (by first | (simp; done) | omega | (simp; omega)) rfl | refine bo (by first | (simp; done) | omega | (simp; omega)) ?_)))
  have fe0 : ∀ v : After V, v.w.frozen? ⟨w.heap.size + 1 + 1, 0, none⟩ = false := after_frozen (by rw [hV]; first | (simp; done) | omega | (simp; omega)) (by rw [hV]; (repeat (first | exact fn (by first | (simp; done) | omega | (simp; omega)) | refine fo (by first | (simp; done) | omega | (simp; omega)) ?_)))
  have e1 : ∀ v : After V, v.w.cell? ⟨w.heap.size + 1 + 1, 1, none⟩ = some (.slice none 0 0) := after_cell (by rw [hV]; first | (simp; done) | omega | (simp; omega)) (by rw [hV]; (repeat (first | with_reducible assumption | exact bn (by first | (simp; done) | omega | (simp; omega)) rfl | refine bo (by first | (simp; done) | omega | (simp; omega)) ?_)))
  have fe1 : ∀ v : After V, v.w.frozen? ⟨w.heap.size + 1 + 1, 1, none⟩ = false := after_frozen (by rw [hV]; first | (simp; done) | omega | (simp; omega)) (by rw [hV]; (repeat (first | exact fn (by first | (simp; done) | omega | (simp; omega)) | refine fo (by first | (simp; done) | omega | (simp; omega)) ?_)))
  have ze : ∀ v : After V, w.heap.size + 1 + 1 < v.w.heap.size := after_size (by rw [hV]; first | (simp; done) | omega | (simp; omega))
  have hwV : Below w.heap.size w V := by rw [hV]; exact (by repeat (first | exact Below.refl _ _ | assumption | refine b_then ?_ (by assumption) | refine b_alloc ?_ _ | refine b_drewN ?_ _ | refine b_drew ?_ | refine b_set ?_ (by omega) _ | refine b_set ?_ (by simp) _))
  have WV := hid (after_below hwV)
  rw [← hV]
  obtain ⟨u0, hu⟩ : ∃ u : After V, u.w = V := ⟨After.here V, rfl⟩
  rw [← hu]
  clear hu hV
  refine (met (Check_any ps ls qa aa qc ac _ hp hl (HQ.out.below (WV.out u0)) (HA.out.below (WV.out u0)))).mono ?_
  rintro e _ ⟨rfl, u1, rfl⟩
  by_cases hc : chk ps ls = 0
  · rw [hc]
    have Hc := hid hc; clear hc
    go_wp2_with fail
    refine (met (packet_any p _)).mono ?_
    rintro e _ ⟨rfl, u2, rfl⟩
    rcases hpk : pkOk p with _ | _
    · have r0 := two0 (e0 u2)
      have r1 := two1 (e1 u2)
      have hW2 := WV.out u2
      go_wp2_with fail
      refine bodyPost_ret (v := .tuple #[.agg #[.slice none 0 0, .slice none 0 0], .int .i64 60]) (by simp [results, Try.results11, go_sem, r0, r1]) rfl ⟨_, ⟨_, rfl, ?_⟩, (by repeat (first | exact Below.refl _ _ | assumption | refine b_then ?_ (by assumption) | refine b_alloc ?_ _ | refine b_drewN ?_ _ | refine b_drew ?_ | refine b_set ?_ (by omega) _ | refine b_set ?_ (by simp) _))⟩
      rw [if_neg (by simp [hpk])]
      exact ⟨rfl, NetIs.zero _ _⟩
    · go_upto_region 5 with fail
      rcases qa with _ | ad
      · obtain ⟨hq0, rfl⟩ := hqn rfl
        obtain rfl : ps = [] := List.eq_nil_of_length_eq_zero hq0
        refine region_split 12 (by kernel_rfl) (by kernel_rfl) rfl ?_
        intro u0
        simp only [List.take_succ_cons, List.take_zero]
        refine h_take 0 (x := ?_) rfl (by kernel_rfl) (by kernel_rfl) (by kernel_rfl) (fun _ _ _ h => h) (by rfl) (fun v => ?_) ?_
        rotate_left
        · (go_simp; try with_reducible rfl)
        try simp only [Act.put, List.setIfInBounds_toArray, List.set_cons_zero, List.set_cons_succ]
        refine h_take 1 (x := ?_) rfl (by kernel_rfl) (by kernel_rfl) (by kernel_rfl) (fun _ _ _ h => h) (by rfl) (fun v => ?_) ?_
        rotate_left
        · (go_simp; try with_reducible rfl)
        try simp only [Act.put, List.setIfInBounds_toArray, List.set_cons_zero, List.set_cons_succ]
        refine h_take 2 (x := ?_) rfl (by kernel_rfl) (by kernel_rfl) (by kernel_rfl) (fun _ _ _ h => h) (by rfl) (fun v => ?_) ?_
        rotate_left
        · (go_simp; try with_reducible rfl)
        try simp only [Act.put, List.setIfInBounds_toArray, List.set_cons_zero, List.set_cons_succ]
        refine h_take 3 (x := ?_) rfl (by kernel_rfl) (by kernel_rfl) (by kernel_rfl) (fun _ _ _ h => h) (by rfl) (fun v => ?_) ?_
        rotate_left
        · (go_simp; try with_reducible rfl)
        try simp only [Act.put, List.setIfInBounds_toArray, List.set_cons_zero, List.set_cons_succ]
        refine h_take 4 (x := ?_) rfl (by kernel_rfl) (by kernel_rfl) (by kernel_rfl) (fun _ _ _ h => h) (by rfl) (fun v => ?_) ?_
        rotate_left
        · (go_simp; try with_reducible rfl)
        try simp only [Act.put, List.setIfInBounds_toArray, List.set_cons_zero, List.set_cons_succ]
        refine h_take 5 (x := ?_) rfl (by kernel_rfl) (by kernel_rfl) (by kernel_rfl) (fun _ _ _ h => h) (by rfl) (fun v => ?_) ?_
        rotate_left
        · (go_simp; try with_reducible rfl)
        try simp only [Act.put, List.setIfInBounds_toArray, List.set_cons_zero, List.set_cons_succ]
        refine h_take 6 (x := ?_) rfl (by kernel_rfl) (by kernel_rfl) (by kernel_rfl) (fun _ _ _ h => h) (by rfl) (fun v => ?_) ?_
        rotate_left
        · (go_simp; try with_reducible rfl)
        try simp only [Act.put, List.setIfInBounds_toArray, List.set_cons_zero, List.set_cons_succ]
        refine h_take 7 (x := ?_) rfl (by kernel_rfl) (by kernel_rfl) (by kernel_rfl) (fun _ _ _ h => h) (by rfl) (fun v => ?_) ?_
        rotate_left
        · (go_simp; try with_reducible rfl)
        try simp only [Act.put, List.setIfInBounds_toArray, List.set_cons_zero, List.set_cons_succ]
        refine h_take 8 (x := ?_) rfl (by kernel_rfl) (by kernel_rfl) (by kernel_rfl) (fun _ _ _ h => h) (by rfl) (fun v => ?_) ?_
        rotate_left
        · (go_simp; try with_reducible rfl)
        try simp only [Act.put, List.setIfInBounds_toArray, List.set_cons_zero, List.set_cons_succ]
        refine h_take 9 (x := ?_) rfl (by kernel_rfl) (by kernel_rfl) (by kernel_rfl) (fun _ _ _ h => h) (by rfl) (fun v => ?_) ?_
        rotate_left
        · (go_simp; try with_reducible rfl)
        try simp only [Act.put, List.setIfInBounds_toArray, List.set_cons_zero, List.set_cons_succ]
        refine h_step 10 (by kernel_rfl) rfl (fun K hK => ?_)
        go_simp
        obtain ⟨v1, hv1⟩ : ∃ y9 : After V, y9.w = u0.w.alloc (.cells #[.int .i64 p.fr, .int .i64 p.to, .slice p.da p.dn p.dc] 28) := ⟨u0.on (b_alloc (Below.refl _ _) _), rfl⟩
        rw [← hv1]
        have hgx1 : Rd v1.w (some ⟨u0.w.heap.size, 0, none⟩) (p.c) := by rw [hv1]; exact rd_new _ _ _ rfl
        have hgl1 : u0.w.heap.size < v1.w.heap.size := by rw [hv1]; simp
        have sz1 : u0.w.heap.size ≤ v1.w.heap.size := by rw [hv1]; simp
        clear hv1
        refine hK _ v1 ?_
        clear hK K
        try simp only [Act.put, List.setIfInBounds_toArray, List.set_cons_zero, List.set_cons_succ]
        refine h_step 11 (by kernel_rfl) rfl (fun K hK => ?_)
        refine step_append_grows rfl (.tmp 28) (.tmp 30) 22 rfl 28 i0 (.agg #[.int .i64 0, .int .i64 0, .slice none 0 0]) 3 40 und22 hi hz0 hz1 hz2 rfl (by decide) none 0 0 [] (by rfl) (fun _ => ⟨rfl, rfl⟩) rfl (fun b h => by cases h) ⟨u0.w.heap.size, 0, none⟩ 1 1 p.c (by rfl) rfl (Rd.adds hgx1 (Below.refl _ _) _ rfl) p.one (by omega) (by unfold maxLen; omega) (by omega) ?_
        intro x2 w' hown hgrow
        obtain ⟨v2, rfl⟩ : ∃ y : After V, w' = y.w := ⟨v1.on (b_grown (Below.refl _ _) hgrow (by simp)), rfl⟩
        clear hgrow
        obtain ⟨a2, k2, rfl, hk2, hnzk2, hRk2, hfark2⟩ := own_slice hown
        have hcur : V.heap.size ≤ v1.w.heap.size := v1.2.size
        refine hK _ v2 ?_
        clear hK K
        try simp only [Act.put, List.setIfInBounds_toArray, List.set_cons_zero, List.set_cons_succ]
        refine tail_go (by kernel_rfl) ?_
        refine tail_in ?_
        refine t_take 12 (x := ?_) rfl (by kernel_rfl) (by kernel_rfl) (by kernel_rfl) (fun _ _ _ h => h) (by rfl) (fun w => ?_) ?_
        rotate_left
        · (go_simp; try with_reducible rfl)
        try simp only [Act.put, List.setIfInBounds_toArray, List.set_cons_zero, List.set_cons_succ]
        refine t_step 13 (by kernel_rfl) rfl (fun K hK => ?_)
        go_simp
        refine hK _ _ ?_
        clear hK K
        try simp only [Act.put, List.setIfInBounds_toArray, List.set_cons_zero, List.set_cons_succ]
        refine wpAnyH_done (by kernel_rfl) ?_ _
        refine NoPanic.normal ?_
        have hfar3 : ∀ g off f, a2 = some ⟨g, off, f⟩ → V.heap.size ≤ g := fun g off f h => Nat.le_trans hcur (hfark2 g off f h)
        have HR2 := hid hRk2; have Hfar2 := hid hfar3; have Hnz2 := hid hnzk2
        generalize hZ : World.setCell _ _ _ = Z
        have q0 : Z.cell? ⟨w.heap.size, 0, none⟩ = some (.slice a2 (0 + 1) k2) := by rw [← hZ]; simpa using st_hit _ (c0 v2)
        have q1 : Z.cell? ⟨w.heap.size, 1, none⟩ = some (.slice aa ls.length ac) := by rw [← hZ]; exact st_off _ (.inl (by decide)) (c1 v2)
        have y0 : Z.cell? ⟨w.heap.size + 1 + 1, 0, none⟩ = some (.slice none 0 0) := by rw [← hZ]; exact st_off _ (.inr (by omega)) (e0 v2)
        have y1 : Z.cell? ⟨w.heap.size + 1 + 1, 1, none⟩ = some (.slice none 0 0) := by rw [← hZ]; exact st_off _ (.inr (by omega)) (e1 v2)
        have fy0 : Z.frozen? ⟨w.heap.size + 1 + 1, 0, none⟩ = false := by rw [← hZ]; exact sf _ (fe0 v2)
        have fy1 : Z.frozen? ⟨w.heap.size + 1 + 1, 1, none⟩ = false := by rw [← hZ]; exact sf _ (fe1 v2)
        have hWZ : Below w.heap.size w Z := by rw [← hZ]; exact b_set (WV.out v2) (Nat.le_refl _) _
        have hV2 : w.heap.size + 1 + 1 < V.heap.size := ze (After.here V)
        have HRZ : Hid (Rd Z a2 (([] ++ [p]).flatMap Pk.c)) := by
          refine hid ?_
          rw [← hZ]
          refine Rd.set ?_ (fun g off h => by have := Hfar2.out g off _ h; omega) _
          rw [List.flatMap_append]
          simpa using HR2.out
        clear hZ hRk2 hfark2 hfar3 hnzk2
        have r0 := two0 y0
        have r1 := two1 y1
        go_wp2_with fail
        refine bodyPost_ret (v := .tuple #[.agg #[.slice a2 (0 + 1) k2, .slice aa ls.length ac], .int .i64 0]) (by simp [results, Try.results11, go_sem, r0, r1]) rfl ⟨_, ⟨_, rfl, ?_⟩, (by repeat (first | exact Below.refl _ _ | assumption | refine b_then ?_ (by assumption) | refine b_alloc ?_ _ | refine b_drewN ?_ _ | refine b_drew ?_ | refine b_set ?_ (by omega) _ | refine b_set ?_ (by simp) _))⟩
        rw [if_pos ⟨Hc.out, hpk⟩]
        refine ⟨rfl, a2, aa, k2, ac, ?_, Rd.set (Rd.set HRZ.out (fun g off h => by have := Hfar2.out g off _ h; omega) _) (fun g off h => by have := Hfar2.out g off _ h; omega) _, HA.out.below (by repeat (first | exact Below.refl _ _ | assumption | refine b_then ?_ (by assumption) | refine b_alloc ?_ _ | refine b_drewN ?_ _ | refine b_drew ?_ | refine b_set ?_ (by omega) _ | refine b_set ?_ (by simp) _)), ⟨?_, fun h => ?_⟩, HF.out, .inr fun g off f h => .inr (by have := Hfar2.out g off f h; omega), HSA.out.mono fun b h => .inl h⟩
        · simp [netV]
        · simpa using hk2
        · have := Hnz2.out h; omega
      · have hqc' : (ps.length : Int) ≤ qc := by omega
        refine region_split 12 (by kernel_rfl) (by kernel_rfl) rfl ?_
        intro u0
        simp only [List.take_succ_cons, List.take_zero]
        refine h_take 0 (x := ?_) rfl (by kernel_rfl) (by kernel_rfl) (by kernel_rfl) (fun _ _ _ h => h) (by rfl) (fun v => ?_) ?_
        rotate_left
        · (go_simp; try with_reducible rfl)
        try simp only [Act.put, List.setIfInBounds_toArray, List.set_cons_zero, List.set_cons_succ]
        refine h_take 1 (x := ?_) rfl (by kernel_rfl) (by kernel_rfl) (by kernel_rfl) (fun _ _ _ h => h) (by rfl) (fun v => ?_) ?_
        rotate_left
        · (go_simp; try with_reducible rfl)
        try simp only [Act.put, List.setIfInBounds_toArray, List.set_cons_zero, List.set_cons_succ]
        refine h_take 2 (x := ?_) rfl (by kernel_rfl) (by kernel_rfl) (by kernel_rfl) (fun _ _ _ h => h) (by rfl) (fun v => ?_) ?_
        rotate_left
        · (go_simp; try with_reducible rfl)
        try simp only [Act.put, List.setIfInBounds_toArray, List.set_cons_zero, List.set_cons_succ]
        refine h_take 3 (x := ?_) rfl (by kernel_rfl) (by kernel_rfl) (by kernel_rfl) (fun _ _ _ h => h) (by rfl) (fun v => ?_) ?_
        rotate_left
        · (go_simp; try with_reducible rfl)
        try simp only [Act.put, List.setIfInBounds_toArray, List.set_cons_zero, List.set_cons_succ]
        refine h_take 4 (x := ?_) rfl (by kernel_rfl) (by kernel_rfl) (by kernel_rfl) (fun _ _ _ h => h) (by rfl) (fun v => ?_) ?_
        rotate_left
        · (go_simp; try with_reducible rfl)
        try simp only [Act.put, List.setIfInBounds_toArray, List.set_cons_zero, List.set_cons_succ]
        refine h_take 5 (x := ?_) rfl (by kernel_rfl) (by kernel_rfl) (by kernel_rfl) (fun _ _ _ h => h) (by rfl) (fun v => ?_) ?_
        rotate_left
        · (go_simp; try with_reducible rfl)
        try simp only [Act.put, List.setIfInBounds_toArray, List.set_cons_zero, List.set_cons_succ]
        refine h_take 6 (x := ?_) rfl (by kernel_rfl) (by kernel_rfl) (by kernel_rfl) (fun _ _ _ h => h) (by rfl) (fun v => ?_) ?_
        rotate_left
        · (go_simp; try with_reducible rfl)
        try simp only [Act.put, List.setIfInBounds_toArray, List.set_cons_zero, List.set_cons_succ]
        refine h_take 7 (x := ?_) rfl (by kernel_rfl) (by kernel_rfl) (by kernel_rfl) (fun _ _ _ h => h) (by rfl) (fun v => ?_) ?_
        rotate_left
        · (go_simp; try with_reducible rfl)
        try simp only [Act.put, List.setIfInBounds_toArray, List.set_cons_zero, List.set_cons_succ]
        refine h_take 8 (x := ?_) rfl (by kernel_rfl) (by kernel_rfl) (by kernel_rfl) (fun _ _ _ h => h) (by rfl) (fun v => ?_) ?_
        rotate_left
        · (go_simp; try with_reducible rfl)
        try simp only [Act.put, List.setIfInBounds_toArray, List.set_cons_zero, List.set_cons_succ]
        refine h_take 9 (x := ?_) rfl (by kernel_rfl) (by kernel_rfl) (by kernel_rfl) (fun _ _ _ h => h) (by rfl) (fun v => ?_) ?_
        rotate_left
        · (go_simp; try with_reducible rfl)
        try simp only [Act.put, List.setIfInBounds_toArray, List.set_cons_zero, List.set_cons_succ]
        refine h_step 10 (by kernel_rfl) rfl (fun K hK => ?_)
        go_simp
        obtain ⟨v1, hv1⟩ : ∃ y9 : After V, y9.w = u0.w.alloc (.cells #[.int .i64 p.fr, .int .i64 p.to, .slice p.da p.dn p.dc] 28) := ⟨u0.on (b_alloc (Below.refl _ _) _), rfl⟩
        rw [← hv1]
        have hgx1 : Rd v1.w (some ⟨u0.w.heap.size, 0, none⟩) (p.c) := by rw [hv1]; exact rd_new _ _ _ rfl
        have hgl1 : u0.w.heap.size < v1.w.heap.size := by rw [hv1]; simp
        have sz1 : u0.w.heap.size ≤ v1.w.heap.size := by rw [hv1]; simp
        clear hv1
        refine hK _ v1 ?_
        clear hK K
        try simp only [Act.put, List.setIfInBounds_toArray, List.set_cons_zero, List.set_cons_succ]
        refine h_step 11 (by kernel_rfl) rfl (fun K hK => ?_)
        refine step_append_grows rfl (.tmp 28) (.tmp 30) 22 rfl 28 i0 (.agg #[.int .i64 0, .int .i64 0, .slice none 0 0]) 3 40 und22 hi hz0 hz1 hz2 rfl (by decide) (some ad) ps.length ps.length (ps.flatMap Pk.c) (by rfl) (fun h => by cases h) (flat_len Pk.c 3 Pk.c3 ps) (Rd.adds (HQ.out.below (WV.out v1)) (Below.refl _ _)) ⟨u0.w.heap.size, 0, none⟩ 1 1 p.c (by rfl) rfl (Rd.adds hgx1 (Below.refl _ _) _ rfl) p.one (by omega) (by unfold maxLen; omega) (by omega) ?_
        intro x2 w' hown hgrow
        obtain ⟨v2, rfl⟩ : ∃ y : After V, w' = y.w := ⟨v1.on (b_grown (Below.refl _ _) hgrow (by simp)), rfl⟩
        clear hgrow
        obtain ⟨a2, k2, rfl, hk2, hnzk2, hRk2, hfark2⟩ := own_slice hown
        have hcur : V.heap.size ≤ v1.w.heap.size := v1.2.size
        refine hK _ v2 ?_
        clear hK K
        try simp only [Act.put, List.setIfInBounds_toArray, List.set_cons_zero, List.set_cons_succ]
        refine tail_go (by kernel_rfl) ?_
        refine tail_in ?_
        refine t_take 12 (x := ?_) rfl (by kernel_rfl) (by kernel_rfl) (by kernel_rfl) (fun _ _ _ h => h) (by rfl) (fun w => ?_) ?_
        rotate_left
        · (go_simp; try with_reducible rfl)
        try simp only [Act.put, List.setIfInBounds_toArray, List.set_cons_zero, List.set_cons_succ]
        refine t_step 13 (by kernel_rfl) rfl (fun K hK => ?_)
        go_simp
        refine hK _ _ ?_
        clear hK K
        try simp only [Act.put, List.setIfInBounds_toArray, List.set_cons_zero, List.set_cons_succ]
        refine wpAnyH_done (by kernel_rfl) ?_ _
        refine NoPanic.normal ?_
        have hfar3 : ∀ g off f, a2 = some ⟨g, off, f⟩ → V.heap.size ≤ g := fun g off f h => Nat.le_trans hcur (hfark2 g off f h)
        have HR2 := hid hRk2; have Hfar2 := hid hfar3; have Hnz2 := hid hnzk2
        generalize hZ : World.setCell _ _ _ = Z
        have q0 : Z.cell? ⟨w.heap.size, 0, none⟩ = some (.slice a2 (ps.length + 1) k2) := by rw [← hZ]; simpa using st_hit _ (c0 v2)
        have q1 : Z.cell? ⟨w.heap.size, 1, none⟩ = some (.slice aa ls.length ac) := by rw [← hZ]; exact st_off _ (.inl (by decide)) (c1 v2)
        have y0 : Z.cell? ⟨w.heap.size + 1 + 1, 0, none⟩ = some (.slice none 0 0) := by rw [← hZ]; exact st_off _ (.inr (by omega)) (e0 v2)
        have y1 : Z.cell? ⟨w.heap.size + 1 + 1, 1, none⟩ = some (.slice none 0 0) := by rw [← hZ]; exact st_off _ (.inr (by omega)) (e1 v2)
        have fy0 : Z.frozen? ⟨w.heap.size + 1 + 1, 0, none⟩ = false := by rw [← hZ]; exact sf _ (fe0 v2)
        have fy1 : Z.frozen? ⟨w.heap.size + 1 + 1, 1, none⟩ = false := by rw [← hZ]; exact sf _ (fe1 v2)
        have hWZ : Below w.heap.size w Z := by rw [← hZ]; exact b_set (WV.out v2) (Nat.le_refl _) _
        have hV2 : w.heap.size + 1 + 1 < V.heap.size := ze (After.here V)
        have HRZ : Hid (Rd Z a2 ((ps ++ [p]).flatMap Pk.c)) := by
          refine hid ?_
          rw [← hZ]
          refine Rd.set ?_ (fun g off h => by have := Hfar2.out g off _ h; omega) _
          rw [List.flatMap_append]
          simpa using HR2.out
        clear hZ hRk2 hfark2 hfar3 hnzk2
        have r0 := two0 y0
        have r1 := two1 y1
        go_wp2_with fail
        refine bodyPost_ret (v := .tuple #[.agg #[.slice a2 (ps.length + 1) k2, .slice aa ls.length ac], .int .i64 0]) (by simp [results, Try.results11, go_sem, r0, r1]) rfl ⟨_, ⟨_, rfl, ?_⟩, (by repeat (first | exact Below.refl _ _ | assumption | refine b_then ?_ (by assumption) | refine b_alloc ?_ _ | refine b_drewN ?_ _ | refine b_drew ?_ | refine b_set ?_ (by omega) _ | refine b_set ?_ (by simp) _))⟩
        rw [if_pos ⟨Hc.out, hpk⟩]
        refine ⟨rfl, a2, aa, k2, ac, ?_, Rd.set (Rd.set HRZ.out (fun g off h => by have := Hfar2.out g off _ h; omega) _) (fun g off h => by have := Hfar2.out g off _ h; omega) _, HA.out.below (by repeat (first | exact Below.refl _ _ | assumption | refine b_then ?_ (by assumption) | refine b_alloc ?_ _ | refine b_drewN ?_ _ | refine b_drew ?_ | refine b_set ?_ (by omega) _ | refine b_set ?_ (by simp) _)), ⟨?_, fun h => ?_⟩, HF.out, .inr fun g off f h => .inr (by have := Hfar2.out g off f h; omega), HSA.out.mono fun b h => .inl h⟩
        · simp [netV]
        · simpa using hk2
        · have := Hnz2.out h; omega
  · have Hc := hid hc
    rw [chk_60 hc]
    clear hc
    have r0 := two0 (e0 u1)
    have r1 := two1 (e1 u1)
    have hW1 := WV.out u1
    go_wp2_with fail
    refine bodyPost_ret (v := .tuple #[.agg #[.slice none 0 0, .slice none 0 0], .int .i64 60]) (by simp [results, Try.results11, go_sem, r0, r1]) rfl ⟨_, ⟨_, rfl, ?_⟩, (by repeat (first | exact Below.refl _ _ | assumption | refine b_then ?_ (by assumption) | refine b_alloc ?_ _ | refine b_drewN ?_ _ | refine b_drew ?_ | refine b_set ?_ (by omega) _ | refine b_set ?_ (by simp) _))⟩
    rw [if_neg (fun h => Hc.out h.1)]
    exact ⟨rfl, NetIs.zero _ _⟩
end Go.Proofs.Ytmikhkmdcpgkfaa
