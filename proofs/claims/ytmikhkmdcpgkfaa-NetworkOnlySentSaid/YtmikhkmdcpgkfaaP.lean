/- The reference's without. -/
import Derived.Test.YtmikhkmdcpgkfaaO
import Derived.Test.YtmikhkmdcpgkfaaJ
import Derived.Test.YtmikhkmdcpgkfaaS
namespace Go.Proofs.Ytmikhkmdcpgkfaa
open Go.RowKit
open Go.Lib (hid)

theorem rd_take {w : World} {a : Option Addr} {ps : List Pk} (h : Rd w a (ps.flatMap Pk.c)) (i : Nat) : Rd w a ((ps.take i).flatMap Pk.c) := by
  rcases h with h | ⟨b, off, ha, hb, hc⟩
  · left
    have := flat_len Pk.c 3 Pk.c3 ps
    rw [h] at this
    have h0 : ps = [] := List.eq_nil_of_length_eq_zero (by simp at this; omega)
    simp [h0]
  · exact .inr ⟨b, off, ha, hb, fun j u hu => hc j u (flat_take hu)⟩
theorem rd_drop {w : World} {b off : Nat} {ps : List Pk} (h : Rd w (some ⟨b, off, none⟩) (ps.flatMap Pk.c)) (i : Nat) (hi : i ≤ ps.length) : Rd w (some ⟨b, off + i * 3, none⟩) ((ps.drop i).flatMap Pk.c) := by
  rcases h with h | ⟨b', off', ha, hb, hc⟩
  · left
    have := flat_len Pk.c 3 Pk.c3 ps
    rw [h] at this
    have h0 : ps = [] := List.eq_nil_of_length_eq_zero (by simp at this; omega)
    simp [h0]
  · cases ha
    exact .inr ⟨b, off + i * 3, rfl, hb, fun j u hu => by rw [Nat.add_assoc]; exact hc _ u (flat_drop hi hu)⟩

set_option maxHeartbeats 4000000 in
theorem rwithout_any (ok : Nat → Prop) (ps : List Pk) (ls : List (Int × Int)) (i : Nat) (v : Value) (w : World) (hp : ps.length ≤ 1000) (hi' : i < ps.length) (hv : NetIs ok w v ps ls) :
    Calls Try.prog 42 #[v, .int .i64 i] w fun e w' => ∃ v', e = .returned v' ∧ NetIs (fun g => ok g ∨ w.heap.size ≤ g) w' v' (ps.take i ++ ps.drop (i + 1)) ls ∧ Below w.heap.size w w' := by
  obtain ⟨qa, aa, qc, ac, rfl, hq, ha, ⟨hqc, hqn⟩, hfa, hsq, hsa⟩ := hv
  obtain ⟨b, off, rfl, hb⟩ := hq.addr (by rw [flat_len Pk.c 3 Pk.c3]; omega)
  have HQ := hid hq; clear hq
  have HA := hid ha; clear ha
  have HSA := hid hsa; clear hsa hsq
  unfold netV
  obtain ⟨i0, hi, hz0, hz1, hz2⟩ := info_parts info28
  go_enter Try.func42, Try.ntmps42
  go_wp2_with fail
  obtain ⟨V, hV⟩ : ∃ V, V = (w.alloc (.cells #[.slice (some ⟨b, off, none⟩) ps.length qc, .slice aa ls.length ac] 25)).alloc (.cells #[.slice none 0 0, .slice none 0 0] 25) := ⟨_, rfl⟩
  have hwV : Below w.heap.size w V := by rw [hV]; exact (by repeat (first | exact Below.refl _ _ | assumption | refine b_then ?_ (by assumption) | refine b_alloc ?_ _ | refine b_drewN ?_ _ | refine b_drew ?_ | refine b_set ?_ (by omega) _ | refine b_set ?_ (by simp) _))
  have c0 : ∀ v : After V, v.w.cell? ⟨w.heap.size, 0, none⟩ = some (.slice (some ⟨b, off, none⟩) ps.length qc) := after_cell (by rw [hV]; first | (simp; done) | omega | (simp; omega)) (by rw [hV]; repeat (first | with_reducible assumption | exact bn (by first | (simp; done) | omega | (simp; omega)) rfl | refine bo (by first | (simp; done) | omega | (simp; omega)) ?_ | refine bb (by assumption) (by first | (simp; done) | omega | (simp; omega)) ?_ | refine st_off _ (by first | (left; decide) | (right; omega) | (right; simp; omega)) ?_ | apply st_hit | assumption))
  have c1 : ∀ v : After V, v.w.cell? ⟨w.heap.size, 1, none⟩ = some (.slice aa ls.length ac) := after_cell (by rw [hV]; first | (simp; done) | omega | (simp; omega)) (by rw [hV]; repeat (first | with_reducible assumption | exact bn (by first | (simp; done) | omega | (simp; omega)) rfl | refine bo (by first | (simp; done) | omega | (simp; omega)) ?_ | refine bb (by assumption) (by first | (simp; done) | omega | (simp; omega)) ?_ | refine st_off _ (by first | (left; decide) | (right; omega) | (right; simp; omega)) ?_ | apply st_hit | assumption))
  have e0 : ∀ v : After V, v.w.cell? ⟨w.heap.size + 1, 0, none⟩ = some (.slice none 0 0) := after_cell (by rw [hV]; first | (simp; done) | omega | (simp; omega)) (by rw [hV]; repeat (first | with_reducible assumption | exact bn (by first | (simp; done) | omega | (simp; omega)) rfl | refine bo (by first | (simp; done) | omega | (simp; omega)) ?_ | refine bb (by assumption) (by first | (simp; done) | omega | (simp; omega)) ?_ | refine st_off _ (by first | (left; decide) | (right; omega) | (right; simp; omega)) ?_ | apply st_hit | assumption))
  have e1 : ∀ v : After V, v.w.cell? ⟨w.heap.size + 1, 1, none⟩ = some (.slice none 0 0) := after_cell (by rw [hV]; first | (simp; done) | omega | (simp; omega)) (by rw [hV]; repeat (first | with_reducible assumption | exact bn (by first | (simp; done) | omega | (simp; omega)) rfl | refine bo (by first | (simp; done) | omega | (simp; omega)) ?_ | refine bb (by assumption) (by first | (simp; done) | omega | (simp; omega)) ?_ | refine st_off _ (by first | (left; decide) | (right; omega) | (right; simp; omega)) ?_ | apply st_hit | assumption))
  have fc0 : ∀ v : After V, v.w.frozen? ⟨w.heap.size, 0, none⟩ = false := after_frozen (by rw [hV]; first | (simp; done) | omega | (simp; omega)) (by rw [hV]; repeat (first | with_reducible assumption | exact fn (by first | (simp; done) | omega | (simp; omega)) | refine fo (by first | (simp; done) | omega | (simp; omega)) ?_ | refine fb (by assumption) (by first | (simp; done) | omega | (simp; omega)) ?_ | refine sf _ ?_ | assumption))
  have fe0 : ∀ v : After V, v.w.frozen? ⟨w.heap.size + 1, 0, none⟩ = false := after_frozen (by rw [hV]; first | (simp; done) | omega | (simp; omega)) (by rw [hV]; repeat (first | with_reducible assumption | exact fn (by first | (simp; done) | omega | (simp; omega)) | refine fo (by first | (simp; done) | omega | (simp; omega)) ?_ | refine fb (by assumption) (by first | (simp; done) | omega | (simp; omega)) ?_ | refine sf _ ?_ | assumption))
  have fe1 : ∀ v : After V, v.w.frozen? ⟨w.heap.size + 1, 1, none⟩ = false := after_frozen (by rw [hV]; first | (simp; done) | omega | (simp; omega)) (by rw [hV]; repeat (first | with_reducible assumption | exact fn (by first | (simp; done) | omega | (simp; omega)) | refine fo (by first | (simp; done) | omega | (simp; omega)) ?_ | refine fb (by assumption) (by first | (simp; done) | omega | (simp; omega)) ?_ | refine sf _ ?_ | assumption))
  have RQ := hid (after_rd (HQ.out.below hwV))
  have W0 := hid (after_below hwV)
  have hsV : w.heap.size + 1 < V.heap.size := by rw [hV]; simp
  rw [← hV]
  obtain ⟨u, hu⟩ : ∃ u : After V, u.w = V := ⟨After.here V, rfl⟩
  rw [← hu]
  clear hV hwV hu
  have hw : IntKind.i64.wrap ((i : Int) + 1) = ((i + 1 : Nat) : Int) := by simp [IntKind.wrap_i64]; omega
  have hn1 : (((i + 1 : Nat) : Int)).toNat = i + 1 := rfl
  have h2 : i ≤ qc := by omega
  have h5 : 0 ≤ (i : Int) + 1 := by omega
  have h6 : (i : Int) + 1 ≤ ps.length := by omega
  have h7 : (i : Int) + 1 ≤ qc := by omega
  have h8 : i + 1 ≤ qc := by omega
  by_cases h4 : qc = i + 1
  · subst h4
    have h9 : (i : Int) ≤ (i : Int) + 1 := by omega
    have Hm := hid (show ps.drop (i + 1) = [] from List.drop_of_length_le (by omega))
    refine region_split 12 (by kernel_rfl) (by kernel_rfl) rfl ?_
    intro u0
    simp only [List.take_succ_cons, List.take_zero]
    refine h_take 1 (x := ?_) rfl (by kernel_rfl) (by kernel_rfl) (by kernel_rfl) (fun _ _ _ h => h) (by rfl) (fun v => ?_) ?_
    rotate_left
    · (go_simp; try with_reducible rfl)
    try simp only [Act.put, List.setIfInBounds_toArray, List.set_cons_zero, List.set_cons_succ]
    refine h_take 2 (x := ?_) rfl (by kernel_rfl) (by kernel_rfl) (by kernel_rfl) (fun _ _ _ h => h) (by rfl) (fun v => ?_) ?_
    rotate_left
    · (go_simp; try with_reducible rfl)
    try simp only [Act.put, List.setIfInBounds_toArray, List.set_cons_zero, List.set_cons_succ]
    refine h_take 3 (x := ?_) rfl (by kernel_rfl) (by kernel_rfl) (by kernel_rfl) (fun _ _ _ h => h) (by rfl) (fun v => ?_) ?_
    rotate_left
    · (go_simp; try with_reducible rfl)
    try simp only [Act.put, List.setIfInBounds_toArray, List.set_cons_zero, List.set_cons_succ]
    refine h_take 4 (x := ?_) rfl (by kernel_rfl) (by kernel_rfl) (by kernel_rfl) (fun _ _ _ h => h) (by rfl) (fun v => ?_) ?_
    rotate_left
    · (go_simp; try with_reducible rfl)
    try simp only [Act.put, List.setIfInBounds_toArray, List.set_cons_zero, List.set_cons_succ]
    refine h_take 6 (x := ?_) rfl (by kernel_rfl) (by kernel_rfl) (by kernel_rfl) (fun _ _ _ h => h) (by rfl) (fun v => ?_) ?_
    rotate_left
    · (go_simp; try with_reducible rfl)
    try simp only [Act.put, List.setIfInBounds_toArray, List.set_cons_zero, List.set_cons_succ]
    refine h_take 7 (x := ?_) rfl (by kernel_rfl) (by kernel_rfl) (by kernel_rfl) (fun _ _ _ h => h) (by rfl) (fun v => ?_) ?_
    rotate_left
    · (go_simp; try with_reducible rfl)
    try simp only [Act.put, List.setIfInBounds_toArray, List.set_cons_zero, List.set_cons_succ]
    refine h_take 8 (x := ?_) rfl (by kernel_rfl) (by kernel_rfl) (by kernel_rfl) (fun _ _ _ h => h) (by rfl) (fun v => ?_) ?_
    rotate_left
    · (go_simp; try with_reducible rfl)
    try simp only [Act.put, List.setIfInBounds_toArray, List.set_cons_zero, List.set_cons_succ]
    refine h_take 9 (x := ?_) rfl (by kernel_rfl) (by kernel_rfl) (by kernel_rfl) (fun _ _ _ h => h) (by rfl) (fun v => ?_) ?_
    rotate_left
    · (go_simp; try with_reducible rfl)
    try simp only [Act.put, List.setIfInBounds_toArray, List.set_cons_zero, List.set_cons_succ]
    refine h_take 10 (x := ?_) rfl (by kernel_rfl) (by kernel_rfl) (by kernel_rfl) (fun _ _ _ h => h) (by rfl) (fun v => ?_) ?_
    rotate_left
    · (go_simp; try with_reducible rfl)
    try simp only [Act.put, List.setIfInBounds_toArray, List.set_cons_zero, List.set_cons_succ]
    refine h_step 0 (by kernel_rfl) rfl (fun K hK => ?_)
    go_simp
    obtain ⟨v1, hv1⟩ : ∃ v1 : After V, v1.w = u0.w.alloc (.cells #[] 28) := ⟨u0.on (b_alloc (Below.refl _ _) _), rfl⟩
    rw [← hv1]
    have hown0 : v1.w.ownsRow u0.w.heap.size 28 3 (.slice (some ⟨u0.w.heap.size, 0, none⟩) 0 0) 0 [] := by rw [hv1]; exact World.ownsRow_made u0.w #[] 0 (Nat.le_refl _) (by unfold maxLen; omega) (by simp)
    have sz1 : u0.w.heap.size ≤ v1.w.heap.size := by rw [hv1]; simp
    clear hv1
    refine hK _ v1 ?_
    clear hK K
    try simp only [Act.put, List.setIfInBounds_toArray, List.set_cons_zero, List.set_cons_succ]
    refine h_step 5 (by kernel_rfl) rfl (fun K hK => ?_)
    refine step_append_rd _ rfl (.tmp 5) (.tmp 9) 22 rfl u0.w.heap.size 28 i0 (.agg #[.int .i64 0, .int .i64 0, .slice none 0 0]) 3 40 und22 hi hz0 hz1 hz2 rfl (by decide) _ _ _ (by rfl) hown0 (some ⟨b, off, none⟩) i _ ((ps.take i).flatMap Pk.c) (by rfl) (by rw [flat_len Pk.c 3 Pk.c3, List.length_take]; omega) (rd_take (RQ.out v1) i) (Pk.ones _) (by unfold maxLen; omega) (by omega) sz1 ?_
    intro x1 w' hown1 hgrow
    obtain ⟨v2, rfl, sz2⟩ := After.app u0 v1 hown0 hgrow sz1
    clear hgrow
    refine hK _ v2 ?_
    clear hK K
    try simp only [Act.put, List.setIfInBounds_toArray, List.set_cons_zero, List.set_cons_succ]
    refine h_step 11 (by kernel_rfl) rfl (fun K hK => ?_)
    refine step_append_rd _ rfl (.tmp 10) (.tmp 15) 22 rfl u0.w.heap.size 28 i0 (.agg #[.int .i64 0, .int .i64 0, .slice none 0 0]) 3 40 und22 hi hz0 hz1 hz2 rfl (by decide) _ _ _ (by rfl) hown1 (some ⟨b, off, none⟩) 0 _ ((ps.drop (i + 1)).flatMap Pk.c) (by rfl) (by rw [flat_len Pk.c 3 Pk.c3, List.length_drop]; try omega) (.inl (by rw [Hm.out]; rfl)) (Pk.ones _) (by unfold maxLen; omega) (by omega) sz2 ?_
    intro x2 w' hown2 hgrow
    obtain ⟨v3, rfl, sz3⟩ := After.app u0 v2 hown1 hgrow sz2
    clear hgrow
    obtain ⟨a2, k2, rfl, hk2, hnz2, hR2, hfar2⟩ := own_slice hown2
    refine hK _ v3 ?_
    clear hK K
    try simp only [Act.put, List.setIfInBounds_toArray, List.set_cons_zero, List.set_cons_succ]
    refine tail_go (by kernel_rfl) ?_
    refine tail_in ?_
    refine t_take 12 (x := ?_) rfl (by kernel_rfl) (by kernel_rfl) (by kernel_rfl) (fun _ _ _ h => h) (by rfl) (fun w => ?_) ?_
    rotate_left
    · (go_simp; try with_reducible rfl)
    try simp only [Act.put, List.setIfInBounds_toArray, List.set_cons_zero, List.set_cons_succ]
    refine t_step 13 (by kernel_rfl) rfl (fun K hK => ?_)
    go_simp
    refine hK _ _ ?_
    clear hK K
    try simp only [Act.put, List.setIfInBounds_toArray, List.set_cons_zero, List.set_cons_succ]
    refine wpAnyH_done (by kernel_rfl) ?_ _
    refine NoPanic.normal ?_
    have hfar3 : ∀ g off f, a2 = some ⟨g, off, f⟩ → V.heap.size ≤ g := fun g off f h => Nat.le_trans u0.2.size (hfar2 g off f h)
    have HR2 := hid hR2; have Hfar2 := hid hfar3; have Hnz2 := hid hnz2
    clear hR2 hfar2 hfar3 hnz2 hown1 hown2 hown0
    generalize hZ : World.setCell _ _ _ = Z
    have z0 : Z.cell? ⟨w.heap.size, 0, none⟩ = some (.slice a2 (0 + i + 0) k2) := by rw [← hZ]; simpa using st_hit _ (c0 v3)
    have z1 : Z.cell? ⟨w.heap.size, 1, none⟩ = some (.slice aa ls.length ac) := by rw [← hZ]; exact st_off _ (.inl (by decide)) (c1 v3)
    have y0 : Z.cell? ⟨w.heap.size + 1, 0, none⟩ = some (.slice none 0 0) := by rw [← hZ]; exact st_off _ (.inr (by omega)) (e0 v3)
    have y1 : Z.cell? ⟨w.heap.size + 1, 1, none⟩ = some (.slice none 0 0) := by rw [← hZ]; exact st_off _ (.inr (by omega)) (e1 v3)
    have fy0 : Z.frozen? ⟨w.heap.size + 1, 0, none⟩ = false := by rw [← hZ]; exact sf _ (fe0 v3)
    have fy1 : Z.frozen? ⟨w.heap.size + 1, 1, none⟩ = false := by rw [← hZ]; exact sf _ (fe1 v3)
    have hWZ : Below w.heap.size w Z := by rw [← hZ]; exact b_set (W0.out v3) (Nat.le_refl _) _
    have hRZ : Rd Z a2 ((ps.take i ++ ps.drop (i + 1)).flatMap Pk.c) := by
      rw [← hZ]
      refine Rd.set ?_ (fun g off h => by have := Hfar2.out g off _ h; omega) _
      rw [List.flatMap_append]
      simpa using HR2.out
    have HRZ := hid hRZ
    clear hZ hRZ
    have r0 := two0 y0
    have r1 := two1 y1
    go_wp2_with fail
    refine bodyPost_ret (v := .agg #[.slice a2 (0 + i + 0) k2, .slice aa ls.length ac]) (by simp [results, Try.results42, go_sem, r0, r1]) rfl ⟨_, rfl, ⟨a2, aa, k2, ac, ?_, Rd.set (Rd.set HRZ.out (fun g off h => by have := Hfar2.out g off _ h; omega) _) (fun g off h => by have := Hfar2.out g off _ h; omega) _, HA.out.below (by repeat (first | exact Below.refl _ _ | assumption | refine b_then ?_ (by assumption) | refine b_alloc ?_ _ | refine b_drewN ?_ _ | refine b_drew ?_ | refine b_set ?_ (by omega) _ | refine b_set ?_ (by simp) _)), ⟨?_, fun h => ?_⟩, hfa, .inr fun g off f h => .inr (by have := Hfar2.out g off f h; omega), HSA.out.mono fun b h => .inl h⟩, (by repeat (first | exact Below.refl _ _ | assumption | refine b_then ?_ (by assumption) | refine b_alloc ?_ _ | refine b_drewN ?_ _ | refine b_drew ?_ | refine b_set ?_ (by omega) _ | refine b_set ?_ (by simp) _))⟩
    · simp [netV, List.length_take, List.length_drop]; omega
    · simp [List.length_take, List.length_drop]; omega
    · have := Hnz2.out h; simp [List.length_take, List.length_drop]; omega

  · skip
    refine region_split 12 (by kernel_rfl) (by kernel_rfl) rfl ?_
    intro u0
    simp only [List.take_succ_cons, List.take_zero]
    refine h_take 1 (x := ?_) rfl (by kernel_rfl) (by kernel_rfl) (by kernel_rfl) (fun _ _ _ h => h) (by rfl) (fun v => ?_) ?_
    rotate_left
    · (go_simp; try with_reducible rfl)
    try simp only [Act.put, List.setIfInBounds_toArray, List.set_cons_zero, List.set_cons_succ]
    refine h_take 2 (x := ?_) rfl (by kernel_rfl) (by kernel_rfl) (by kernel_rfl) (fun _ _ _ h => h) (by rfl) (fun v => ?_) ?_
    rotate_left
    · (go_simp; try with_reducible rfl)
    try simp only [Act.put, List.setIfInBounds_toArray, List.set_cons_zero, List.set_cons_succ]
    refine h_take 3 (x := ?_) rfl (by kernel_rfl) (by kernel_rfl) (by kernel_rfl) (fun _ _ _ h => h) (by rfl) (fun v => ?_) ?_
    rotate_left
    · (go_simp; try with_reducible rfl)
    try simp only [Act.put, List.setIfInBounds_toArray, List.set_cons_zero, List.set_cons_succ]
    refine h_take 4 (x := ?_) rfl (by kernel_rfl) (by kernel_rfl) (by kernel_rfl) (fun _ _ _ h => h) (by rfl) (fun v => ?_) ?_
    rotate_left
    · (go_simp; try with_reducible rfl)
    try simp only [Act.put, List.setIfInBounds_toArray, List.set_cons_zero, List.set_cons_succ]
    refine h_take 6 (x := ?_) rfl (by kernel_rfl) (by kernel_rfl) (by kernel_rfl) (fun _ _ _ h => h) (by rfl) (fun v => ?_) ?_
    rotate_left
    · (go_simp; try with_reducible rfl)
    try simp only [Act.put, List.setIfInBounds_toArray, List.set_cons_zero, List.set_cons_succ]
    refine h_take 7 (x := ?_) rfl (by kernel_rfl) (by kernel_rfl) (by kernel_rfl) (fun _ _ _ h => h) (by rfl) (fun v => ?_) ?_
    rotate_left
    · (go_simp; try with_reducible rfl)
    try simp only [Act.put, List.setIfInBounds_toArray, List.set_cons_zero, List.set_cons_succ]
    refine h_take 8 (x := ?_) rfl (by kernel_rfl) (by kernel_rfl) (by kernel_rfl) (fun _ _ _ h => h) (by rfl) (fun v => ?_) ?_
    rotate_left
    · (go_simp; try with_reducible rfl)
    try simp only [Act.put, List.setIfInBounds_toArray, List.set_cons_zero, List.set_cons_succ]
    refine h_take 9 (x := ?_) rfl (by kernel_rfl) (by kernel_rfl) (by kernel_rfl) (fun _ _ _ h => h) (by rfl) (fun v => ?_) ?_
    rotate_left
    · (go_simp; try with_reducible rfl)
    try simp only [Act.put, List.setIfInBounds_toArray, List.set_cons_zero, List.set_cons_succ]
    refine h_take 10 (x := ?_) rfl (by kernel_rfl) (by kernel_rfl) (by kernel_rfl) (fun _ _ _ h => h) (by rfl) (fun v => ?_) ?_
    rotate_left
    · (go_simp; try with_reducible rfl)
    try simp only [Act.put, List.setIfInBounds_toArray, List.set_cons_zero, List.set_cons_succ]
    refine h_step 0 (by kernel_rfl) rfl (fun K hK => ?_)
    go_simp
    obtain ⟨v1, hv1⟩ : ∃ v1 : After V, v1.w = u0.w.alloc (.cells #[] 28) := ⟨u0.on (b_alloc (Below.refl _ _) _), rfl⟩
    rw [← hv1]
    have hown0 : v1.w.ownsRow u0.w.heap.size 28 3 (.slice (some ⟨u0.w.heap.size, 0, none⟩) 0 0) 0 [] := by rw [hv1]; exact World.ownsRow_made u0.w #[] 0 (Nat.le_refl _) (by unfold maxLen; omega) (by simp)
    have sz1 : u0.w.heap.size ≤ v1.w.heap.size := by rw [hv1]; simp
    clear hv1
    refine hK _ v1 ?_
    clear hK K
    try simp only [Act.put, List.setIfInBounds_toArray, List.set_cons_zero, List.set_cons_succ]
    refine h_step 5 (by kernel_rfl) rfl (fun K hK => ?_)
    refine step_append_rd _ rfl (.tmp 5) (.tmp 9) 22 rfl u0.w.heap.size 28 i0 (.agg #[.int .i64 0, .int .i64 0, .slice none 0 0]) 3 40 und22 hi hz0 hz1 hz2 rfl (by decide) _ _ _ (by rfl) hown0 (some ⟨b, off, none⟩) i _ ((ps.take i).flatMap Pk.c) (by rfl) (by rw [flat_len Pk.c 3 Pk.c3, List.length_take]; omega) (rd_take (RQ.out v1) i) (Pk.ones _) (by unfold maxLen; omega) (by omega) sz1 ?_
    intro x1 w' hown1 hgrow
    obtain ⟨v2, rfl, sz2⟩ := After.app u0 v1 hown0 hgrow sz1
    clear hgrow
    refine hK _ v2 ?_
    clear hK K
    try simp only [Act.put, List.setIfInBounds_toArray, List.set_cons_zero, List.set_cons_succ]
    refine h_step 11 (by kernel_rfl) rfl (fun K hK => ?_)
    refine step_append_rd _ rfl (.tmp 10) (.tmp 15) 22 rfl u0.w.heap.size 28 i0 (.agg #[.int .i64 0, .int .i64 0, .slice none 0 0]) 3 40 und22 hi hz0 hz1 hz2 rfl (by decide) _ _ _ (by rfl) hown1 (some ⟨b, off + (i + 1) * 3, none⟩) (ps.length - (i + 1)) _ ((ps.drop (i + 1)).flatMap Pk.c) (by rfl) (by rw [flat_len Pk.c 3 Pk.c3, List.length_drop]; try omega) (rd_drop (RQ.out v2) (i + 1) (by omega)) (Pk.ones _) (by unfold maxLen; omega) (by omega) sz2 ?_
    intro x2 w' hown2 hgrow
    obtain ⟨v3, rfl, sz3⟩ := After.app u0 v2 hown1 hgrow sz2
    clear hgrow
    obtain ⟨a2, k2, rfl, hk2, hnz2, hR2, hfar2⟩ := own_slice hown2
    refine hK _ v3 ?_
    clear hK K
    try simp only [Act.put, List.setIfInBounds_toArray, List.set_cons_zero, List.set_cons_succ]
    refine tail_go (by kernel_rfl) ?_
    refine tail_in ?_
    refine t_take 12 (x := ?_) rfl (by kernel_rfl) (by kernel_rfl) (by kernel_rfl) (fun _ _ _ h => h) (by rfl) (fun w => ?_) ?_
    rotate_left
    · (go_simp; try with_reducible rfl)
    try simp only [Act.put, List.setIfInBounds_toArray, List.set_cons_zero, List.set_cons_succ]
    refine t_step 13 (by kernel_rfl) rfl (fun K hK => ?_)
    go_simp
    refine hK _ _ ?_
    clear hK K
    try simp only [Act.put, List.setIfInBounds_toArray, List.set_cons_zero, List.set_cons_succ]
    refine wpAnyH_done (by kernel_rfl) ?_ _
    refine NoPanic.normal ?_
    have hfar3 : ∀ g off f, a2 = some ⟨g, off, f⟩ → V.heap.size ≤ g := fun g off f h => Nat.le_trans u0.2.size (hfar2 g off f h)
    have HR2 := hid hR2; have Hfar2 := hid hfar3; have Hnz2 := hid hnz2
    clear hR2 hfar2 hfar3 hnz2 hown1 hown2 hown0
    generalize hZ : World.setCell _ _ _ = Z
    have z0 : Z.cell? ⟨w.heap.size, 0, none⟩ = some (.slice a2 (0 + i + (ps.length - (i + 1))) k2) := by rw [← hZ]; simpa using st_hit _ (c0 v3)
    have z1 : Z.cell? ⟨w.heap.size, 1, none⟩ = some (.slice aa ls.length ac) := by rw [← hZ]; exact st_off _ (.inl (by decide)) (c1 v3)
    have y0 : Z.cell? ⟨w.heap.size + 1, 0, none⟩ = some (.slice none 0 0) := by rw [← hZ]; exact st_off _ (.inr (by omega)) (e0 v3)
    have y1 : Z.cell? ⟨w.heap.size + 1, 1, none⟩ = some (.slice none 0 0) := by rw [← hZ]; exact st_off _ (.inr (by omega)) (e1 v3)
    have fy0 : Z.frozen? ⟨w.heap.size + 1, 0, none⟩ = false := by rw [← hZ]; exact sf _ (fe0 v3)
    have fy1 : Z.frozen? ⟨w.heap.size + 1, 1, none⟩ = false := by rw [← hZ]; exact sf _ (fe1 v3)
    have hWZ : Below w.heap.size w Z := by rw [← hZ]; exact b_set (W0.out v3) (Nat.le_refl _) _
    have hRZ : Rd Z a2 ((ps.take i ++ ps.drop (i + 1)).flatMap Pk.c) := by
      rw [← hZ]
      refine Rd.set ?_ (fun g off h => by have := Hfar2.out g off _ h; omega) _
      rw [List.flatMap_append]
      simpa using HR2.out
    have HRZ := hid hRZ
    clear hZ hRZ
    have r0 := two0 y0
    have r1 := two1 y1
    go_wp2_with fail
    refine bodyPost_ret (v := .agg #[.slice a2 (0 + i + (ps.length - (i + 1))) k2, .slice aa ls.length ac]) (by simp [results, Try.results42, go_sem, r0, r1]) rfl ⟨_, rfl, ⟨a2, aa, k2, ac, ?_, Rd.set (Rd.set HRZ.out (fun g off h => by have := Hfar2.out g off _ h; omega) _) (fun g off h => by have := Hfar2.out g off _ h; omega) _, HA.out.below (by repeat (first | exact Below.refl _ _ | assumption | refine b_then ?_ (by assumption) | refine b_alloc ?_ _ | refine b_drewN ?_ _ | refine b_drew ?_ | refine b_set ?_ (by omega) _ | refine b_set ?_ (by simp) _)), ⟨?_, fun h => ?_⟩, hfa, .inr fun g off f h => .inr (by have := Hfar2.out g off f h; omega), HSA.out.mono fun b h => .inl h⟩, (by repeat (first | exact Below.refl _ _ | assumption | refine b_then ?_ (by assumption) | refine b_alloc ?_ _ | refine b_drewN ?_ _ | refine b_drew ?_ | refine b_set ?_ (by omega) _ | refine b_set ?_ (by simp) _))⟩
    · simp [netV, List.length_take, List.length_drop]; omega
    · simp [List.length_take, List.length_drop]; omega
    · have := Hnz2.out h; simp [List.length_take, List.length_drop]; omega

end Go.Proofs.Ytmikhkmdcpgkfaa
