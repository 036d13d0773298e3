/- without: links without the packet at a place. -/
import Derived.Test.YtmikhkmdcpgkfaaI
namespace Go.Proofs.Ytmikhkmdcpgkfaa
open Go.RowKit
open Go.Lib (hid)

theorem flat_take {ps : List Pk} {k j : Nat} {u : Value} (h : ((ps.take k).flatMap Pk.c)[j]? = some u) : (ps.flatMap Pk.c)[j]? = some u := by
  rw [← List.take_append_drop k ps, List.flatMap_append, List.getElem?_append_left (by rw [List.getElem?_eq_some_iff] at h; exact h.1)]
  exact h
theorem flat_drop {ps : List Pk} {k j : Nat} {u : Value} (hk : k ≤ ps.length) (h : ((ps.drop k).flatMap Pk.c)[j]? = some u) : (ps.flatMap Pk.c)[k * 3 + j]? = some u := by
  have hl : ((ps.take k).flatMap Pk.c).length = k * 3 := by rw [flat_len Pk.c 3 Pk.c3, List.length_take]; omega
  rw [← List.take_append_drop k ps, List.flatMap_append, List.getElem?_append_right (by rw [hl]; omega), hl, Nat.add_sub_cancel_left]
  exact h
theorem Pk.ones (ps : List Pk) : ∀ u ∈ ps.flatMap Pk.c, u.oneCell' = true := by
  intro u hu
  obtain ⟨p, _, hp⟩ := List.mem_flatMap.1 hu
  exact p.one u hp

theorem sits_take {ok ok' : Nat → Prop} {a : Option Addr} {ps : List Pk} {k : Nat} {xs : List Value} (h : Sits ok a (ps.flatMap Pk.c)) (hk : k < ps.length) : Sits (fun g => ok g ∨ ok' g) a xs := by
  rcases h with h | h
  · have := flat_len Pk.c 3 Pk.c3 ps
    rw [h] at this
    simp at this
    omega
  · exact .inr fun b off f e => .inl (h b off f e)

set_option maxHeartbeats 4000000 in
theorem without_any (ok : Nat → Prop) (ps : List Pk) (ls : List (Int × Int)) (i : Nat) (v : Value) (w : World) (hp : ps.length ≤ 1000) (hi : i < ps.length) (hv : NetIs ok w v ps ls) :
    Calls Try.prog 38 #[v, .int .i64 i] w fun e w' => ∃ v', e = .returned v' ∧ NetIs (fun g => ok g ∨ w.heap.size ≤ g) w' v' (ps.take i ++ ps.drop (i + 1)) ls ∧ Below w.heap.size w w' := by
  obtain ⟨qa, aa, qc, ac, rfl, hq, ha, ⟨hqc, hqn⟩, hfa, hsq, hsa⟩ := hv
  have HSQ := hid hsq; clear hsq
  have HSA := hid hsa; clear hsa
  obtain ⟨b, off, rfl, hb, hcc⟩ := Rd.base hq (by rw [flat_len Pk.c 3 Pk.c3]; omega)
  have HQ := hid hq; clear hq
  have HA := hid ha; clear ha
  have HC := hid hcc; clear hcc
  have hnv : netV ps ls (some ⟨b, off, none⟩) aa qc ac = .agg #[.slice (some ⟨b, off, none⟩) ps.length qc, .slice aa ls.length ac] := rfl
  obtain ⟨i0, hi0, hz0, hz1, hz2⟩ := info_parts info28
  go_enter Try.func38, Try.ntmps38
  go_wp2_with fail
  have hw : IntKind.i64.wrap ((i : Int) + 1) = ((i + 1 : Nat) : Int) := by simp [IntKind.wrap_i64]; omega
  have hn1 : (((i + 1 : Nat) : Int)).toNat = i + 1 := rfl
  have h2 : i ≤ qc := by omega
  have h3 : i + 1 ≤ ps.length := by omega
  by_cases hlast : i + 1 < ps.length
  · have h4 : ¬ qc = i + 1 := by omega
    have h5 : 0 ≤ (i : Int) + 1 := by omega
    have h6 : (i : Int) + 1 ≤ ps.length := by omega
    go_region_law (refine step_append_grows rfl (.tmp 9) (.tmp 14) 22 rfl 28 i0 (.agg #[.int .i64 0, .int .i64 0, .slice none 0 0]) 3 40 und22 hi0 hz0 hz1 hz2 rfl (by decide) (some ⟨b, off, none⟩) i i ((ps.take i).flatMap Pk.c) (by simp [Act.eval, Act.put]) (by simp) (by rw [flat_len Pk.c 3 Pk.c3, List.length_take]; omega) (fun b' hb' j u hu => by cases hb'; rw [Addr.add_lit]; exact HC.out _ (by repeat (first | exact Below.refl _ _ | assumption | refine b_then ?_ (by assumption) | refine b_alloc ?_ _ | refine b_drewN ?_ _ | refine b_drew ?_ | refine b_set ?_ (by omega) _ | refine b_set ?_ (by simp) _)) j u (flat_take hu)) ⟨b, off + (i + 1) * 3, none⟩ (ps.length - (i + 1)) (qc - (i + 1)) ((ps.drop (i + 1)).flatMap Pk.c) (by simp [Act.eval, Act.put]) (by rw [flat_len Pk.c 3 Pk.c3, List.length_drop]) (fun j u hu => by rw [Addr.add_lit, Nat.add_assoc]; exact HC.out _ (by repeat (first | exact Below.refl _ _ | assumption | refine b_then ?_ (by assumption) | refine b_alloc ?_ _ | refine b_drewN ?_ _ | refine b_drew ?_ | refine b_set ?_ (by omega) _ | refine b_set ?_ (by simp) _)) _ u (flat_drop (by omega) hu)) (Pk.ones _) (by omega) (by unfold maxLen; omega) (by omega) ?_; intro v' w' hown hgrow; obtain ⟨g, cap, rfl, hg1, hg2⟩ := World.ownsRow.form hown (by omega); have hB3 : Below (((w.alloc (.cells #[.slice (some ⟨b, off, none⟩) ps.length qc, .slice aa ls.length ac] 25)).alloc (.cells #[.slice none 0 0, .slice none 0 0] 25)).drew).heap.size (((w.alloc (.cells #[.slice (some ⟨b, off, none⟩) ps.length qc, .slice aa ls.length ac] 25)).alloc (.cells #[.slice none 0 0, .slice none 0 0] 25)).drew) w' := b_grown (Below.refl _ _) hgrow (by simp); have hown' := own_le hown; have hR3 := Rd.own hown; have hsz := hB3.size; have k0 : w'.cell? ⟨w.heap.size, 0, none⟩ = some (.slice (some ⟨b, off, none⟩) ps.length qc) := bb hB3 (by first | (simp; done) | omega | (simp; omega)) (by rw [World.cell?_drew]; exact (by repeat (first | assumption | exact bn (by first | (simp; done) | omega | (simp; omega)) rfl | refine bo (by first | (simp; done) | omega | (simp; omega)) ?_ | refine bb (by assumption) (by first | (simp; done) | omega | (simp; omega)) ?_))); have k1 : w'.cell? ⟨w.heap.size, 1, none⟩ = some (.slice aa ls.length ac) := bb hB3 (by first | (simp; done) | omega | (simp; omega)) (by rw [World.cell?_drew]; exact (by repeat (first | assumption | exact bn (by first | (simp; done) | omega | (simp; omega)) rfl | refine bo (by first | (simp; done) | omega | (simp; omega)) ?_ | refine bb (by assumption) (by first | (simp; done) | omega | (simp; omega)) ?_))); have f0 : w'.frozen? ⟨w.heap.size, 0, none⟩ = false := fb hB3 (by first | (simp; done) | omega | (simp; omega)) (by rw [World.frozen?_drew]; exact (by repeat (first | assumption | exact fn (by first | (simp; done) | omega | (simp; omega)) | refine fo (by first | (simp; done) | omega | (simp; omega)) ?_ | refine fb (by assumption) (by first | (simp; done) | omega | (simp; omega)) ?_))))
    all_goals (
      have e0 : w'.cell? ⟨w.heap.size + 1, 0, none⟩ = some (.slice none 0 0) := bb hB3 (by first | (simp; done) | omega | (simp; omega)) (by rw [World.cell?_drew]; exact (by repeat (first | assumption | exact bn (by first | (simp; done) | omega | (simp; omega)) rfl | refine bo (by first | (simp; done) | omega | (simp; omega)) ?_ | refine bb (by assumption) (by first | (simp; done) | omega | (simp; omega)) ?_)))
      have e1 : w'.cell? ⟨w.heap.size + 1, 1, none⟩ = some (.slice none 0 0) := bb hB3 (by first | (simp; done) | omega | (simp; omega)) (by rw [World.cell?_drew]; exact (by repeat (first | assumption | exact bn (by first | (simp; done) | omega | (simp; omega)) rfl | refine bo (by first | (simp; done) | omega | (simp; omega)) ?_ | refine bb (by assumption) (by first | (simp; done) | omega | (simp; omega)) ?_)))
      have fe0 : w'.frozen? ⟨w.heap.size + 1, 0, none⟩ = false := fb hB3 (by first | (simp; done) | omega | (simp; omega)) (by rw [World.frozen?_drew]; exact (by repeat (first | assumption | exact fn (by first | (simp; done) | omega | (simp; omega)) | refine fo (by first | (simp; done) | omega | (simp; omega)) ?_ | refine fb (by assumption) (by first | (simp; done) | omega | (simp; omega)) ?_)))
      have fe1 : w'.frozen? ⟨w.heap.size + 1, 1, none⟩ = false := fb hB3 (by first | (simp; done) | omega | (simp; omega)) (by rw [World.frozen?_drew]; exact (by repeat (first | assumption | exact fn (by first | (simp; done) | omega | (simp; omega)) | refine fo (by first | (simp; done) | omega | (simp; omega)) ?_ | refine fb (by assumption) (by first | (simp; done) | omega | (simp; omega)) ?_)))
      have hW3 : Below w.heap.size w w' := b_then (b_drew (b_alloc (b_alloc (Below.refl _ _) _) _)) hB3
      have hgne : w.heap.size + 1 < g := by simp at hg1; omega
      obtain ⟨X, hX⟩ : ∃ X, X = w'.setCell ⟨w.heap.size, 0, none⟩ (.slice (some ⟨g, 0, none⟩) (i + (ps.length - (i + 1))) cap) := ⟨_, rfl⟩
      rw [← hX]
      have x0 : X.cell? ⟨w.heap.size, 0, none⟩ = some (.slice (some ⟨g, 0, none⟩) (i + (ps.length - (i + 1))) cap) := by rw [hX]; exact st_hit _ k0
      have x1 : X.cell? ⟨w.heap.size, 1, none⟩ = some (.slice aa ls.length ac) := by rw [hX]; exact st_off _ (.inl (by decide)) k1
      have y0 : X.cell? ⟨w.heap.size + 1, 0, none⟩ = some (.slice none 0 0) := by rw [hX]; exact st_off _ (.inr (by omega)) e0
      have y1 : X.cell? ⟨w.heap.size + 1, 1, none⟩ = some (.slice none 0 0) := by rw [hX]; exact st_off _ (.inr (by omega)) e1
      have z0 : X.frozen? ⟨w.heap.size + 1, 0, none⟩ = false := by rw [hX]; exact sf _ fe0
      have z1 : X.frozen? ⟨w.heap.size + 1, 1, none⟩ = false := by rw [hX]; exact sf _ fe1
      have hBX : Below w.heap.size w X := by rw [hX]; exact b_set hW3 (Nat.le_refl _) _
      have hRX : Rd X (some ⟨g, 0, none⟩) ((ps.take i ++ ps.drop (i + 1)).flatMap Pk.c) := by
        rw [hX]
        refine Rd.set ?_ (by intro g' off' h; simp only [Option.some.injEq, Addr.mk.injEq] at h; omega) _
        rw [List.flatMap_append]; exact hR3
      have HRX := hid hRX
      have r0 := two0 y0
      have r1 := two1 y1
      clear hX hRX hR3 hown hgrow hg1 hg2 k0 k1 f0 e0 e1 fe0 fe1 hB3 hW3 hsz
      go_wp2_with fail
      refine bodyPost_ret (v := .agg #[.slice (some ⟨g, 0, none⟩) (i + (ps.length - (i + 1))) cap, .slice aa ls.length ac]) (by simp [results, Try.results38, go_sem, r0, r1]) rfl ⟨_, rfl, ⟨some ⟨g, 0, none⟩, aa, cap, ac, ?_, Rd.set (Rd.set HRX.out (fun g' off' h => by simp only [Option.some.injEq, Addr.mk.injEq] at h; omega) _) (fun g' off' h => by simp only [Option.some.injEq, Addr.mk.injEq] at h; omega) _, HA.out.below (by repeat (first | exact Below.refl _ _ | assumption | refine b_then ?_ (by assumption) | refine b_alloc ?_ _ | refine b_drewN ?_ _ | refine b_drew ?_ | refine b_set ?_ (by omega) _ | refine b_set ?_ (by simp) _)), ⟨?_, fun h => by simp at h⟩, hfa, .inr fun g' off' f' h => .inr (by simp only [Option.some.injEq, Addr.mk.injEq] at h; omega), HSA.out.mono fun b h => .inl h⟩, (by repeat (first | exact Below.refl _ _ | assumption | refine b_then ?_ (by assumption) | refine b_alloc ?_ _ | refine b_drewN ?_ _ | refine b_drew ?_ | refine b_set ?_ (by omega) _ | refine b_set ?_ (by simp) _))⟩
      · simp [netV, List.length_take, List.length_drop]; omega
      · simp [List.length_take, List.length_drop]; omega)
  · have h5 : 0 ≤ (i : Int) + 1 := by omega
    have h6 : (i : Int) + 1 ≤ ps.length := by omega
    have h7 : (i : Int) ≤ (i : Int) + 1 := by omega
    by_cases h4 : qc = i + 1
    · skip
      go_region_law (refine step_append_room rfl (.tmp 9) (.tmp 14) 22 rfl 28 i0 3 und22 hi0 hz1 b off i i (by simp [Act.eval, Act.put]) ⟨b, off, none⟩ (ps.length - (i + 1)) 0 [] (by simp [Act.eval, Act.put]) (by simp; omega) (by simp) (by simp) (by omega) (by simp) ?_; rw [World.setCells])
      all_goals (
        go_wp2_with fail
        refine bodyPost_ret (v := .agg #[.slice (some ⟨b, off, none⟩) (i + (ps.length - (i + 1))) i, .slice aa ls.length ac]) (by simp [results, Try.results38, go_sem]) rfl ⟨_, rfl, ⟨some ⟨b, off, none⟩, aa, i, ac, ?_, ?_, HA.out.below (by repeat (first | exact Below.refl _ _ | assumption | refine b_then ?_ (by assumption) | refine b_alloc ?_ _ | refine b_drewN ?_ _ | refine b_drew ?_ | refine b_set ?_ (by omega) _ | refine b_set ?_ (by simp) _)), ⟨?_, fun h => by simp at h⟩, hfa, sits_take HSQ.out (by omega), HSA.out.mono fun b h => .inl h⟩, (by repeat (first | exact Below.refl _ _ | assumption | refine b_then ?_ (by assumption) | refine b_alloc ?_ _ | refine b_drewN ?_ _ | refine b_drew ?_ | refine b_set ?_ (by omega) _ | refine b_set ?_ (by simp) _))⟩
        · simp [netV, List.length_take, List.length_drop]; omega
        · refine .inr ⟨b, off, rfl, ?_, fun j u hu => HC.out _ (by repeat (first | exact Below.refl _ _ | assumption | refine b_then ?_ (by assumption) | refine b_alloc ?_ _ | refine b_drewN ?_ _ | refine b_drew ?_ | refine b_set ?_ (by omega) _ | refine b_set ?_ (by simp) _)) j u (flat_take (k := i) ?_)⟩
          · simp; omega
          · rw [List.drop_of_length_le (by omega), List.append_nil] at hu; exact hu
        · simp [List.length_take, List.length_drop]; omega)
    · skip
      go_region_law (refine step_append_room rfl (.tmp 9) (.tmp 14) 22 rfl 28 i0 3 und22 hi0 hz1 b off i i (by simp [Act.eval, Act.put]) ⟨b, off + (i + 1) * 3, none⟩ (ps.length - (i + 1)) (qc - (i + 1)) [] (by simp [Act.eval, Act.put]) (by simp; omega) (by simp) (by simp) (by omega) (by simp) ?_; rw [World.setCells])
      all_goals (
        go_wp2_with fail
        refine bodyPost_ret (v := .agg #[.slice (some ⟨b, off, none⟩) (i + (ps.length - (i + 1))) i, .slice aa ls.length ac]) (by simp [results, Try.results38, go_sem]) rfl ⟨_, rfl, ⟨some ⟨b, off, none⟩, aa, i, ac, ?_, ?_, HA.out.below (by repeat (first | exact Below.refl _ _ | assumption | refine b_then ?_ (by assumption) | refine b_alloc ?_ _ | refine b_drewN ?_ _ | refine b_drew ?_ | refine b_set ?_ (by omega) _ | refine b_set ?_ (by simp) _)), ⟨?_, fun h => by simp at h⟩, hfa, sits_take HSQ.out (by omega), HSA.out.mono fun b h => .inl h⟩, (by repeat (first | exact Below.refl _ _ | assumption | refine b_then ?_ (by assumption) | refine b_alloc ?_ _ | refine b_drewN ?_ _ | refine b_drew ?_ | refine b_set ?_ (by omega) _ | refine b_set ?_ (by simp) _))⟩
        · simp [netV, List.length_take, List.length_drop]; omega
        · refine .inr ⟨b, off, rfl, ?_, fun j u hu => HC.out _ (by repeat (first | exact Below.refl _ _ | assumption | refine b_then ?_ (by assumption) | refine b_alloc ?_ _ | refine b_drewN ?_ _ | refine b_drew ?_ | refine b_set ?_ (by omega) _ | refine b_set ?_ (by simp) _)) j u (flat_take (k := i) ?_)⟩
          · simp; omega
          · rw [List.drop_of_length_le (by omega), List.append_nil] at hu; exact hu
        · simp [List.length_take, List.length_drop]; omega)
end Go.Proofs.Ytmikhkmdcpgkfaa
