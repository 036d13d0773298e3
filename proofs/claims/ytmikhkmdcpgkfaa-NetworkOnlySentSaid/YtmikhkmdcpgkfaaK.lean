/- Lose, Repeat. -/
import Derived.Test.YtmikhkmdcpgkfaaJ
namespace Go.Proofs.Ytmikhkmdcpgkfaa
open Go.RowKit
open Go.Lib (hid)

noncomputable def leftQ (ps : List Pk) (ls : List (Int × Int)) (i : Int) : List Pk := if ask ps ls i = 0 then ps.take i.toNat ++ ps.drop (i.toNat + 1) else []
noncomputable def leftL (ps : List Pk) (ls : List (Int × Int)) (i : Int) : List (Int × Int) := if ask ps ls i = 0 then ls else []
theorem ask_in {ps : List Pk} {ls : List (Int × Int)} {i : Int} (h : ask ps ls i = 0) : 0 ≤ i ∧ i.toNat < ps.length ∧ chk ps ls = 0 := by
  unfold ask at h
  split at h
  · rename_i hc
    split at h
    · rename_i hi
      exact ⟨hi.1, by omega, hc⟩
    · omega
  · omega
theorem NetIs.form {ok : Nat → Prop} {w : World} {v : Value} {ps : List Pk} {ls : List (Int × Int)} (h : NetIs ok w v ps ls) : ∃ qa aa qc ac, v = .agg #[.slice qa ps.length qc, .slice aa ls.length ac] := by
  obtain ⟨qa, aa, qc, ac, hv, -⟩ := h
  exact ⟨qa, aa, qc, ac, hv⟩

theorem two0a {w : World} {b : Nat} {u : Value} (hb : b < w.heap.size) (h0 : w.cell? ⟨b, 0, none⟩ = some u) : ∀ x y o, (((w.setCell ⟨b, 0, none⟩ x).setCell ⟨b, 1, none⟩ y).alloc o).cell? ⟨b, 0, none⟩ = some x := fun x y o => bo (by simpa using hb) (two0 h0 x y)
theorem two1a {w : World} {b : Nat} {u : Value} (hb : b < w.heap.size) (h1 : w.cell? ⟨b, 1, none⟩ = some u) : ∀ x y o, (((w.setCell ⟨b, 0, none⟩ x).setCell ⟨b, 1, none⟩ y).alloc o).cell? ⟨b, 1, none⟩ = some y := fun x y o => bo (by simpa using hb) (two1 h1 x y)

set_option maxHeartbeats 1000000 in
theorem Lose_any (ok : Nat → Prop) (ps : List Pk) (ls : List (Int × Int)) (i : Int) (v : Value) (w : World) (hp : ps.length ≤ 1000) (hl : ls.length ≤ 1000) (hv : NetIs ok w v ps ls) :
    Calls Try.prog 23 #[v, .int .i64 i] w fun e w' => ∃ v', e = .returned (.tuple #[v', .int .i64 (ask ps ls i)]) ∧ NetIs (fun g => ok g ∨ w.heap.size ≤ g) w' v' (leftQ ps ls i) (leftL ps ls i) ∧ Below w.heap.size w w' := by
  have HV := hid hv.here
  obtain ⟨qa, aa, qc, ac, rfl⟩ := hv.form
  clear hv
  go_enter Try.func23, Try.ntmps23
  go_wp2_with fail
  refine (at_any _ ps ls i _ _ hp hl (HV.out.below (by repeat (first | exact Below.refl _ _ | assumption | refine b_then ?_ (by assumption) | refine b_alloc ?_ _ | refine b_drewN ?_ _ | refine b_drew ?_ | refine b_set ?_ (by omega) _ | refine b_set ?_ (by simp) _)))).mono ?_
  rintro e w1 ⟨rfl, hB1⟩
  have hsz := hB1.size
  simp at hsz
  have hW1 : Below w.heap.size w w1 := b_then (by repeat (first | exact Below.refl _ _ | assumption | refine b_then ?_ (by assumption) | refine b_alloc ?_ _ | refine b_drewN ?_ _ | refine b_drew ?_ | refine b_set ?_ (by omega) _ | refine b_set ?_ (by simp) _)) hB1
  have c0 : w1.cell? ⟨w.heap.size, 0, none⟩ = some (.slice qa ps.length qc) := bb hB1 (by first | (simp; done) | omega | (simp; omega)) (by repeat (first | assumption | exact bn (by first | (simp; done) | omega | (simp; omega)) rfl | refine bo (by first | (simp; done) | omega | (simp; omega)) ?_ | refine bb (by assumption) (by first | (simp; done) | omega | (simp; omega)) ?_ | exact st_hit _ (by assumption) | refine st_off _ (by first | (left; decide) | (right; omega) | (right; simp; omega)) ?_))
  have fc0 : w1.frozen? ⟨w.heap.size, 0, none⟩ = false := fb hB1 (by first | (simp; done) | omega | (simp; omega)) (by repeat (first | assumption | exact fn (by first | (simp; done) | omega | (simp; omega)) | refine fo (by first | (simp; done) | omega | (simp; omega)) ?_ | refine fb (by assumption) (by first | (simp; done) | omega | (simp; omega)) ?_ | refine sf _ ?_))
  have c1 : w1.cell? ⟨w.heap.size, 1, none⟩ = some (.slice aa ls.length ac) := bb hB1 (by first | (simp; done) | omega | (simp; omega)) (by repeat (first | assumption | exact bn (by first | (simp; done) | omega | (simp; omega)) rfl | refine bo (by first | (simp; done) | omega | (simp; omega)) ?_ | refine bb (by assumption) (by first | (simp; done) | omega | (simp; omega)) ?_ | exact st_hit _ (by assumption) | refine st_off _ (by first | (left; decide) | (right; omega) | (right; simp; omega)) ?_))
  have fc1 : w1.frozen? ⟨w.heap.size, 1, none⟩ = false := fb hB1 (by first | (simp; done) | omega | (simp; omega)) (by repeat (first | assumption | exact fn (by first | (simp; done) | omega | (simp; omega)) | refine fo (by first | (simp; done) | omega | (simp; omega)) ?_ | refine fb (by assumption) (by first | (simp; done) | omega | (simp; omega)) ?_ | refine sf _ ?_))
  have e0 : w1.cell? ⟨w.heap.size + 1, 0, none⟩ = some (.slice none 0 0) := bb hB1 (by first | (simp; done) | omega | (simp; omega)) (by repeat (first | assumption | exact bn (by first | (simp; done) | omega | (simp; omega)) rfl | refine bo (by first | (simp; done) | omega | (simp; omega)) ?_ | refine bb (by assumption) (by first | (simp; done) | omega | (simp; omega)) ?_ | exact st_hit _ (by assumption) | refine st_off _ (by first | (left; decide) | (right; omega) | (right; simp; omega)) ?_))
  have fe0 : w1.frozen? ⟨w.heap.size + 1, 0, none⟩ = false := fb hB1 (by first | (simp; done) | omega | (simp; omega)) (by repeat (first | assumption | exact fn (by first | (simp; done) | omega | (simp; omega)) | refine fo (by first | (simp; done) | omega | (simp; omega)) ?_ | refine fb (by assumption) (by first | (simp; done) | omega | (simp; omega)) ?_ | refine sf _ ?_))
  have e1 : w1.cell? ⟨w.heap.size + 1, 1, none⟩ = some (.slice none 0 0) := bb hB1 (by first | (simp; done) | omega | (simp; omega)) (by repeat (first | assumption | exact bn (by first | (simp; done) | omega | (simp; omega)) rfl | refine bo (by first | (simp; done) | omega | (simp; omega)) ?_ | refine bb (by assumption) (by first | (simp; done) | omega | (simp; omega)) ?_ | exact st_hit _ (by assumption) | refine st_off _ (by first | (left; decide) | (right; omega) | (right; simp; omega)) ?_))
  have fe1 : w1.frozen? ⟨w.heap.size + 1, 1, none⟩ = false := fb hB1 (by first | (simp; done) | omega | (simp; omega)) (by repeat (first | assumption | exact fn (by first | (simp; done) | omega | (simp; omega)) | refine fo (by first | (simp; done) | omega | (simp; omega)) ?_ | refine fb (by assumption) (by first | (simp; done) | omega | (simp; omega)) ?_ | refine sf _ ?_))

  by_cases hk : ask ps ls i = 0
  · obtain ⟨hi0, hlt, hc⟩ := ask_in hk
    obtain ⟨j, rfl⟩ := Int.eq_ofNat_of_zero_le hi0
    have hq : leftQ ps ls j = ps.take j ++ ps.drop (j + 1) := by simp [leftQ, hk]
    have hll : leftL ps ls j = ls := by simp [leftL, hk]
    have HQ := hid hq; clear hq
    have HL := hid hll; clear hll
    have Hk := hid hk
    rw [hk]
    clear hk
    go_wp2_with fail
    refine (without_any _ ps ls j (.agg #[.slice qa ps.length qc, .slice aa ls.length ac]) _ hp hlt (HV.out.below hW1)).mono ?_
    rintro e w2 ⟨v', rfl, hn, hB2⟩
    obtain ⟨qb, ab, qd, ad, rfl⟩ := hn.form
    have HN := hid hn; clear hn
    have e0' : w2.cell? ⟨w.heap.size + 1, 0, none⟩ = some (.slice none 0 0) := bb hB2 (by first | (simp; done) | omega | (simp; omega)) (by repeat (first | assumption | exact bn (by first | (simp; done) | omega | (simp; omega)) rfl | refine bo (by first | (simp; done) | omega | (simp; omega)) ?_ | refine bb (by assumption) (by first | (simp; done) | omega | (simp; omega)) ?_ | exact st_hit _ (by assumption) | refine st_off _ (by first | (left; decide) | (right; omega) | (right; simp; omega)) ?_))
    have fe0' : w2.frozen? ⟨w.heap.size + 1, 0, none⟩ = false := fb hB2 (by first | (simp; done) | omega | (simp; omega)) (by repeat (first | assumption | exact fn (by first | (simp; done) | omega | (simp; omega)) | refine fo (by first | (simp; done) | omega | (simp; omega)) ?_ | refine fb (by assumption) (by first | (simp; done) | omega | (simp; omega)) ?_ | refine sf _ ?_))
    have e1' : w2.cell? ⟨w.heap.size + 1, 1, none⟩ = some (.slice none 0 0) := bb hB2 (by first | (simp; done) | omega | (simp; omega)) (by repeat (first | assumption | exact bn (by first | (simp; done) | omega | (simp; omega)) rfl | refine bo (by first | (simp; done) | omega | (simp; omega)) ?_ | refine bb (by assumption) (by first | (simp; done) | omega | (simp; omega)) ?_ | exact st_hit _ (by assumption) | refine st_off _ (by first | (left; decide) | (right; omega) | (right; simp; omega)) ?_))
    have fe1' : w2.frozen? ⟨w.heap.size + 1, 1, none⟩ = false := fb hB2 (by first | (simp; done) | omega | (simp; omega)) (by repeat (first | assumption | exact fn (by first | (simp; done) | omega | (simp; omega)) | refine fo (by first | (simp; done) | omega | (simp; omega)) ?_ | refine fb (by assumption) (by first | (simp; done) | omega | (simp; omega)) ?_ | refine sf _ ?_))
    clear c0 fc0 c1 fc1 e0 fe0 e1 fe1
    have r0 := two0 e0'
    have r1 := two1 e1'
    have hW2 : Below w.heap.size w w2 := b_then hW1 hB2
    go_wp2_with fail
    refine bodyPost_ret (v := .tuple #[.agg #[.slice qb (ps.take j ++ ps.drop (j + 1)).length qd, .slice ab ls.length ad], .int .i64 0]) (by simp [results, Try.results23, go_sem, r0, r1]) rfl ⟨_, by rw [Hk.out], ?_, (by repeat (first | exact Below.refl _ _ | assumption | refine b_then ?_ (by assumption) | refine b_alloc ?_ _ | refine b_drewN ?_ _ | refine b_drew ?_ | refine b_set ?_ (by omega) _ | refine b_set ?_ (by simp) _))⟩
    rw [HQ.out, HL.out]
    exact ((HN.out.set (b := w.heap.size + 1) (by omega) _).set (b := w.heap.size + 1) (by omega) _).mono fun g h => h.elim (fun h => .inl h.1) (fun h => .inr (by omega))
  · have Hk := hid hk
    have hb : (ask ps ls i == 0) = false := beq_eq_false_iff_ne.2 hk
    clear hk
    have r0 := two0 e0
    have r1 := two1 e1
    go_wp2_with fail
    refine bodyPost_ret (v := .tuple #[.agg #[.slice none 0 0, .slice none 0 0], .int .i64 (ask ps ls i)]) (by simp [results, Try.results23, go_sem, r0, r1]) rfl ⟨_, rfl, ?_, (by repeat (first | exact Below.refl _ _ | assumption | refine b_then ?_ (by assumption) | refine b_alloc ?_ _ | refine b_drewN ?_ _ | refine b_drew ?_ | refine b_set ?_ (by omega) _ | refine b_set ?_ (by simp) _))⟩
    rw [show leftQ ps ls i = [] by simp [leftQ, Hk.out], show leftL ps ls i = [] by simp [leftL, Hk.out]]
    exact NetIs.zero _ _

/-- What Repeat answers. -/
def RepTo (ok : Nat → Prop) (ps : List Pk) (ls : List (Int × Int)) (i : Int) (w w' : World) (e : Ending) : Prop :=
  ∃ x, (∃ v, e = .returned (.tuple #[v, .int .i64 x]) ∧ (if ask ps ls i = 0 then (if pkOk (atP ps i) = true then x = 0 ∧ NetIs (fun g => ok g ∨ w.heap.size ≤ g) w' v (ps ++ [atP ps i]) ls else x = 60 ∧ NetIs (fun g => ok g ∨ w.heap.size ≤ g) w' v [] []) else x = ask ps ls i ∧ NetIs (fun g => ok g ∨ w.heap.size ≤ g) w' v [] [])) ∧ Below w.heap.size w w'

set_option maxHeartbeats 1000000 in
theorem Repeat_any (ok : Nat → Prop) (ps : List Pk) (ls : List (Int × Int)) (i : Int) (v : Value) (w : World) (hp : ps.length ≤ 1000) (hl : ls.length ≤ 1000) (hv : NetIs ok w v ps ls) :
    Calls Try.prog 25 #[v, .int .i64 i] w fun e w' => RepTo ok ps ls i w w' e := by
  have HV := hid hv.here
  obtain ⟨qa, aa, qc, ac, rfl⟩ := hv.form
  clear hv
  go_enter Try.func25, Try.ntmps25
  go_wp2_with fail
  refine (at_any _ ps ls i _ _ hp hl (HV.out.below (by repeat (first | exact Below.refl _ _ | assumption | refine b_then ?_ (by assumption) | refine b_alloc ?_ _ | refine b_drewN ?_ _ | refine b_drew ?_ | refine b_set ?_ (by omega) _ | refine b_set ?_ (by simp) _)))).mono ?_
  rintro e w1 ⟨rfl, hB1⟩
  have hsz := hB1.size
  simp at hsz
  have hW1 : Below w.heap.size w w1 := b_then (by repeat (first | exact Below.refl _ _ | assumption | refine b_then ?_ (by assumption) | refine b_alloc ?_ _ | refine b_drewN ?_ _ | refine b_drew ?_ | refine b_set ?_ (by omega) _ | refine b_set ?_ (by simp) _)) hB1
  have c0 : w1.cell? ⟨w.heap.size, 0, none⟩ = some (.slice qa ps.length qc) := bb hB1 (by first | (simp; done) | omega | (simp; omega)) (by repeat (first | assumption | exact bn (by first | (simp; done) | omega | (simp; omega)) rfl | refine bo (by first | (simp; done) | omega | (simp; omega)) ?_ | refine bb (by assumption) (by first | (simp; done) | omega | (simp; omega)) ?_ | exact st_hit _ (by assumption) | refine st_off _ (by first | (left; decide) | (right; omega) | (right; simp; omega)) ?_))
  have fc0 : w1.frozen? ⟨w.heap.size, 0, none⟩ = false := fb hB1 (by first | (simp; done) | omega | (simp; omega)) (by repeat (first | assumption | exact fn (by first | (simp; done) | omega | (simp; omega)) | refine fo (by first | (simp; done) | omega | (simp; omega)) ?_ | refine fb (by assumption) (by first | (simp; done) | omega | (simp; omega)) ?_ | refine sf _ ?_))
  have c1 : w1.cell? ⟨w.heap.size, 1, none⟩ = some (.slice aa ls.length ac) := bb hB1 (by first | (simp; done) | omega | (simp; omega)) (by repeat (first | assumption | exact bn (by first | (simp; done) | omega | (simp; omega)) rfl | refine bo (by first | (simp; done) | omega | (simp; omega)) ?_ | refine bb (by assumption) (by first | (simp; done) | omega | (simp; omega)) ?_ | exact st_hit _ (by assumption) | refine st_off _ (by first | (left; decide) | (right; omega) | (right; simp; omega)) ?_))
  have fc1 : w1.frozen? ⟨w.heap.size, 1, none⟩ = false := fb hB1 (by first | (simp; done) | omega | (simp; omega)) (by repeat (first | assumption | exact fn (by first | (simp; done) | omega | (simp; omega)) | refine fo (by first | (simp; done) | omega | (simp; omega)) ?_ | refine fb (by assumption) (by first | (simp; done) | omega | (simp; omega)) ?_ | refine sf _ ?_))
  have e0 : w1.cell? ⟨w.heap.size + 1, 0, none⟩ = some (.slice none 0 0) := bb hB1 (by first | (simp; done) | omega | (simp; omega)) (by repeat (first | assumption | exact bn (by first | (simp; done) | omega | (simp; omega)) rfl | refine bo (by first | (simp; done) | omega | (simp; omega)) ?_ | refine bb (by assumption) (by first | (simp; done) | omega | (simp; omega)) ?_ | exact st_hit _ (by assumption) | refine st_off _ (by first | (left; decide) | (right; omega) | (right; simp; omega)) ?_))
  have fe0 : w1.frozen? ⟨w.heap.size + 1, 0, none⟩ = false := fb hB1 (by first | (simp; done) | omega | (simp; omega)) (by repeat (first | assumption | exact fn (by first | (simp; done) | omega | (simp; omega)) | refine fo (by first | (simp; done) | omega | (simp; omega)) ?_ | refine fb (by assumption) (by first | (simp; done) | omega | (simp; omega)) ?_ | refine sf _ ?_))
  have e1 : w1.cell? ⟨w.heap.size + 1, 1, none⟩ = some (.slice none 0 0) := bb hB1 (by first | (simp; done) | omega | (simp; omega)) (by repeat (first | assumption | exact bn (by first | (simp; done) | omega | (simp; omega)) rfl | refine bo (by first | (simp; done) | omega | (simp; omega)) ?_ | refine bb (by assumption) (by first | (simp; done) | omega | (simp; omega)) ?_ | exact st_hit _ (by assumption) | refine st_off _ (by first | (left; decide) | (right; omega) | (right; simp; omega)) ?_))
  have fe1 : w1.frozen? ⟨w.heap.size + 1, 1, none⟩ = false := fb hB1 (by first | (simp; done) | omega | (simp; omega)) (by repeat (first | assumption | exact fn (by first | (simp; done) | omega | (simp; omega)) | refine fo (by first | (simp; done) | omega | (simp; omega)) ?_ | refine fb (by assumption) (by first | (simp; done) | omega | (simp; omega)) ?_ | refine sf _ ?_))

  have hgv : (got ps ls i).v = .agg #[.int .i64 (got ps ls i).fr, .int .i64 (got ps ls i).to, .slice (got ps ls i).da (got ps ls i).dn (got ps ls i).dc] := rfl
  by_cases hk : ask ps ls i = 0
  · obtain ⟨hi0, hlt, hc⟩ := ask_in hk
    have hg : got ps ls i = atP ps i := by simp [got, hk]
    have Hk := hid hk
    rw [hk]
    rw [hg] at hgv ⊢
    clear hk hg
    generalize hpp : atP ps i = p at hgv ⊢
    have Hp := hid hpp; clear hpp
    have hs0 : w.heap.size < w1.heap.size := by omega
    have hs1 : w.heap.size + 1 < w1.heap.size := by omega
    go_wp2_with fail
    refine (Send_any _ ps ls p (.agg #[.slice qa ps.length qc, .slice aa ls.length ac]) _ hp hl (HV.out.below (by repeat (first | exact Below.refl _ _ | assumption | refine b_then ?_ (by assumption) | refine b_alloc ?_ _ | refine b_drewN ?_ _ | refine b_drew ?_ | refine b_set ?_ (by omega) _ | refine b_set ?_ (by simp) _)))).mono ?_
    rintro e w2 ⟨x, ⟨v', rfl, hn⟩, hB2⟩
    have hsz2 := hB2.size
    simp at hsz2
    have e0' : w2.cell? ⟨w.heap.size + 1, 0, none⟩ = some (.slice none 0 0) := bb hB2 (by first | (simp; done) | omega | (simp; omega)) (by repeat (first | assumption | exact bn (by first | (simp; done) | omega | (simp; omega)) rfl | refine bo (by first | (simp; done) | omega | (simp; omega)) ?_ | refine bb (by assumption) (by first | (simp; done) | omega | (simp; omega)) ?_ | exact st_hit _ (by assumption) | refine st_off _ (by first | (left; decide) | (right; omega) | (right; simp; omega)) ?_))
    have fe0' : w2.frozen? ⟨w.heap.size + 1, 0, none⟩ = false := fb hB2 (by first | (simp; done) | omega | (simp; omega)) (by repeat (first | assumption | exact fn (by first | (simp; done) | omega | (simp; omega)) | refine fo (by first | (simp; done) | omega | (simp; omega)) ?_ | refine fb (by assumption) (by first | (simp; done) | omega | (simp; omega)) ?_ | refine sf _ ?_))
    have e1' : w2.cell? ⟨w.heap.size + 1, 1, none⟩ = some (.slice none 0 0) := bb hB2 (by first | (simp; done) | omega | (simp; omega)) (by repeat (first | assumption | exact bn (by first | (simp; done) | omega | (simp; omega)) rfl | refine bo (by first | (simp; done) | omega | (simp; omega)) ?_ | refine bb (by assumption) (by first | (simp; done) | omega | (simp; omega)) ?_ | exact st_hit _ (by assumption) | refine st_off _ (by first | (left; decide) | (right; omega) | (right; simp; omega)) ?_))
    have fe1' : w2.frozen? ⟨w.heap.size + 1, 1, none⟩ = false := fb hB2 (by first | (simp; done) | omega | (simp; omega)) (by repeat (first | assumption | exact fn (by first | (simp; done) | omega | (simp; omega)) | refine fo (by first | (simp; done) | omega | (simp; omega)) ?_ | refine fb (by assumption) (by first | (simp; done) | omega | (simp; omega)) ?_ | refine sf _ ?_))
    clear c0 fc0 c1 fc1 e0 fe0 e1 fe1
    have r0 := two0 e0'
    have r1 := two1 e1'
    have hW2 : Below w.heap.size w w2 := b_then (by repeat (first | exact Below.refl _ _ | assumption | refine b_then ?_ (by assumption) | refine b_alloc ?_ _ | refine b_drewN ?_ _ | refine b_drew ?_ | refine b_set ?_ (by omega) _ | refine b_set ?_ (by simp) _)) hB2
    have hn2 : ∃ qs rs, NetIs (fun g => (ok g ∧ g < w.heap.size) ∨ w1.heap.size ≤ g) w2 v' qs rs ∧ (if pkOk p = true then x = 0 ∧ qs = ps ++ [p] ∧ rs = ls else x = 60 ∧ qs = [] ∧ rs = []) := by
      split at hn
      · rename_i h
        refine ⟨_, _, hn.2.mono fun g h => ?_, ?_⟩
        · exact h.elim (fun h => .inl h) (fun h => .inr (by simp at h; omega))
        · rw [if_pos h.2]; exact ⟨hn.1, rfl, rfl⟩
      · rename_i h
        refine ⟨_, _, hn.2.mono fun g h => ?_, ?_⟩
        · exact h.elim (fun h => .inl h) (fun h => .inr (by simp at h; omega))
        · rw [if_neg (fun h2 => h ⟨hc, h2⟩)]; exact ⟨hn.1, rfl, rfl⟩
    clear hn
    obtain ⟨qs, rs, hn, hx⟩ := hn2
    obtain ⟨qb, ab, qd, ad, rfl⟩ := hn.form
    have HN := hid hn; clear hn
    have HX := hid hx; clear hx
    go_wp2_with fail
    refine bodyPost_ret (v := .tuple #[.agg #[.slice qb qs.length qd, .slice ab rs.length ad], .int .i64 x]) (by simp [results, Try.results25, go_sem, r0, r1]) rfl ⟨_, ⟨_, rfl, ?_⟩, (by repeat (first | exact Below.refl _ _ | assumption | refine b_then ?_ (by assumption) | refine b_alloc ?_ _ | refine b_drewN ?_ _ | refine b_drew ?_ | refine b_set ?_ (by omega) _ | refine b_set ?_ (by simp) _))⟩
    rw [if_pos Hk.out, Hp.out]
    have hm := ((HN.out.set (b := w.heap.size + 1) (o := 0) (by omega) (.slice qb qs.length qd)).set (b := w.heap.size + 1) (o := 1) (by omega) (.slice ab rs.length ad)).mono (ok' := fun g => ok g ∨ w.heap.size ≤ g) fun g h => h.elim (fun h => .inl h.1) (fun h => .inr (by omega))
    have hx := HX.out
    split at hx
    · rename_i hp
      obtain ⟨rfl, rfl, rfl⟩ := hx
      rw [if_pos hp]
      exact ⟨rfl, hm⟩
    · rename_i hp
      obtain ⟨rfl, rfl, rfl⟩ := hx
      rw [if_neg hp]
      exact ⟨rfl, hm⟩
  · have Hk := hid hk
    have hb : (ask ps ls i == 0) = false := beq_eq_false_iff_ne.2 hk
    clear hk
    have hs0 : w.heap.size < w1.heap.size := by omega
    have hs1 : w.heap.size + 1 < w1.heap.size := by omega
    have r0 := two0a hs1 e0
    have r1 := two1a hs1 e1
    go_wp2_with fail
    refine bodyPost_ret (v := .tuple #[.agg #[.slice none 0 0, .slice none 0 0], .int .i64 (ask ps ls i)]) (by simp [results, Try.results25, go_sem, r0, r1]) rfl ⟨_, ⟨_, rfl, ?_⟩, (by repeat (first | exact Below.refl _ _ | assumption | refine b_then ?_ (by assumption) | refine b_alloc ?_ _ | refine b_drewN ?_ _ | refine b_drew ?_ | refine b_set ?_ (by omega) _ | refine b_set ?_ (by simp) _))⟩
    rw [if_neg Hk.out]
    exact ⟨rfl, NetIs.zero _ _⟩
end Go.Proofs.Ytmikhkmdcpgkfaa
