/- The last tick of a sample: what the laws ask. -/
import Derived.Test.YtbppajenihjfhaaP5
namespace Go.Proofs.Ytbppajenihjfhaa
theorem ex_tk {m : List Tp} (hg : goodB m = true) {pos : Int} (h0 : 0 ≤ pos) : ∃ r, IsTk m pos r := by
  have h : ∀ n : Nat, n ≤ 16777216 → (∃ r, IsTk m pos r) ∨ smpT m (n : Int) ≤ pos := by
    intro n
    induction n with
    | zero => intro _; right; rw [show ((0 : Nat) : Int) = 0 from rfl, smp_zero hg]; exact h0
    | succ n ih =>
      intro hn
      rcases ih (by omega) with h | h
      · exact .inl h
      · by_cases hc : smpT m ((n : Int) + 1) ≤ pos
        · right; rw [show ((n + 1 : Nat) : Int) = (n : Int) + 1 by omega]; exact hc
        · left; exact ⟨n, by omega, h, fun _ => by omega⟩
  rcases h 16777216 (by omega) with h | h
  · exact h
  · exact ⟨16777216, by omega, h, fun h => absurd h (by omega)⟩
theorem smE_0 {m : List Tp} {t : Int} : smE m t = 0 ↔ goodB m = true ∧ 0 ≤ t ∧ t ≤ 16777216 ∧ smpT m t ≤ 1099511627776 := by
  unfold smE
  split
  · split
    · constructor
      · intro h; omega
      · rintro ⟨_, _, _, _⟩; omega
    · split
      · constructor
        · intro h; omega
        · rintro ⟨_, _, _, _⟩; omega
      · rename_i h1 h2 h3
        exact ⟨fun _ => ⟨h1, by omega, by omega, by omega⟩, fun _ => rfl⟩
  · rename_i h
    exact ⟨fun h => by omega, fun h' => absurd h'.1 h⟩
theorem smV_eq {m : List Tp} {t : Int} (h : smE m t = 0) : smV m t = smpT m t := if_pos h
theorem smV_no {m : List Tp} {t : Int} (h : ¬ smE m t = 0) : smV m t = 0 := if_neg h
theorem tkE_0 {m : List Tp} {pos : Int} : tkE m pos = 0 ↔ goodB m = true ∧ 0 ≤ pos ∧ pos ≤ 1099511627776 := by
  unfold tkE
  split
  · split
    · constructor
      · intro h; omega
      · rintro ⟨_, _, _⟩; omega
    · rename_i h1 h2
      exact ⟨fun _ => ⟨h1, by omega, by omega⟩, fun _ => rfl⟩
  · rename_i h
    exact ⟨fun h => by omega, fun h' => absurd h'.1 h⟩
/-- What Tick answers is the last tick that begins there or before. -/
theorem tk_is {m : List Tp} {pos : Int} (h : tkE m pos = 0) : ∃ r : Nat, tkV m pos = r ∧ IsTk m pos r := by
  obtain ⟨hg, h0, _⟩ := tkE_0.1 h
  obtain ⟨r, hr⟩ := ex_tk hg h0
  exact ⟨r, by rw [tkV, if_pos h, tkT_is hg hr], hr⟩
theorem tk_smp {m : List Tp} {pos : Int} (h : tkE m pos = 0) : smE m (tkV m pos) = 0 ∧ smV m (tkV m pos) ≤ pos ∧ 0 ≤ tkV m pos ∧ tkV m pos ≤ 16777216 := by
  obtain ⟨hg, h0, h1⟩ := tkE_0.1 h
  obtain ⟨r, hr, hi, hs, _⟩ := tk_is h
  have he : smE m (tkV m pos) = 0 := smE_0.2 ⟨hg, by omega, by omega, by rw [hr]; omega⟩
  exact ⟨he, by rw [smV_eq he, hr]; exact hs, by omega, by omega⟩
theorem tk_next {m : List Tp} {pos : Int} (h : tkE m pos = 0) (hlt : tkV m pos < 16777216) (hn : ¬ smE m (tkV m pos + 1) = 70) : smE m (tkV m pos + 1) = 0 ∧ pos < smV m (tkV m pos + 1) := by
  obtain ⟨hg, h0, h1⟩ := tkE_0.1 h
  obtain ⟨r, hr, hi, _, hs⟩ := tk_is h
  have hs := hs (by omega)
  have he : smE m (tkV m pos + 1) = 0 := by
    refine smE_0.2 ⟨hg, by omega, by omega, ?_⟩
    refine Decidable.byContradiction fun hc => hn ?_
    unfold smE
    rw [if_pos hg, if_neg (by omega), if_pos (by omega)]
  exact ⟨he, by rw [smV_eq he, hr]; exact hs⟩
theorem sm_tk {m : List Tp} {t : Int} (h : smE m t = 0) : tkE m (smV m t) = 0 ∧ smE m (tkV m (smV m t)) = 0 ∧ t ≤ tkV m (smV m t) ∧ smV m (tkV m (smV m t)) = smV m t := by
  obtain ⟨hg, h0, h1, h2⟩ := smE_0.1 h
  have hb := smp_bd hg h0
  have hv := smV_eq h
  have ht : tkE m (smV m t) = 0 := tkE_0.2 ⟨hg, by rw [hv]; exact hb.1, by rw [hv]; exact h2⟩
  obtain ⟨e1, e2, e3, e4⟩ := tk_smp ht
  obtain ⟨r, hr, hi, hs, hn⟩ := tk_is ht
  have hle : t ≤ tkV m (smV m t) := by
    refine Decidable.byContradiction fun hc => ?_
    have hn := hn (by omega)
    have := smp_mono hg (a := (r : Int) + 1) (b := t) (by omega) (by omega)
    omega
  refine ⟨ht, e1, hle, ?_⟩
  have := smp_mono hg h0 hle
  rw [smV_eq e1] at e2 ⊢
  rw [hv] at e2 this ⊢
  omega
end Go.Proofs.Ytbppajenihjfhaa
