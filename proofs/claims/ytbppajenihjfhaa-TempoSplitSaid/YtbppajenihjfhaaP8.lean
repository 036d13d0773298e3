/- What is inserted changes nothing before it. -/
import Derived.Test.YtbppajenihjfhaaP7
import Derived.Test.YtbppajenihjfhaaT
namespace Go.Proofs.Ytbppajenihjfhaa
/-- The last of the first j points that lies before k; -1: none. -/
def befT (m : List Tp) (k : Int) : Nat → Int
  | 0 => -1
  | j + 1 => if (tp m j).k < k then (j : Int) else befT m k j
def IsIn (m : List Tp) (tick : Int) (i : Nat) : Prop := i < m.length ∧ (tp m i).k ≤ tick ∧ (i + 1 < m.length → tick ≤ (tp m (i + 1)).k)
theorem smp_in {m : List Tp} (hg : goodB m = true) {tick : Int} {i : Nat} (h : IsIn m tick i) : smpT m tick = posAt m i + dur (tp m i) (nx m i) (tick - (tp m i).k) := by
  obtain ⟨h1, h2, h3⟩ := h
  have h0 := k_nonneg hg h1
  by_cases hc : i + 1 < m.length ∧ tick = (tp m (i + 1)).k
  · obtain ⟨hl, rfl⟩ := hc
    have hi : IsAt m (tp m (i + 1)).k (i + 1) := ⟨hl, Int.le_refl _, fun h => (st_at hg h).1⟩
    rw [← smp_at hg (k_nonneg hg hl) hi, Int.sub_self, dur_zero, posAt, nx_in hl]
    omega
  · exact (smp_at hg (by omega) ⟨h1, h2, fun h => by have := h3 h; omega⟩).symm
theorem pos_same {m x : List Tp} {e : Nat} (hm : e < m.length) (hx : e < x.length) (h : ∀ j, j ≤ e → tp x j = tp m j) : ∀ i, i ≤ e → posAt x i = posAt m i := by
  intro i
  induction i with
  | zero => intro _; rfl
  | succ i ih =>
    intro hi
    rw [posAt, posAt, ih (by omega), nx_in (show i + 1 < m.length by omega), nx_in (show i + 1 < x.length by omega), h i (by omega), h (i + 1) hi]
/-- Two valid maps that agree up to the e-th point, and go on no earlier than at the tick. -/
theorem smp_same {m x : List Tp} (hg : goodB m = true) (hx : goodB x = true) {e : Nat} (he : e < m.length) (hex : e < x.length) (h : ∀ j, j ≤ e → tp x j = tp m j) {tick : Int} (h0 : 0 ≤ tick)
    (hm1 : e + 1 < m.length → tick ≤ (tp m (e + 1)).k) (hx1 : e + 1 < x.length → tick ≤ (tp x (e + 1)).k) (hr : (tp m e).r = true → tick ≤ (tp m e).k) : smpT m tick = smpT x tick := by
  have hi := isAt_ix hg h0
  generalize ixT m tick = i0 at hi
  obtain ⟨i, hie, hin⟩ : ∃ i, i ≤ e ∧ IsIn m tick i := by
    obtain ⟨a, b, c⟩ := hi
    by_cases hc : i0 ≤ e
    · exact ⟨i0, hc, a, b, fun h => Int.le_of_lt (c h)⟩
    · exact ⟨e, Nat.le_refl _, he, Int.le_trans (k_mono hg (show e ≤ i0 by omega) a) b, hm1⟩
  obtain ⟨a, b, c⟩ := hin
  have hin : IsIn m tick i := ⟨a, b, c⟩
  have hix : IsIn x tick i := ⟨by omega, by rw [h i hie]; exact b, fun hl => by
    by_cases hc : i = e
    · subst hc; exact hx1 hl
    · rw [h (i + 1) (by omega)]; exact c (by omega)⟩
  rw [smp_in hg hin, smp_in hx hix, pos_same he hex h i hie, h i hie]
  congr 1
  by_cases hc : i = e
  · subst hc
    cases hrr : (tp m i).r
    · unfold dur
      rw [hrr]
      simp
    · have := hr hrr
      rw [show tick - (tp m i).k = 0 by omega, dur_zero, dur_zero]
  · rw [nx_in (show i + 1 < m.length by omega), nx_in (show i + 1 < x.length by omega), h (i + 1) (by omega)]
theorem tp_take {m l : List Tp} {b j : Nat} (hb : b ≤ m.length) (hj : j < b) : tp (m.take b ++ l) j = tp m j := by
  unfold tp
  rw [List.getD_eq_getElem?_getD, List.getD_eq_getElem?_getD, List.getElem?_append_left (by simp; omega), List.getElem?_take_of_lt hj]
theorem tp_mid {m l : List Tp} {b : Nat} {t : Tp} (hb : b ≤ m.length) : tp (m.take b ++ t :: l) b = t := by
  unfold tp
  rw [List.getD_eq_getElem?_getD, List.getElem?_append_right (by simp; omega)]
  simp [Nat.min_eq_left hb]
theorem tp_past {m : List Tp} {b j : Nat} {t : Tp} (hb : b ≤ m.length) (hj : b < j) : tp (m.take b ++ t :: m.drop b) j = tp m (j - 1) := by
  unfold tp
  rw [List.getD_eq_getElem?_getD, List.getD_eq_getElem?_getD, List.getElem?_append_right (by simp; omega), List.length_take, Nat.min_eq_left hb,
    show j - b = (j - b - 1) + 1 by omega, List.getElem?_cons_succ, List.getElem?_drop]
  congr 2
  omega
theorem tp_set {m : List Tp} {b j : Nat} {t : Tp} (hb : b < m.length) : tp (m.set b t) j = if j = b then t else tp m j := by
  unfold tp
  rw [List.getD_eq_getElem?_getD, List.getD_eq_getElem?_getD, List.getElem?_set]
  by_cases h : j = b
  · subst h; simp [hb]
  · rw [if_neg (by omega), if_neg h]
theorem ins_len {m : List Tp} {b : Nat} {t : Tp} (hb : b ≤ m.length) : (m.take b ++ t :: m.drop b).length = m.length + 1 := by
  simp; omega
/-- In a valid map: where the point goes. -/
theorem ins_form {m : List Tp} (hg : goodB m = true) (t : Tp) : ∃ b, b ≤ m.length ∧ (∀ i, i < b → (tp m i).k < t.k) ∧ (∀ i, b ≤ i → i < m.length → t.k ≤ (tp m i).k) ∧ tp (insT m t) b = t ∧ b < (insT m t).length ∧ (∀ i, i < b → tp (insT m t) i = tp m i) ∧
    ((b < m.length ∧ (tp m b).k = t.k ∧ insT m t = m.set b t) ∨ ((∀ i, b ≤ i → i < m.length → t.k < (tp m i).k) ∧ insT m t = m.take b ++ t :: m.drop b)) := by
  have hmono : ∀ i j, i < j → j < m.length → (tp m i).k < (tp m j).k := fun i j h hj => Int.lt_of_lt_of_le (st_at hg (show i + 1 < m.length by omega)).1 (k_mono hg (show i + 1 ≤ j by omega) hj)
  by_cases he : ∃ j, j < m.length ∧ (tp m j).k = t.k
  · obtain ⟨b, hb, hk⟩ := he
    have e := insT_same (m := m) (t := t) hb (by simpa using hk) (fun x hx => by have := hmono x b hx hb; simp; omega)
    refine ⟨b, by omega, fun i hi => by have := hmono i b hi hb; omega, fun i hi hl => by have := k_mono hg hi hl; omega, by rw [e, tp_set hb, if_pos rfl], by rw [e]; simpa using hb, fun i hi => by rw [e, tp_set hb, if_neg (by omega)], .inl ⟨hb, hk, e⟩⟩
  · have hne : ∀ x, x < m.length → ((tp m x).k == t.k) = false := fun x hx => by simp; exact fun h => he ⟨x, hx, h⟩
    obtain ⟨b, hbl, h1, h2, hf⟩ : ∃ b, b ≤ m.length ∧ (∀ i, i < b → (tp m i).k < t.k) ∧ (∀ i, b ≤ i → i < m.length → t.k < (tp m i).k) ∧ fstIx (fun i => decide (t.k < (tp m i).k)) m.length = b := by
      have : ∀ n, n ≤ m.length → (∃ b, b < n ∧ t.k < (tp m b).k ∧ ∀ i, i < b → ¬ t.k < (tp m i).k) ∨ ∀ i, i < n → ¬ t.k < (tp m i).k := by
        intro n
        induction n with
        | zero => intro _; exact .inr fun i hi => absurd hi (by omega)
        | succ n ih =>
          intro hn
          rcases ih (by omega) with ⟨b, h1, h2, h3⟩ | h
          · exact .inl ⟨b, by omega, h2, h3⟩
          · by_cases hc : t.k < (tp m n).k
            · exact .inl ⟨n, by omega, hc, h⟩
            · exact .inr fun i hi => by
                by_cases hin : i = n
                · subst hin; exact hc
                · exact h i (by omega)
      rcases this m.length (Nat.le_refl _) with ⟨b, h1, h2, h3⟩ | h
      · refine ⟨b, by omega, fun i hi => ?_, fun i hi hl => Int.lt_of_lt_of_le h2 (k_mono hg hi hl), fst_is h1 (by simpa using h2) fun x hx => by simpa using h3 x hx⟩
        have := h3 i hi
        have h4 : ¬ (tp m i).k = t.k := fun h => he ⟨i, by omega, h⟩
        omega
      · refine ⟨m.length, Nat.le_refl _, fun i hi => ?_, fun i hi hl => absurd hl (by omega), fst_none fun x hx => by simpa using h x hx⟩
        have := h i hi
        have h4 : ¬ (tp m i).k = t.k := fun h => he ⟨i, hi, h⟩
        omega
    have e := insT_new hne hf
    exact ⟨b, hbl, h1, fun i hi hl => Int.le_of_lt (h2 i hi hl), by rw [e, tp_mid hbl], by rw [e, ins_len hbl]; omega, fun i hi => by rw [e, tp_take hbl hi], .inr ⟨h2, e⟩⟩
theorem bef_is {m : List Tp} {k : Int} {b : Nat} (h1 : ∀ i, i < b → (tp m i).k < k) (h2 : ∀ i, b ≤ i → i < m.length → k ≤ (tp m i).k) : ∀ j, j ≤ m.length → befT m k j = (min j b : Nat) - 1 := by
  intro j
  induction j with
  | zero => intro _; simp [befT]
  | succ j ih =>
    intro hj
    rw [befT]
    by_cases hc : j < b
    · rw [if_pos (h1 j hc), Nat.min_eq_left (by omega)]; omega
    · have := h2 j (by omega) (by omega)
      rw [if_neg (by omega), ih (by omega), Nat.min_eq_right (by omega), Nat.min_eq_right (by omega)]
theorem bef_rng (m : List Tp) (k : Int) : ∀ j, -1 ≤ befT m k j ∧ befT m k j < j := by
  intro j
  induction j with
  | zero => simp [befT]
  | succ j ih => rw [befT]; split <;> omega
/-- The law's bound. -/
def untilT (m : List Tp) (t : Tp) : Int := if 0 ≤ befT m t.k m.length ∧ (tp m (befT m t.k m.length).toNat).r = true then (tp m (befT m t.k m.length).toNat).k else t.k
theorem smE_same {m x : List Tp} (hg : goodB m = true) (hx : goodB x = true) {tick : Int} (h : 0 ≤ tick → smpT m tick = smpT x tick) : smE m tick = smE x tick ∧ smV m tick = smV x tick := by
  have e : smE m tick = smE x tick := by
    unfold smE
    rw [if_pos hg, if_pos hx]
    by_cases hc : tick < 0 ∨ 16777216 < tick
    · rw [if_pos hc, if_pos hc]
    · rw [if_neg hc, if_neg hc, h (by omega)]
  refine ⟨e, ?_⟩
  unfold smV
  rw [← e]
  by_cases hc : smE m tick = 0
  · rw [if_pos hc, if_pos hc, h (smE_0.1 hc).2.1]
  · rw [if_neg hc, if_neg hc]
theorem ins_before {m : List Tp} (hg : goodB m = true) {t : Tp} (hx : goodB (insT m t) = true) {tick : Int} (hu : tick ≤ untilT m t) (h0 : 0 ≤ tick) : smpT m tick = smpT (insT m t) tick := by
  obtain ⟨b, hb, h1, h2, h3, h4, h5, _⟩ := ins_form hg t
  have hbf := bef_is h1 h2 m.length (Nat.le_refl _)
  rw [Nat.min_eq_right hb] at hbf
  unfold untilT at hu
  by_cases hb0 : b = 0
  · subst hb0
    have hz := k_zero hx
    rw [h3] at hz
    rw [if_neg (by omega)] at hu
    obtain rfl : tick = 0 := by omega
    rw [smp_zero hg, smp_zero hx]
  · obtain ⟨e, rfl⟩ : ∃ e, b = e + 1 := ⟨b - 1, by omega⟩
    have hbe : befT m t.k m.length = (e : Int) := by rw [hbf]; omega
    rw [hbe, Int.toNat_natCast] at hu
    have hke := h1 e (by omega)
    have htk : tick ≤ t.k := by
      split at hu
      · omega
      · exact hu
    refine smp_same hg hx (e := e) (by omega) (by omega) (fun j hj => h5 j (by omega)) h0 (fun hl => Int.le_trans htk (h2 (e + 1) (by omega) hl)) (fun _ => by rw [h3]; exact htk) (fun hr => ?_)
    rw [if_pos ⟨by omega, hr⟩] at hu
    exact hu
/-- TempoInserted. -/
theorem inserted {m : List Tp} {t : Tp} (hi : insE m t = 0) (hc : chkT m = 0) {tick : Int} (hu : tick ≤ untilT m t) : smE m tick = smE (insV m t) tick ∧ smV m tick = smV (insV m t) tick := by
  have hx := chkT_good hi
  have hg := chkT_good hc
  rw [insV, if_pos hx]
  exact smE_same hg hx fun h0 => ins_before hg hx hu h0
end Go.Proofs.Ytbppajenihjfhaa
