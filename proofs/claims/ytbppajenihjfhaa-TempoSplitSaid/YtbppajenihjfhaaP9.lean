/- A further point with the same speed. -/
import Derived.Test.YtbppajenihjfhaaP8
namespace Go.Proofs.Ytbppajenihjfhaa
/-- The last of the first j points at a tick or before it; the first point, if there is none. -/
def lastT (m : List Tp) (at_ : Int) : Nat → Tp
  | 0 => tp m 0
  | j + 1 => if (tp m j).k ≤ at_ then tp m j else lastT m at_ j
theorem lastT_is {m : List Tp} (hg : goodB m = true) {at_ : Int} {i : Nat} (hi : IsAt m at_ i) : lastT m at_ m.length = tp m i := by
  obtain ⟨h1, h2, h3⟩ := hi
  have : ∀ j, j ≤ m.length → lastT m at_ j = if i < j then tp m i else if j = 0 then tp m 0 else tp m (j - 1) := by
    intro j
    induction j with
    | zero => intro _; rw [if_neg (by omega), if_pos rfl]; rfl
    | succ j ih =>
      intro hj
      rw [lastT, ih (by omega)]
      by_cases hc : i < j
      · have := h3 (by omega)
        have := k_mono hg (show i + 1 ≤ j by omega) (by omega)
        rw [if_neg (by omega), if_pos hc, if_pos (by omega)]
      · have := k_mono hg (show j ≤ i by omega) h1
        rw [if_pos (by omega)]
        by_cases hij : i = j
        · subst hij; rw [if_pos (by omega)]
        · rw [if_neg (by omega), if_neg (by omega), Nat.add_sub_cancel]
  rw [this _ (Nat.le_refl _), if_pos h1]
theorem lastT_low {m : List Tp} (hg : goodB m = true) {at_ : Int} (h : at_ < 0) : ∀ j, j ≤ m.length → lastT m at_ j = tp m 0 := by
  intro j
  induction j with
  | zero => intro _; rfl
  | succ j ih =>
    intro hj
    have := k_nonneg hg (show j < m.length by omega)
    rw [lastT, if_neg (by omega), ih (by omega)]
section
variable {m : List Tp} (hg : goodB m = true) {at_ : Int} {i : Nat} (hi : IsAt m at_ i) (hne : (tp m i).k ≠ at_)
include hg hi hne
/-- Where the further point goes. -/
theorem split_form {n d : Int} : insT m ⟨at_, n, d, false⟩ = m.take (i + 1) ++ ⟨at_, n, d, false⟩ :: m.drop (i + 1) ∧ i + 1 ≤ m.length := by
  obtain ⟨h1, h2, h3⟩ := hi
  obtain ⟨b, hb, a1, a2, _, _, _, a3⟩ := ins_form hg ⟨at_, n, d, false⟩
  have hbi : b = i + 1 := by
    refine Decidable.byContradiction fun hc => ?_
    rcases Nat.lt_or_gt_of_ne hc with h | h
    · have : at_ ≤ (tp m i).k := a2 i (by omega) h1
      omega
    · have := h3 (by omega)
      have : (tp m (i + 1)).k < at_ := a1 (i + 1) (by omega)
      omega
  subst hbi
  rcases a3 with ⟨a4, a5, _⟩ | ⟨_, a5⟩
  · have := h3 a4
    have a5 : (tp m (i + 1)).k = at_ := a5
    omega
  · exact ⟨a5, hb⟩
theorem split_good (hr : (tp m i).r = false) (h1 : at_ ≤ 16777216) (hl : m.length ≠ 64) : goodB (insT m ⟨at_, (tp m i).n, (tp m i).d, false⟩) = true := by
  obtain ⟨hf, hle⟩ := split_form hg hi hne (n := (tp m i).n) (d := (tp m i).d)
  have hlen := len_le hg
  obtain ⟨q1, q2, q3⟩ := hi
  have e1 : ∀ j, j < i + 1 → tp (insT m ⟨at_, (tp m i).n, (tp m i).d, false⟩) j = tp m j := fun j hj => by rw [hf, tp_take hle hj]
  have e2 : tp (insT m ⟨at_, (tp m i).n, (tp m i).d, false⟩) (i + 1) = ⟨at_, (tp m i).n, (tp m i).d, false⟩ := by rw [hf, tp_mid hle]
  have e3 : ∀ j, i + 1 < j → tp (insT m ⟨at_, (tp m i).n, (tp m i).d, false⟩) j = tp m (j - 1) := fun j hj => by rw [hf, tp_past hle hj]
  have el : (insT m ⟨at_, (tp m i).n, (tp m i).d, false⟩).length = m.length + 1 := by rw [hf, ins_len hle]
  refine (good_iff _).2 ⟨by omega, by omega, ?_, ?_, fun j hj => ⟨?_, fun hj0 => ?_⟩⟩
  · rw [el, Nat.add_sub_cancel]
    by_cases hc : i + 1 = m.length
    · rw [← hc, e2]
    · rw [e3 _ (by omega)]
      exact last_flat hg (by omega)
  · rw [e1 0 (by omega)]; exact k_zero hg
  · rw [el] at hj
    rcases Nat.lt_trichotomy j (i + 1) with h | h | h
    · rw [e1 j h]; exact (((good_iff m).1 hg).2.2.2.2 j (by omega)).1
    · subst h
      have hp := pt_at hg q1
      rw [e2, ptOk_iff]
      exact ⟨h1, hp.2.1, hp.2.2.1, hp.2.2.2.1, hp.2.2.2.2⟩
    · rw [e3 j h]; exact (((good_iff m).1 hg).2.2.2.2 (j - 1) (by omega)).1
  · rw [el] at hj
    rcases Nat.lt_trichotomy j (i + 1) with h | h | h
    · rw [e1 j h, e1 (j - 1) (by omega)]; exact (((good_iff m).1 hg).2.2.2.2 j (by omega)).2 hj0
    · subst h
      rw [e2, Nat.add_sub_cancel, e1 i (by omega), stOk_iff]
      exact ⟨by show (tp m i).k < at_; omega, fun h => by rw [hr] at h; cases h⟩
    · rw [e3 j h]
      by_cases hc : j - 1 = i + 1
      · rw [hc, e2, stOk_iff]
        exact ⟨by show at_ < _; exact q3 (by omega), fun h => by cases h⟩
      · rw [e3 (j - 1) (by omega)]; exact (((good_iff m).1 hg).2.2.2.2 (j - 1) (by omega)).2 (by omega)
end
theorem split_div {a b d : Int} (hd : 0 < d) : a / d + b / d ≤ (a + b) / d ∧ (a + b) / d ≤ a / d + b / d + 1 := by
  have a1 := Int.mul_ediv_self_le (x := a) (k := d) (by omega)
  have a2 := Int.lt_mul_ediv_self_add (x := a) hd
  have b1 := Int.mul_ediv_self_le (x := b) (k := d) (by omega)
  have b2 := Int.lt_mul_ediv_self_add (x := b) hd
  have e1 : (a / d + b / d) * d = d * (a / d) + d * (b / d) := by grind
  have e2 : (a / d + b / d + 2) * d = d * (a / d) + d * (b / d) + 2 * d := by grind
  have := Int.ediv_lt_of_lt_mul hd (show a + b < (a / d + b / d + 2) * d by omega)
  exact ⟨Int.le_ediv_of_mul_le hd (by omega), by omega⟩
theorem split_smp {m : List Tp} (hg : goodB m = true) {at_ : Int} {i : Nat} (hi : IsAt m at_ i) (hne : (tp m i).k ≠ at_) (hr : (tp m i).r = false) (hx : goodB (insT m ⟨at_, (tp m i).n, (tp m i).d, false⟩) = true) {tick : Int} (h0 : 0 ≤ tick) :
    smpT (insT m ⟨at_, (tp m i).n, (tp m i).d, false⟩) tick ≤ smpT m tick ∧ smpT m tick - smpT (insT m ⟨at_, (tp m i).n, (tp m i).d, false⟩) tick ≤ 1 := by
  obtain ⟨hf, hle⟩ := split_form hg hi hne (n := (tp m i).n) (d := (tp m i).d)
  obtain ⟨q1, q2, q3⟩ := hi
  have e1 : ∀ j, j < i + 1 → tp (insT m ⟨at_, (tp m i).n, (tp m i).d, false⟩) j = tp m j := fun j hj => by rw [hf, tp_take hle hj]
  have e2 : tp (insT m ⟨at_, (tp m i).n, (tp m i).d, false⟩) (i + 1) = ⟨at_, (tp m i).n, (tp m i).d, false⟩ := by rw [hf, tp_mid hle]
  have e3 : ∀ j, i + 1 < j → tp (insT m ⟨at_, (tp m i).n, (tp m i).d, false⟩) j = tp m (j - 1) := fun j hj => by rw [hf, tp_past hle hj]
  have el : (insT m ⟨at_, (tp m i).n, (tp m i).d, false⟩).length = m.length + 1 := by rw [hf, ins_len hle]
  generalize insT m ⟨at_, (tp m i).n, (tp m i).d, false⟩ = x at *
  clear hf
  by_cases hc : tick ≤ at_
  · have := smp_same hg hx (e := i) q1 (by omega) (fun j hj => e1 j (by omega)) h0 (fun h => Int.le_trans hc (Int.le_of_lt (q3 h))) (fun _ => by rw [e2]; exact hc) (fun h => by rw [hr] at h; cases h)
    omega
  have hp := pt_at hg q1
  have px : posAt x (i + 1) = posAt m i + (at_ - (tp m i).k) * (tp m i).n / (tp m i).d := by
    rw [posAt, pos_same q1 (by omega) (fun j hj => e1 j (by omega)) i (Nat.le_refl _), e1 i (by omega), nx_in (show i + 1 < x.length by omega), e2]
    unfold dur
    rw [hr]
    simp
  have hd : ∀ (q : Tp) (t : Int), dur ⟨at_, (tp m i).n, (tp m i).d, false⟩ q t = t * (tp m i).n / (tp m i).d := fun q t => by simp [dur]
  have hdm : ∀ (q : Tp) (t : Int), dur (tp m i) q t = t * (tp m i).n / (tp m i).d := fun q t => by simp [dur, hr]
  -- within the part itself
  have hin : ∀ t : Int, posAt x (i + 1) + (t - at_) * (tp m i).n / (tp m i).d ≤ posAt m i + (t - (tp m i).k) * (tp m i).n / (tp m i).d ∧ posAt m i + (t - (tp m i).k) * (tp m i).n / (tp m i).d ≤ posAt x (i + 1) + (t - at_) * (tp m i).n / (tp m i).d + 1 := fun t => by
    have := split_div (a := (at_ - (tp m i).k) * (tp m i).n) (b := (t - at_) * (tp m i).n) (show 0 < (tp m i).d by omega)
    rw [show (at_ - (tp m i).k) * (tp m i).n + (t - at_) * (tp m i).n = (t - (tp m i).k) * (tp m i).n by grind] at this
    rw [px]
    omega
  -- behind it
  have hpast : ∀ j, i + 1 ≤ j → j < m.length → posAt m j - posAt x (j + 1) = posAt m (i + 1) - posAt x (i + 2) := by
    intro j
    induction j with
    | zero => intro h _; omega
    | succ j ih =>
      intro h hj
      by_cases he : j = i
      · subst he; rfl
      · have := ih (by omega) (by omega)
        rw [posAt, posAt.eq_2 x (j + 1), nx_in (show j + 1 < m.length by omega), nx_in (show j + 1 + 1 < x.length by omega), e3 (j + 1) (by omega), e3 (j + 1 + 1) (by omega), Nat.add_sub_cancel, Nat.add_sub_cancel]
        omega
  have hm := isAt_ix hg h0
  generalize hj : ixT m tick = j at hm
  have hm' := hm
  obtain ⟨j1, j2, j3⟩ := hm'
  have hij : i ≤ j := by
    refine Decidable.byContradiction fun hc2 => ?_
    have := j3 (by omega)
    have := k_mono hg (show j + 1 ≤ i by omega) q1
    omega
  rw [← smp_at hg h0 hm]
  by_cases he : j = i
  · subst he
    have hxi : IsIn x tick (j + 1) := ⟨by omega, by rw [e2]; show at_ ≤ tick; omega, fun h => by rw [e3 (j + 1 + 1) (by omega), Nat.add_sub_cancel]; exact Int.le_of_lt (j3 (by omega))⟩
    rw [smp_in hx hxi, e2, hd, hdm]
    have := hin tick
    dsimp only
    omega
  · have hxi : IsIn x tick (j + 1) := ⟨by omega, by rw [e3 (j + 1) (by omega), Nat.add_sub_cancel]; exact j2, fun h => by rw [e3 (j + 1 + 1) (by omega), Nat.add_sub_cancel]; exact Int.le_of_lt (j3 (by omega))⟩
    have hnx : nx x (j + 1) = nx m j := by
      unfold nx
      rw [el, e3 _ (by omega)]
      congr 1
      omega
    rw [smp_in hx hxi, e3 (j + 1) (by omega), Nat.add_sub_cancel, hnx]
    have h1 := hpast j (by omega) j1
    have h2 := hin (tp m (i + 1)).k
    have p1 : posAt m (i + 1) = posAt m i + ((tp m (i + 1)).k - (tp m i).k) * (tp m i).n / (tp m i).d := by
      rw [posAt, nx_in (show i + 1 < m.length by omega), hdm]
    have p2 : posAt x (i + 2) = posAt x (i + 1) + ((tp m (i + 1)).k - at_) * (tp m i).n / (tp m i).d := by
      rw [posAt.eq_2 x (i + 1), nx_in (show i + 1 + 1 < x.length by omega), e3 (i + 1 + 1) (by omega), e2, hd, Nat.add_sub_cancel]
    omega
/-- TempoSplit. -/
theorem split_ok {m : List Tp} (hc : chkT m = 0) {at_ : Int} (hr : (lastT m at_ m.length).r = false) (hne : (lastT m at_ m.length).k ≠ at_) :
    (¬ insE m ⟨at_, (lastT m at_ m.length).n, (lastT m at_ m.length).d, false⟩ = 0 → at_ < 0 ∨ 16777216 < at_ ∨ m.length = 64) ∧
    (insE m ⟨at_, (lastT m at_ m.length).n, (lastT m at_ m.length).d, false⟩ = 0 → ∀ tick, 
      (¬ smE m tick = 0 → smE m tick = smE (insV m ⟨at_, (lastT m at_ m.length).n, (lastT m at_ m.length).d, false⟩) tick ∨ smE m tick = 70) ∧
      (smE m tick = 0 → smE (insV m ⟨at_, (lastT m at_ m.length).n, (lastT m at_ m.length).d, false⟩) tick = 0 ∧ smV (insV m ⟨at_, (lastT m at_ m.length).n, (lastT m at_ m.length).d, false⟩) tick ≤ smV m tick ∧
        smV m tick - smV (insV m ⟨at_, (lastT m at_ m.length).n, (lastT m at_ m.length).d, false⟩) tick ≤ 1)) := by
  have hg := chkT_good hc
  by_cases h0 : 0 ≤ at_
  · have hi := isAt_ix hg h0
    generalize ixT m at_ = i at hi
    have hl := lastT_is hg hi
    rw [hl] at hr hne ⊢
    refine ⟨fun hn => ?_, fun hz tick => ?_⟩
    · refine Decidable.byContradiction fun hcc => hn ?_
      exact chkT_ok (split_good hg hi hne hr (by omega) (by omega))
    · have hx := chkT_good hz
      rw [insV, if_pos hx]
      refine ⟨fun hne2 => ?_, fun hs => ?_⟩
      · unfold smE at hne2 ⊢
        rw [if_pos hg] at hne2 ⊢
        rw [if_pos hx]
        by_cases hc : tick < 0 ∨ 16777216 < tick
        · rw [if_pos hc, if_pos hc]; exact .inl rfl
        · rw [if_neg hc] at hne2 ⊢
          by_cases hc2 : 1099511627776 < smpT m tick
          · rw [if_pos hc2]; exact .inr rfl
          · rw [if_neg hc2] at hne2; exact absurd rfl hne2
      · obtain ⟨_, s1, s2, s3⟩ := smE_0.1 hs
        have hsp := split_smp hg hi hne hr hx s1
        have hs2 := smE_0.2 ⟨hx, s1, s2, by omega⟩
        exact ⟨hs2, by rw [smV_eq hs, smV_eq hs2]; omega, by rw [smV_eq hs, smV_eq hs2]; omega⟩
  · refine ⟨fun _ => .inl (by omega), fun hz => ?_⟩
    exfalso
    have hx := chkT_good hz
    obtain ⟨b, hb, a1, a2, a3, a4, a5, _⟩ := ins_form hg ⟨at_, (lastT m at_ m.length).n, (lastT m at_ m.length).d, false⟩
    have := k_nonneg hx a4
    rw [a3] at this
    have : 0 ≤ at_ := this
    omega
end Go.Proofs.Ytbppajenihjfhaa
