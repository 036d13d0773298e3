/- Later ticks do not begin earlier; the last tick of a sample. -/
import Derived.Test.YtbppajenihjfhaaP3
namespace Go.Proofs.Ytbppajenihjfhaa
open Go.RowKit
open Go.Lib (hid)

theorem mul_mono {a s t : Int} (ha : 0 ≤ a) (h : s ≤ t) : a * s ≤ a * t := Int.mul_le_mul_of_nonneg_left h ha
theorem rnum_mono {p q : Tp} (h : Leg p q) {s t : Int} (h0 : 0 ≤ s) (hst : s ≤ t) (h1 : t ≤ q.k - p.k) : rnum p q s ≤ rnum p q t := by
  rw [rnum_two, rnum_two]
  have a : 0 ≤ p.n * q.d := Int.mul_nonneg (by have := h.n1; omega) (by have := h.e1; omega)
  have b : 0 ≤ q.n * p.d := Int.mul_nonneg (by have := h.m1; omega) (by have := h.d1; omega)
  have c : s * (2 * (q.k - p.k) - s) ≤ t * (2 * (q.k - p.k) - t) := by
    have e : t * (2 * (q.k - p.k) - t) - s * (2 * (q.k - p.k) - s) = (t - s) * (2 * (q.k - p.k) - t - s) := by grind
    have := Int.mul_nonneg (show 0 ≤ t - s by omega) (show 0 ≤ 2 * (q.k - p.k) - t - s by omega)
    omega
  have d : s * s ≤ t * t := Int.mul_le_mul hst hst h0 (by omega)
  have := mul_mono a c
  have := mul_mono b d
  omega
theorem dur_mono {p q : Tp} (h : Leg p q) {s t : Int} (h0 : 0 ≤ s) (hst : s ≤ t) (h1 : p.r = true → t ≤ q.k - p.k) : dur p q s ≤ dur p q t := by
  unfold dur
  split
  · rename_i hr
    exact Int.ediv_le_ediv (rden_pos h hr) (rnum_mono h h0 hst (h1 hr))
  · exact Int.ediv_le_ediv (by have := h.d1; omega) (Int.mul_le_mul_of_nonneg_right hst (by have := h.n1; omega))
section
variable {m : List Tp} (hg : goodB m = true)
include hg
theorem pos_mono {i j : Nat} (hij : i ≤ j) (hj : j < m.length) : posAt m i ≤ posAt m j := by
  induction j with
  | zero => rw [show i = 0 by omega]; exact Int.le_refl _
  | succ j ih =>
    by_cases h : i = j + 1
    · rw [h]; exact Int.le_refl _
    · refine Int.le_trans (ih (by omega) (by omega)) ?_
      rw [posAt]
      have := dur_nonneg (leg_at hg (show j < m.length by omega)) (t := (nx m j).k - (tp m j).k) (by have := nx_ge hg (show j < m.length by omega); omega) (fun _ => Int.le_refl _)
      omega
theorem smp_mono {a b : Int} (h0 : 0 ≤ a) (hab : a ≤ b) : smpT m a ≤ smpT m b := by
  have ha := isAt_ix hg h0
  have hb := isAt_ix hg (show 0 ≤ b by omega)
  rw [← smp_at hg h0 ha, ← smp_at hg (by omega) hb]
  generalize ixT m a = i at ha
  generalize ixT m b = j at hb
  obtain ⟨i1, i2, i3⟩ := ha
  have hb' := hb
  obtain ⟨j1, j2, j3⟩ := hb'
  rcases Nat.lt_trichotomy i j with h | h | h
  · have c := i3 (by omega)
    have d := dur_mono (leg_at hg i1) (s := a - (tp m i).k) (t := (tp m (i + 1)).k - (tp m i).k) (by omega) (by omega) (fun _ => by rw [nx_in (show i + 1 < m.length by omega)]; exact Int.le_refl _)
    have e := pos_mono hg (show i + 1 ≤ j by omega) j1
    rw [posAt, nx_in (show i + 1 < m.length by omega)] at e
    rw [nx_in (show i + 1 < m.length by omega)] at d ⊢
    have f := (dur_bd hg hb).1
    omega
  · subst h
    have d := dur_mono (leg_at hg i1) (s := a - (tp m i).k) (t := b - (tp m i).k) (by omega) (by omega) (in_leg hg hb)
    omega
  · have := k_mono hg (show j + 1 ≤ i by omega) i1
    have := j3 (by omega)
    omega
theorem smp_zero : smpT m 0 = 0 := by
  have h := smp_bd hg (Int.le_refl 0)
  omega
end
/-- The last tick that begins at a sample or before. -/
def IsTk (m : List Tp) (pos : Int) (r : Nat) : Prop := r ≤ 16777216 ∧ smpT m r ≤ pos ∧ (r < 16777216 → pos < smpT m ((r : Int) + 1))
theorem isTk_one {m : List Tp} (hg : goodB m = true) {pos : Int} {r s : Nat} (hr : IsTk m pos r) (hs : IsTk m pos s) : r = s := by
  obtain ⟨a, b, c⟩ := hr
  obtain ⟨d, e, f⟩ := hs
  refine Decidable.byContradiction fun hne => ?_
  rcases Nat.lt_or_gt_of_ne hne with h | h
  · have := c (by omega)
    have := smp_mono hg (a := (r : Int) + 1) (b := s) (by omega) (by omega)
    omega
  · have := f (by omega)
    have := smp_mono hg (a := (s : Int) + 1) (b := r) (by omega) (by omega)
    omega
open Classical in
noncomputable def tkT (m : List Tp) (pos : Int) : Nat := if h : ∃ r, IsTk m pos r then h.choose else 0
theorem tkT_is {m : List Tp} (hg : goodB m = true) {pos : Int} {r : Nat} (h : IsTk m pos r) : tkT m pos = r := by
  have he : ∃ r, IsTk m pos r := ⟨r, h⟩
  rw [tkT, dif_pos he]
  exact isTk_one hg he.choose_spec h
/-- What Tick answers. -/
def tkE (m : List Tp) (pos : Int) : Int := if goodB m = true then (if pos < 0 ∨ 1099511627776 < pos then 1 else 0) else 90
noncomputable def tkV (m : List Tp) (pos : Int) : Int := if tkE m pos = 0 then tkT m pos else 0
theorem first_tk {m : List Tp} (hg : goodB m = true) {pos : Int} (h0 : 0 ≤ pos) {r : Nat} (hr : r ≤ 16777216) (h1 : ∀ x, x < r → decide (pos < smpT m ((x : Int) + 1)) = false) (h2 : ∀ x, r ≤ x → x < 16777216 → decide (pos < smpT m ((x : Int) + 1)) = true) : IsTk m pos r := by
  refine ⟨hr, ?_, fun h => by simpa using h2 r (Nat.le_refl _) h⟩
  by_cases hz : r = 0
  · subst hz
    rw [show ((0 : Nat) : Int) = 0 from rfl, smp_zero hg]
    exact h0
  · have := h1 (r - 1) (by omega)
    rw [show ((r - 1 : Nat) : Int) + 1 = r by omega] at this
    simpa using this
end Go.Proofs.Ytbppajenihjfhaa
