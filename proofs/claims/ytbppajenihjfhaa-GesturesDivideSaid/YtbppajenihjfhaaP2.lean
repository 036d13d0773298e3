/- The points' samples, and what the parts of a valid map meet. -/
import Derived.Test.YtbppajenihjfhaaP
namespace Go.Proofs.Ytbppajenihjfhaa
open Go.RowKit
open Go.Lib (hid)

/-- The next point: the same one, if there is none. -/
def nx (m : List Tp) (i : Nat) : Tp := tp m (min (i + 1) (m.length - 1))
/-- The sample of the i-th point. -/
def posAt (m : List Tp) : Nat → Int
  | 0 => 0
  | i + 1 => posAt m i + dur (tp m i) (nx m i) ((nx m i).k - (tp m i).k)
def partAt (m : List Tp) (i : Nat) : Tp × Tp × Int := (tp m i, nx m i, posAt m i)
def partsTo (m : List Tp) (j : Nat) : List (Tp × Tp × Int) := (List.range j).map (partAt m)
theorem partsTo_next (m : List Tp) (j : Nat) : partsTo m (j + 1) = partsTo m j ++ [partAt m j] := by simp [partsTo, List.range_succ]
theorem partsTo_len (m : List Tp) (j : Nat) : (partsTo m j).length = j := by simp [partsTo]
theorem nx_in {m : List Tp} {j : Nat} (h : j + 1 < m.length) : nx m j = tp m (j + 1) := by rw [nx, Nat.min_eq_left (by omega)]
theorem nx_end {m : List Tp} {j : Nat} (h : j + 1 = m.length) : nx m j = tp m j := by rw [nx, Nat.min_eq_right (by omega), ← h, Nat.add_sub_cancel]
section
variable {m : List Tp} (hg : goodB m = true)
include hg
theorem pt_at {j : Nat} (hj : j < m.length) : (tp m j).k ≤ 16777216 ∧ 1 ≤ (tp m j).n ∧ (tp m j).n ≤ 1048576 ∧ 1 ≤ (tp m j).d ∧ (tp m j).d ≤ 256 := (ptOk_iff _).1 (((good_iff m).1 hg).2.2.2.2 j hj).1
theorem st_at {j : Nat} (hj : j + 1 < m.length) : (tp m j).k < (tp m (j + 1)).k ∧ ((tp m j).r = true → (tp m (j + 1)).k - (tp m j).k ≤ 65536) := by
  have := (stOk_iff _ _).1 ((((good_iff m).1 hg).2.2.2.2 (j + 1) hj).2 (by omega))
  rwa [Nat.add_sub_cancel] at this
theorem k_nonneg {j : Nat} (hj : j < m.length) : 0 ≤ (tp m j).k := ((good_iff m).1 hg).2.2.2.nonneg j hj
theorem last_flat {j : Nat} (hj : j + 1 = m.length) : (tp m j).r = false := by
  have := ((good_iff m).1 hg).2.2.1
  rwa [← hj, Nat.add_sub_cancel] at this
theorem nx_ge {j : Nat} (hj : j < m.length) : (tp m j).k ≤ (nx m j).k := by
  by_cases h : j + 1 < m.length
  · rw [nx_in h]; exact Int.le_of_lt (st_at hg h).1
  · rw [nx_end (by omega)]; exact Int.le_refl _
theorem nx_le {j : Nat} (hj : j < m.length) : (nx m j).k ≤ 16777216 := by
  by_cases h : j + 1 < m.length
  · rw [nx_in h]; exact (pt_at hg h).1
  · rw [nx_end (by omega)]; exact (pt_at hg hj).1
theorem leg_at {j : Nat} (hj : j < m.length) : Leg (tp m j) (nx m j) := by
  obtain ⟨_, a1, a2, a3, a4⟩ := pt_at hg hj
  by_cases h : j + 1 < m.length
  · obtain ⟨_, b1, b2, b3, b4⟩ := pt_at hg h
    obtain ⟨s1, s2⟩ := st_at hg h
    rw [nx_in h]
    exact ⟨a1, a2, a3, a4, b1, b2, b3, b4, fun _ => by omega, s2⟩
  · have hr := last_flat hg (j := j) (by omega)
    rw [nx_end (by omega)]
    exact ⟨a1, a2, a3, a4, a1, a2, a3, a4, fun e => by rw [hr] at e; (cases e), fun e => by rw [hr] at e; (cases e)⟩
theorem pos_bd : ∀ j, j < m.length → 0 ≤ posAt m j ∧ posAt m j ≤ (tp m j).k * 1048576 := by
  intro j
  induction j with
  | zero => intro hj; exact ⟨Int.le_refl _, by rw [posAt]; have := k_nonneg hg hj; omega⟩
  | succ j ih =>
    intro hj
    obtain ⟨h1, h2⟩ := ih (by omega)
    have hl := leg_at hg (show j < m.length by omega)
    have hge := nx_ge hg (show j < m.length by omega)
    have d1 := dur_nonneg hl (t := (nx m j).k - (tp m j).k) (by omega) (fun _ => Int.le_refl _)
    have d2 := dur_le hl (t := (nx m j).k - (tp m j).k) (by omega) (fun _ => Int.le_refl _)
    rw [posAt]
    rw [nx_in hj] at d1 d2 hge ⊢
    exact ⟨by omega, by omega⟩
end
end Go.Proofs.Ytbppajenihjfhaa
