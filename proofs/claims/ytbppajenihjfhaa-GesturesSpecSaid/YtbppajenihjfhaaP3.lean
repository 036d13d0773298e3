/- The sample of a tick. -/
import Derived.Test.YtbppajenihjfhaaP2
namespace Go.Proofs.Ytbppajenihjfhaa
open Go.RowKit
open Go.Lib (hid)

/-- The i-th point is the last one that lies at the tick or before. -/
def IsAt (m : List Tp) (tick : Int) (i : Nat) : Prop := i < m.length ∧ (tp m i).k ≤ tick ∧ (i + 1 < m.length → tick < (tp m (i + 1)).k)
def ixGo (m : List Tp) (tick : Int) : Nat → Nat → Nat
  | 0, i => i
  | f + 1, i => if i + 1 < m.length ∧ (tp m (i + 1)).k ≤ tick then ixGo m tick f (i + 1) else i
def ixT (m : List Tp) (tick : Int) : Nat := ixGo m tick m.length 0
/-- The sample of a tick. -/
def smpT (m : List Tp) (tick : Int) : Int := posAt m (ixT m tick) + dur (tp m (ixT m tick)) (nx m (ixT m tick)) (tick - (tp m (ixT m tick)).k)
theorem ixGo_is {m : List Tp} {tick : Int} : ∀ (f i : Nat), i < m.length → (tp m i).k ≤ tick → m.length ≤ i + f → IsAt m tick (ixGo m tick f i)
  | 0, i, h1, _, h3 => by omega
  | f + 1, i, h1, h2, h3 => by
    unfold ixGo
    split
    · rename_i h
      exact ixGo_is f (i + 1) h.1 h.2 (by omega)
    · rename_i h
      exact ⟨h1, h2, fun hi => by
        refine Decidable.byContradiction fun hc => h ⟨hi, by omega⟩⟩
section
variable {m : List Tp} (hg : goodB m = true)
include hg
theorem len_pos : 0 < m.length := ((good_iff m).1 hg).1
theorem len_le : m.length ≤ 64 := ((good_iff m).1 hg).2.1
theorem k_zero : (tp m 0).k = 0 := ((good_iff m).1 hg).2.2.2.1
theorem k_mono {a b : Nat} (hab : a ≤ b) (hb : b < m.length) : (tp m a).k ≤ (tp m b).k := by
  induction b with
  | zero => rw [show a = 0 by omega]; exact Int.le_refl _
  | succ b ih =>
    by_cases h : a = b + 1
    · rw [h]; exact Int.le_refl _
    · exact Int.le_trans (ih (by omega) (by omega)) (Int.le_of_lt (st_at hg hb).1)
theorem isAt_ix {tick : Int} (h0 : 0 ≤ tick) : IsAt m tick (ixT m tick) := ixGo_is _ _ (len_pos hg) (by rw [k_zero hg]; exact h0) (by omega)
theorem isAt_one {tick : Int} {i j : Nat} (hi : IsAt m tick i) (hj : IsAt m tick j) : i = j := by
  obtain ⟨a, b, c⟩ := hi
  obtain ⟨d, e, f⟩ := hj
  refine Decidable.byContradiction fun hne => ?_
  rcases Nat.lt_or_gt_of_ne hne with h | h
  · have := k_mono hg (show i + 1 ≤ j by omega) d
    have := c (by omega)
    omega
  · have := k_mono hg (show j + 1 ≤ i by omega) a
    have := f (by omega)
    omega
theorem smp_at {tick : Int} (h0 : 0 ≤ tick) {i : Nat} (hi : IsAt m tick i) : posAt m i + dur (tp m i) (nx m i) (tick - (tp m i).k) = smpT m tick := by
  rw [isAt_one hg hi (isAt_ix hg h0)]
  rfl
theorem in_leg {tick : Int} {i : Nat} (hi : IsAt m tick i) (hr : (tp m i).r = true) : tick - (tp m i).k ≤ (nx m i).k - (tp m i).k := by
  obtain ⟨a, b, c⟩ := hi
  have hin : i + 1 < m.length := by
    refine Decidable.byContradiction fun hne => ?_
    rw [last_flat hg (j := i) (by omega)] at hr
    cases hr
  have := c hin
  rw [nx_in hin]
  omega
theorem dur_bd {tick : Int} {i : Nat} (hi : IsAt m tick i) : 0 ≤ dur (tp m i) (nx m i) (tick - (tp m i).k) ∧ dur (tp m i) (nx m i) (tick - (tp m i).k) ≤ (tick - (tp m i).k) * 1048576 :=
  ⟨dur_nonneg (leg_at hg hi.1) (by have := hi.2.1; omega) (in_leg hg hi), dur_le (leg_at hg hi.1) (by have := hi.2.1; omega) (in_leg hg hi)⟩
theorem smp_bd {tick : Int} (h0 : 0 ≤ tick) : 0 ≤ smpT m tick ∧ smpT m tick ≤ tick * 1048576 := by
  have hi := isAt_ix hg h0
  have h1 := pos_bd hg _ hi.1
  have h2 := dur_bd hg hi
  unfold smpT
  omega
end
/-- What Sample answers. -/
def smE (m : List Tp) (tick : Int) : Int := if goodB m = true then (if tick < 0 ∨ 16777216 < tick then 1 else if 1099511627776 < smpT m tick then 70 else 0) else 90
def smV (m : List Tp) (tick : Int) : Int := if smE m tick = 0 then smpT m tick else 0
end Go.Proofs.Ytbppajenihjfhaa
