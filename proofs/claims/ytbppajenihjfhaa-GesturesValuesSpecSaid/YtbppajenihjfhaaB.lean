/- Tempo maps: points, and what Check says of a map. -/
import Derived.Test.YtbppajenihjfhaaV
import Derived.Test.YtbppajenihjfhaaS
namespace Go.Proofs.Ytbppajenihjfhaa
open Go.RowKit
open Go.Lib (hid)

/-- A point of a tempo map. -/
structure Tp where
  k : Int
  n : Int
  d : Int
  r : Bool
  deriving DecidableEq
def Tp.zero : Tp := ⟨0, 0, 0, false⟩
def Tp.c (t : Tp) : List Value := [.int .i64 t.k, .int .i64 t.n, .int .i64 t.d, .bool t.r]
def Tp.v (t : Tp) : Value := .agg #[.int .i64 t.k, .int .i64 t.n, .int .i64 t.d, .bool t.r]
theorem Tp.c4 (t : Tp) : t.c.length = 4 := rfl
theorem Tp.one (t : Tp) : ∀ u ∈ t.c, u.oneCell' = true := by
  intro u hu
  simp [Tp.c] at hu
  rcases hu with rfl | rfl | rfl | rfl <;> rfl
theorem Tp.ones (m : List Tp) : ∀ u ∈ m.flatMap Tp.c, u.oneCell' = true := by
  intro u hu
  obtain ⟨p, _, hp⟩ := List.mem_flatMap.1 hu
  exact p.one u hp
/-- The i-th point. -/
def tp (m : List Tp) (i : Nat) : Tp := m.getD i Tp.zero
theorem tp_eq {m : List Tp} {i : Nat} (h : i < m.length) : m[i] = tp m i := by simp [tp, h]
def ptOk (t : Tp) : Bool := !(decide (16777216 < t.k) || decide (t.n < 1) || decide (1048576 < t.n) || decide (t.d < 1) || decide (256 < t.d))
def stOk (p t : Tp) : Bool := !(decide (t.k ≤ p.k) || (p.r && decide (65536 < t.k - p.k)))
/-- The first j points are in order. -/
def Pre (m : List Tp) (j : Nat) : Prop := (tp m 0).k = 0 ∧ ∀ i, i < j → ptOk (tp m i) = true ∧ (0 < i → stOk (tp m (i - 1)) (tp m i) = true)
def goodB (m : List Tp) : Bool := decide (0 < m.length) && decide (m.length ≤ 64) && decide ((tp m 0).k = 0) && !(tp m (m.length - 1)).r && (List.range m.length).all fun i => ptOk (tp m i) && (i == 0 || stOk (tp m (i - 1)) (tp m i))
/-- What Check answers. -/
def chkT (m : List Tp) : Int := if goodB m = true then 0 else 90
theorem good_iff (m : List Tp) : goodB m = true ↔ 0 < m.length ∧ m.length ≤ 64 ∧ (tp m (m.length - 1)).r = false ∧ Pre m m.length := by
  unfold goodB Pre
  simp only [Bool.and_eq_true, decide_eq_true_eq, Bool.not_eq_true', List.all_eq_true, List.mem_range, Bool.or_eq_true, beq_iff_eq]
  constructor
  · rintro ⟨⟨⟨⟨h1, h2⟩, h3⟩, h4⟩, h5⟩
    exact ⟨h1, h2, h4, h3, fun i hi => ⟨(h5 i hi).1, fun h0 => (h5 i hi).2.resolve_left (by omega)⟩⟩
  · rintro ⟨h1, h2, h4, h3, h5⟩
    refine ⟨⟨⟨⟨h1, h2⟩, h3⟩, h4⟩, fun i hi => ⟨(h5 i hi).1, ?_⟩⟩
    by_cases h0 : i = 0
    · exact .inl h0
    · exact .inr ((h5 i hi).2 (by omega))
theorem chkT_ok {m : List Tp} (h : goodB m = true) : chkT m = 0 := by simp [chkT, h]
theorem chkT_90 {m : List Tp} (h : ¬ goodB m = true) : chkT m = 90 := by simp [chkT, h]
theorem chkT_no {m : List Tp} (h : ¬ chkT m = 0) : chkT m = 90 := by
  unfold chkT at h ⊢
  split at h <;> simp_all
theorem chkT_good {m : List Tp} (h : chkT m = 0) : goodB m = true := by
  unfold chkT at h
  split at h
  · assumption
  · simp at h
theorem Pre.next {m : List Tp} {j : Nat} (h : Pre m j) (h1 : ptOk (tp m j) = true) (h2 : 0 < j → stOk (tp m (j - 1)) (tp m j) = true) : Pre m (j + 1) := by
  refine ⟨h.1, fun i hi => ?_⟩
  by_cases he : i = j
  · subst he; exact ⟨h1, h2⟩
  · exact h.2 i (by omega)
theorem ptOk_iff (t : Tp) : ptOk t = true ↔ t.k ≤ 16777216 ∧ 1 ≤ t.n ∧ t.n ≤ 1048576 ∧ 1 ≤ t.d ∧ t.d ≤ 256 := by
  simp [ptOk]
  omega
theorem stOk_iff (p t : Tp) : stOk p t = true ↔ p.k < t.k ∧ (p.r = true → t.k - p.k ≤ 65536) := by
  simp only [stOk, Bool.not_eq_true', Bool.or_eq_false_iff, Bool.and_eq_false_iff, decide_eq_false_iff_not, Int.not_le, Int.not_lt]
  constructor
  · rintro ⟨h1, h2⟩
    exact ⟨h1, fun h => by rcases h2 with h2 | h2; rw [h] at h2; cases h2; exact h2⟩
  · rintro ⟨h1, h2⟩
    refine ⟨h1, ?_⟩
    cases hr : p.r
    · exact .inl rfl
    · exact .inr (h2 hr)
theorem Pre.nonneg {m : List Tp} {j : Nat} (h : Pre m j) : ∀ i, i < j → 0 ≤ (tp m i).k := by
  intro i
  induction i with
  | zero => intro _; rw [h.1]; exact Int.le_refl _
  | succ i ih =>
    intro hi
    have h1 := (stOk_iff _ _).1 ((h.2 (i + 1) hi).2 (by omega))
    have := ih (by omega)
    rw [Nat.add_sub_cancel] at h1
    omega
theorem not_good_pt {m : List Tp} {j : Nat} (hj : j < m.length) (h : ptOk (tp m j) = false) : chkT m = 90 :=
  chkT_90 fun hg => by have := (((good_iff m).1 hg).2.2.2.2 j hj).1; rw [h] at this; cases this
theorem not_good_st {m : List Tp} {j : Nat} (hj : j < m.length) (h0 : 0 < j) (h : stOk (tp m (j - 1)) (tp m j) = false) : chkT m = 90 :=
  chkT_90 fun hg => by have := (((good_iff m).1 hg).2.2.2.2 j hj).2 h0; rw [h] at this; cases this
/-- A cell of a row of points. -/
theorem tp_cell {V : World} {b off : Nat} {m : List Tp} (h : ∀ v : After V, Rd v.w (some ⟨b, off, none⟩) (m.flatMap Tp.c)) {j : Nat} (hj : j < m.length) (i : Nat) (hi : i < 4) {u : Value} (hu : ((tp m j).c)[i]? = some u)
    {o : Nat} (ho : o = off + (j * 4 + i)) : ∀ v : After V, v.w.cell? ⟨b, o, none⟩ = some u :=
  row_cell Tp.c4 h hj i hi (by rw [tp_eq hj]; exact hu) ho
end Go.Proofs.Ytbppajenihjfhaa
