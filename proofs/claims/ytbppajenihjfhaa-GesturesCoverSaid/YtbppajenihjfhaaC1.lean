/- Knots and curves: what Check says, and the value at a position. -/
import Derived.Test.YtbppajenihjfhaaV
import Derived.Test.YtbppajenihjfhaaS
import Derived.Test.YtbppajenihjfhaaP5
namespace Go.Proofs.Ytbppajenihjfhaa
open Go.RowKit
open Go.Lib (hid)

/-- A knot of a curve: At, Value, Shape, A, B. -/
structure Kn where
  k : Int
  v : Int
  s : Int
  a : Int
  b : Int
  deriving DecidableEq
def Kn.zero : Kn := ⟨0, 0, 0, 0, 0⟩
def Kn.c (x : Kn) : List Value := [.int .i64 x.k, .int .i64 x.v, .int .i64 x.s, .int .i64 x.a, .int .i64 x.b]
theorem Kn.c5 (x : Kn) : x.c.length = 5 := rfl
theorem Kn.one (x : Kn) : ∀ u ∈ x.c, u.oneCell' = true := by
  intro u hu
  simp [Kn.c] at hu
  rcases hu with rfl | rfl | rfl | rfl | rfl <;> rfl
theorem Kn.ones (l : List Kn) : ∀ u ∈ l.flatMap Kn.c, u.oneCell' = true := by
  intro u hu
  obtain ⟨p, _, hp⟩ := List.mem_flatMap.1 hu
  exact p.one u hp
/-- The i-th knot. -/
def kn (l : List Kn) (i : Nat) : Kn := l.getD i Kn.zero
theorem kn_eq {l : List Kn} {i : Nat} (h : i < l.length) : l[i] = kn l i := by simp [kn, h]
theorem kn_ext {m m2 : List Kn} (hl : m.length = m2.length) (h : ∀ i, i < m.length → kn m i = kn m2 i) : m = m2 :=
  List.ext_getElem hl fun i h1 h2 => by rw [kn_eq h1, kn_eq h2]; exact h i h1
/-- The weights. -/
def wtOk (x : Kn) : Bool := if x.s = 3 then decide (1 ≤ x.a) && decide (x.a ≤ 16) && decide (1 ≤ x.b) && decide (x.b ≤ 16) else x.a == 0 && x.b == 0
def knOk (most : Int) (x : Kn) : Bool := !(decide (x.k < 0) || decide (most < x.k) || decide (x.v < -2147483648) || decide (2147483647 < x.v) || decide (x.s < 1) || decide (3 < x.s) || !wtOk x)
/-- The first j knots are valid and in order. -/
def PreK (most : Int) (l : List Kn) (j : Nat) : Prop := ∀ i, i < j → knOk most (kn l i) = true ∧ (0 < i → (kn l (i - 1)).k < (kn l i).k)
def valB (most : Int) (l : List Kn) : Bool := decide (l.length ≤ 1024) && (List.range l.length).all fun i => knOk most (kn l i) && (i == 0 || decide ((kn l (i - 1)).k < (kn l i).k))
theorem valB_iff (most : Int) (l : List Kn) : valB most l = true ↔ l.length ≤ 1024 ∧ PreK most l l.length := by
  unfold valB PreK
  simp only [Bool.and_eq_true, decide_eq_true_eq, List.all_eq_true, List.mem_range, Bool.or_eq_true, beq_iff_eq]
  constructor
  · rintro ⟨h1, h2⟩
    exact ⟨h1, fun i hi => ⟨(h2 i hi).1, fun h0 => (h2 i hi).2.resolve_left (by omega)⟩⟩
  · rintro ⟨h1, h2⟩
    refine ⟨h1, fun i hi => ⟨(h2 i hi).1, ?_⟩⟩
    by_cases h0 : i = 0
    · exact .inl h0
    · exact .inr ((h2 i hi).2 (by omega))
/-- The i-th part is not too long. -/
def segOk (l : List Kn) (i : Nat) : Bool := (kn l i).s == 1 || decide ((kn l (i + 1)).k - (kn l i).k ≤ 16777216)
def segsB (l : List Kn) : Bool := (List.range (l.length - 1)).all fun i => segOk l i
theorem segsB_iff (l : List Kn) : segsB l = true ↔ ∀ i, i + 1 < l.length → segOk l i = true := by
  unfold segsB
  simp only [List.all_eq_true, List.mem_range]
  exact ⟨fun h i hi => h i (by omega), fun h i hi => h i (by omega)⟩
def crvB (l : List Kn) : Bool := valB 1099511627776 l && segsB l
/-- What Check answers. -/
def chkK (l : List Kn) : Int := if crvB l = true then 0 else 110
theorem crvB_iff (l : List Kn) : crvB l = true ↔ valB 1099511627776 l = true ∧ ∀ i, i + 1 < l.length → segOk l i = true := by
  unfold crvB; rw [Bool.and_eq_true, segsB_iff]
theorem chkK_ok {l : List Kn} (h : crvB l = true) : chkK l = 0 := if_pos h
theorem chkK_no {l : List Kn} (h : ¬ crvB l = true) : chkK l = 110 := if_neg h
theorem chkK_good {l : List Kn} (h : chkK l = 0) : crvB l = true := by
  unfold chkK at h
  split at h
  · assumption
  · simp at h
theorem knOk_iff (most : Int) (x : Kn) : knOk most x = true ↔ 0 ≤ x.k ∧ x.k ≤ most ∧ -2147483648 ≤ x.v ∧ x.v ≤ 2147483647 ∧ (x.s = 1 ∨ x.s = 2 ∨ x.s = 3) ∧ (x.s = 3 → 1 ≤ x.a ∧ x.a ≤ 16 ∧ 1 ≤ x.b ∧ x.b ≤ 16) ∧ (x.s ≠ 3 → x.a = 0 ∧ x.b = 0) := by
  unfold knOk wtOk
  by_cases h : x.s = 3
  · simp [h]; omega
  · simp [h]; omega
theorem segOk_iff (l : List Kn) (i : Nat) : segOk l i = true ↔ ((kn l i).s ≠ 1 → (kn l (i + 1)).k - (kn l i).k ≤ 16777216) := by
  unfold segOk
  by_cases h : (kn l i).s = 1 <;> simp [h]
/-- The value of a shape: num of den samples behind x; y is the next knot. -/
def shp (x y : Kn) (num den : Int) : Int :=
  if x.s = 1 then x.v else if x.s = 2 then (x.v * (den - num) + y.v * num) / den else (x.v * ((den - num) * x.a) + y.v * (num * x.b)) / (num * x.b + (den - num) * x.a)
/-- How many knots lie at the position or before it. -/
def cntK (l : List Kn) (at_ : Int) : Nat := fstIx (fun i => decide (at_ < (kn l i).k)) l.length
/-- The value of a curve at a position. -/
def ofK (l : List Kn) (at_ : Int) : Int :=
  if l.length = 0 then 0 else if cntK l at_ = 0 then (kn l 0).v else if cntK l at_ = l.length then (kn l (l.length - 1)).v
  else shp (kn l (cntK l at_ - 1)) (kn l (cntK l at_)) (at_ - (kn l (cntK l at_ - 1)).k) ((kn l (cntK l at_)).k - (kn l (cntK l at_ - 1)).k)
def IsCnt (l : List Kn) (at_ : Int) (n : Nat) : Prop := n ≤ l.length ∧ (∀ i, i < n → (kn l i).k ≤ at_) ∧ ∀ i, n ≤ i → i < l.length → at_ < (kn l i).k
section
variable {most : Int} {l : List Kn} (hv : valB most l = true)
include hv
theorem len_K : l.length ≤ 1024 := ((valB_iff _ _).1 hv).1
theorem kn_at {i : Nat} (hi : i < l.length) : 0 ≤ (kn l i).k ∧ (kn l i).k ≤ most ∧ -2147483648 ≤ (kn l i).v ∧ (kn l i).v ≤ 2147483647 ∧ ((kn l i).s = 1 ∨ (kn l i).s = 2 ∨ (kn l i).s = 3) ∧ ((kn l i).s = 3 → 1 ≤ (kn l i).a ∧ (kn l i).a ≤ 16 ∧ 1 ≤ (kn l i).b ∧ (kn l i).b ≤ 16) ∧ ((kn l i).s ≠ 3 → (kn l i).a = 0 ∧ (kn l i).b = 0) :=
  (knOk_iff _ _).1 (((valB_iff _ _).1 hv).2 i hi).1
theorem kn_lt {i j : Nat} (hij : i < j) (hj : j < l.length) : (kn l i).k < (kn l j).k := by
  induction j with
  | zero => omega
  | succ j ih =>
    have h := (((valB_iff _ _).1 hv).2 (j + 1) hj).2 (by omega)
    rw [Nat.add_sub_cancel] at h
    by_cases he : i = j
    · rw [he]; exact h
    · exact Int.lt_trans (ih (by omega) (by omega)) h
theorem kn_le {i j : Nat} (hij : i ≤ j) (hj : j < l.length) : (kn l i).k ≤ (kn l j).k := by
  by_cases he : i = j
  · rw [he]; exact Int.le_refl _
  · exact Int.le_of_lt (kn_lt hv (by omega) hj)
theorem cnt_of {at_ : Int} {n : Nat} (hn : n ≤ l.length) (h1 : 0 < n → (kn l (n - 1)).k ≤ at_) (h2 : n < l.length → at_ < (kn l n).k) : IsCnt l at_ n :=
  ⟨hn, fun i hi => Int.le_trans (kn_le hv (show i ≤ n - 1 by omega) (by omega)) (h1 (by omega)), fun i hi hl => Int.lt_of_lt_of_le (h2 (by omega)) (kn_le hv hi hl)⟩
end
theorem cnt_is {l : List Kn} {at_ : Int} {n : Nat} (h : IsCnt l at_ n) : cntK l at_ = n := by
  obtain ⟨h1, h2, h3⟩ := h
  by_cases hn : n = l.length
  · rw [hn]
    exact fst_none fun x hx => by have := h2 x (by omega); simp; omega
  · exact fst_is (by omega) (by have := h3 n (Nat.le_refl _) (by omega); simpa using this) fun x hx => by have := h2 x hx; simp; omega
theorem ex_cnt {most : Int} {l : List Kn} (hv : valB most l = true) (at_ : Int) : IsCnt l at_ (cntK l at_) := by
  have : ∀ j, j ≤ l.length → (∃ n, IsCnt l at_ n) ∨ ∀ i, i < j → (kn l i).k ≤ at_ := by
    intro j
    induction j with
    | zero => intro _; exact .inr fun i hi => absurd hi (by omega)
    | succ j ih =>
      intro hj
      rcases ih (by omega) with h | h
      · exact .inl h
      · by_cases hc : (kn l j).k ≤ at_
        · exact .inr fun i hi => by
            by_cases he : i = j
            · subst he; exact hc
            · exact h i (by omega)
        · exact .inl ⟨j, cnt_of hv (by omega) (fun h0 => h _ (by omega)) (fun _ => by omega)⟩
  rcases this l.length (Nat.le_refl _) with ⟨n, hn⟩ | h
  · rw [cnt_is hn]; exact hn
  · have : IsCnt l at_ l.length := ⟨Nat.le_refl _, h, fun i hi hl => absurd hl (by omega)⟩
    rw [cnt_is this]; exact this
/-- The values of a shape at its ends. -/
theorem shp_zero {x y : Kn} {den : Int} (hd : 0 < den) (h : x.s = 3 → 1 ≤ x.a) (hs : x.s = 1 ∨ x.s = 2 ∨ x.s = 3) : shp x y 0 den = x.v := by
  unfold shp
  split
  · rfl
  · split
    · simp only [Int.sub_zero, Int.mul_zero, Int.add_zero]
      exact Int.mul_ediv_cancel _ (by omega)
    · have := h (by omega)
      simp only [Int.sub_zero, Int.mul_zero, Int.add_zero, Int.zero_mul, Int.zero_add]
      exact Int.mul_ediv_cancel _ (by have := Int.mul_pos hd (show 0 < x.a by omega); omega)
theorem ofK_nil (at_ : Int) : ofK [] at_ = 0 := rfl
theorem ofK_low {l : List Kn} {at_ : Int} (h0 : 0 < l.length) (h : IsCnt l at_ 0) : ofK l at_ = (kn l 0).v := by
  unfold ofK; rw [cnt_is h, if_neg (by omega), if_pos rfl]
theorem ofK_high {l : List Kn} {at_ : Int} (h0 : 0 < l.length) (h : IsCnt l at_ l.length) : ofK l at_ = (kn l (l.length - 1)).v := by
  unfold ofK; rw [cnt_is h, if_neg (by omega), if_neg (by omega), if_pos rfl]
theorem ofK_mid {l : List Kn} {at_ : Int} {n : Nat} (hn : n + 1 < l.length) (h : IsCnt l at_ (n + 1)) : ofK l at_ = shp (kn l n) (kn l (n + 1)) (at_ - (kn l n).k) ((kn l (n + 1)).k - (kn l n).k) := by
  unfold ofK; rw [cnt_is h, if_neg (by omega), if_neg (by omega), if_neg (by omega)]; rfl
/-- At a knot. -/
theorem ofK_at {most : Int} {l : List Kn} (hv : valB most l = true) {i : Nat} (hi : i < l.length) : ofK l (kn l i).k = (kn l i).v := by
  have hc : IsCnt l (kn l i).k (i + 1) := ⟨by omega, fun j hj => kn_le hv (by omega) hi, fun j hj hl => kn_lt hv (by omega) hl⟩
  by_cases h : i + 1 = l.length
  · rw [h] at hc
    rw [ofK_high (by omega) hc]
    congr 2; omega
  · have := kn_lt hv (show i < i + 1 by omega) (by omega)
    have k := kn_at hv hi
    rw [ofK_mid (by omega) hc, Int.sub_self, shp_zero (by omega) (fun h => (k.2.2.2.2.2.1 h).1) k.2.2.2.2.1]
/-- A cell of a row of knots. -/
theorem kn_cell {V : World} {b off : Nat} {l : List Kn} (h : ∀ v : After V, Rd v.w (some ⟨b, off, none⟩) (l.flatMap Kn.c)) {j : Nat} (hj : j < l.length) (i : Nat) (hi : i < 5) {u : Value} (hu : ((kn l j).c)[i]? = some u)
    {o : Nat} (ho : o = off + (j * 5 + i)) : ∀ v : After V, v.w.cell? ⟨b, o, none⟩ = some u :=
  row_cell Kn.c5 h hj i hi (by rw [kn_eq hj]; exact hu) ho
theorem not_val {most : Int} {l : List Kn} {j : Nat} (hj : j < l.length) (h : knOk most (kn l j) = false) : valB most l = false := by
  rw [Bool.eq_false_iff]
  intro hv
  have := (((valB_iff _ _).1 hv).2 j hj).1
  rw [h] at this
  cases this
theorem not_ord {most : Int} {l : List Kn} {j : Nat} (hj : j < l.length) (h0 : 0 < j) (h : (kn l j).k ≤ (kn l (j - 1)).k) : valB most l = false := by
  rw [Bool.eq_false_iff]
  intro hv
  have := (((valB_iff _ _).1 hv).2 j hj).2 h0
  omega
theorem PreK.next {most : Int} {l : List Kn} {j : Nat} (h : PreK most l j) (h1 : knOk most (kn l j) = true) (h2 : 0 < j → (kn l (j - 1)).k < (kn l j).k) : PreK most l (j + 1) := fun i hi => by
  by_cases he : i = j
  · subst he; exact ⟨h1, h2⟩
  · exact h i (by omega)
end Go.Proofs.Ytbppajenihjfhaa
