/- Records: plainly, and their cells. -/
import Derived.Test.YtdnjpfjiaomlgaaS
import Derived.Test.YtdnjpfjiaomlgaaBV
namespace Go.Proofs.Ytdnjpfjiaomlgaa
open Go.RowKit
open Go.Lib (hid)

/-- A record. -/
structure Rc where
  d : Int
  f : Int
  k : Int
  i : Int
  o : Int
  deriving DecidableEq
def Rc.zero : Rc := ⟨0, 0, 0, 0, 0⟩
/-- The i-th record. -/
def rc (l : List Rc) (i : Nat) : Rc := l.getD i Rc.zero
theorem rc_eq {l : List Rc} {i : Nat} (h : i < l.length) : l[i] = rc l i := by simp [rc, h]
theorem rc_mem {l : List Rc} {i : Nat} (h : i < l.length) : rc l i ∈ l := by rw [← rc_eq h]; exact List.getElem_mem h
theorem mem_rc {l : List Rc} {r : Rc} (h : r ∈ l) : ∃ i, i < l.length ∧ rc l i = r := by
  obtain ⟨i, hi, rfl⟩ := List.mem_iff_getElem.1 h
  exact ⟨i, hi, (rc_eq hi).symm⟩
theorem rc_ext {m m2 : List Rc} (hl : m.length = m2.length) (h : ∀ i, i < m.length → rc m i = rc m2 i) : m = m2 :=
  List.ext_getElem hl fun i h1 h2 => by rw [rc_eq h1, rc_eq h2]; exact h i h1
/-- Is a record valid? -/
def rcOk (r : Rc) : Bool := decide (0 ≤ r.d ∧ r.d ≤ 15 ∧ 0 ≤ r.f ∧ r.f ≤ 1099511627776 ∧ 1 ≤ r.k ∧ r.k ≤ 16777216 ∧ 0 ≤ r.i ∧ r.i ≤ 1048576 ∧ 0 ≤ r.o ∧ r.o ≤ 1048576)
theorem rcOk_iff (r : Rc) : rcOk r = true ↔ 0 ≤ r.d ∧ r.d ≤ 15 ∧ 0 ≤ r.f ∧ r.f ≤ 1099511627776 ∧ 1 ≤ r.k ∧ r.k ≤ 16777216 ∧ 0 ≤ r.i ∧ r.i ≤ 1048576 ∧ 0 ≤ r.o ∧ r.o ≤ 1048576 := decide_eq_true_iff
/-- Does a record come before another? -/
def RLt (a b : Rc) : Prop := a.d < b.d ∨ a.d = b.d ∧ (a.f < b.f ∨ a.f = b.f ∧ a.k < b.k)
instance (a b : Rc) : Decidable (RLt a b) := by unfold RLt; infer_instance
/-- The sign of the comparison of two keys. -/
def cmpR (a b : Rc) : Int := if a.d < b.d then -1 else if b.d < a.d then 1 else if a.f < b.f then -1 else if b.f < a.f then 1 else if a.k < b.k then -1 else if b.k < a.k then 1 else 0
theorem cmpR_lt (a b : Rc) : cmpR a b < 0 ↔ RLt a b := by
  unfold cmpR RLt
  repeat' split
  all_goals omega
theorem cmpR_gt (a b : Rc) : 0 < cmpR a b ↔ RLt b a := by
  unfold cmpR RLt
  repeat' split
  all_goals omega
theorem cmpR_eq (a b : Rc) : cmpR a b = 0 ↔ a.d = b.d ∧ a.f = b.f ∧ a.k = b.k := by
  unfold cmpR
  repeat' split
  all_goals omega
theorem RLt.trans {a b c : Rc} (h : RLt a b) (k : RLt b c) : RLt a c := by unfold RLt at *; omega
theorem RLt.irrefl (a : Rc) : ¬ RLt a a := by unfold RLt; omega
/-- The first j records are valid and in order. -/
def PreR (l : List Rc) (j : Nat) : Prop := ∀ i, i < j → rcOk (rc l i) = true ∧ (0 < i → RLt (rc l (i - 1)) (rc l i))
theorem PreR.next {l : List Rc} {j : Nat} (h : PreR l j) (h1 : rcOk (rc l j) = true) (h2 : 0 < j → RLt (rc l (j - 1)) (rc l j)) : PreR l (j + 1) := fun i hi => by
  by_cases he : i = j
  · subst he; exact ⟨h1, h2⟩
  · exact h i (by omega)
def goodR (l : List Rc) : Bool := (List.range l.length).all fun i => rcOk (rc l i) && (i == 0 || decide (RLt (rc l (i - 1)) (rc l i)))
theorem goodR_iff (l : List Rc) : goodR l = true ↔ PreR l l.length := by
  unfold goodR PreR
  simp only [Bool.and_eq_true, decide_eq_true_eq, List.all_eq_true, List.mem_range, Bool.or_eq_true, beq_iff_eq]
  constructor
  · intro h2 i hi
    exact ⟨(h2 i hi).1, fun h0 => (h2 i hi).2.resolve_left (by omega)⟩
  · intro h2 i hi
    refine ⟨(h2 i hi).1, ?_⟩
    by_cases h0 : i = 0
    · exact .inl h0
    · exact .inr ((h2 i hi).2 (by omega))
/-- What Check answers. -/
def chkR (l : List Rc) : Int := if 256 < l.length then 2 else if goodR l = true then 0 else 420
theorem chkR_ok {l : List Rc} (h : l.length ≤ 256) (h2 : goodR l = true) : chkR l = 0 := by unfold chkR; rw [if_neg (by omega), if_pos h2]
theorem chkR_long {l : List Rc} (h : 256 < l.length) : chkR l = 2 := if_pos h
theorem chkR_bad {l : List Rc} (h : l.length ≤ 256) (h2 : ¬ goodR l = true) : chkR l = 420 := by unfold chkR; rw [if_neg (by omega), if_neg h2]
theorem chkR_good {l : List Rc} (h : chkR l = 0) : l.length ≤ 256 ∧ PreR l l.length := by
  unfold chkR at h
  split at h
  · simp at h
  · split at h
    · rename_i h1 h2; exact ⟨by omega, (goodR_iff l).1 h2⟩
    · simp at h
theorem not_goodR {l : List Rc} {j : Nat} (hj : j < l.length) (h : rcOk (rc l j) = false) : ¬ goodR l = true := fun hg => by
  have := ((goodR_iff l).1 hg j hj).1
  rw [h] at this
  cases this
theorem not_ordR {l : List Rc} {j : Nat} (hj : j < l.length) (h0 : 0 < j) (h : ¬ RLt (rc l (j - 1)) (rc l j)) : ¬ goodR l = true := fun hg => h (((goodR_iff l).1 hg j hj).2 h0)
section
variable {l : List Rc} (hl : PreR l l.length)
include hl
theorem rc_lt {i j : Nat} (hij : i < j) (hj : j < l.length) : RLt (rc l i) (rc l j) := by
  induction j with
  | zero => omega
  | succ j ih =>
    have h := (hl (j + 1) hj).2 (by omega)
    rw [Nat.add_sub_cancel] at h
    by_cases he : i = j
    · rw [he]; exact h
    · exact (ih (by omega) (by omega)).trans h
theorem rc_ok {i : Nat} (hi : i < l.length) : rcOk (rc l i) = true := (hl i hi).1
end
/-- Does a record count? -/
def hitR (dev pos kn : Int) (r : Rc) : Bool := r.d == dev && decide (r.f ≤ pos) && decide (r.k ≤ kn)
theorem hitR_iff (dev pos kn : Int) (r : Rc) : hitR dev pos kn r = true ↔ r.d = dev ∧ r.f ≤ pos ∧ r.k ≤ kn := by
  unfold hitR
  simp [and_assoc]
/-- The last one of the first j records that counts. -/
def fndJ (l : List Rc) (dev pos kn : Int) : Nat → Option Rc
  | 0 => none
  | j + 1 => if hitR dev pos kn (rc l j) = true then some (rc l j) else fndJ l dev pos kn j
def fnd (l : List Rc) (dev pos kn : Int) : Option Rc := fndJ l dev pos kn l.length
/-- What it says: in, out, is there one? -/
def resR : Option Rc → Int × Int × Bool
  | none => (0, 0, false)
  | some r => (r.i, r.o, true)
theorem fndJ_none {l : List Rc} {dev pos kn : Int} {j : Nat} : fndJ l dev pos kn j = none ↔ ∀ i, i < j → hitR dev pos kn (rc l i) = false := by
  induction j with
  | zero => simp [fndJ]
  | succ j ih =>
    unfold fndJ
    split
    · rename_i h
      constructor
      · intro h2; cases h2
      · intro h2; rw [h2 j (by omega)] at h; cases h
    · rename_i h
      rw [ih]
      constructor
      · intro h2 i hi
        by_cases he : i = j
        · subst he; simpa using h
        · exact h2 i (by omega)
      · intro h2 i hi; exact h2 i (by omega)
theorem fndJ_some {l : List Rc} {dev pos kn : Int} {j : Nat} {r : Rc} : fndJ l dev pos kn j = some r ↔ ∃ i, i < j ∧ rc l i = r ∧ hitR dev pos kn r = true ∧ ∀ x, i < x → x < j → hitR dev pos kn (rc l x) = false := by
  induction j with
  | zero => simp [fndJ]
  | succ j ih =>
    unfold fndJ
    split
    · rename_i h
      constructor
      · intro h2; cases h2
        exact ⟨j, by omega, rfl, h, fun x h1 h2 => absurd h1 (by omega)⟩
      · rintro ⟨i, hi, rfl, h1, h2⟩
        by_cases he : i = j
        · rw [he]
        · rw [h2 j (by omega) (by omega)] at h; cases h
    · rename_i h
      rw [ih]
      constructor
      · rintro ⟨i, hi, rfl, h1, h2⟩
        refine ⟨i, by omega, rfl, h1, fun x h3 h4 => ?_⟩
        by_cases he : x = j
        · subst he; simpa using h
        · exact h2 x h3 (by omega)
      · rintro ⟨i, hi, rfl, h1, h2⟩
        by_cases he : i = j
        · subst he; exact absurd h1 h
        · exact ⟨i, by omega, rfl, h1, fun x h3 h4 => h2 x h3 (by omega)⟩
theorem fndJ_back {l : List Rc} {dev pos kn : Int} {j n : Nat} (hj : j ≤ n) (h : ∀ x, j ≤ x → x < n → hitR dev pos kn (rc l x) = false) : fndJ l dev pos kn n = fndJ l dev pos kn j := by
  induction n with
  | zero => have : j = 0 := by omega
            subst this; rfl
  | succ n ih =>
    by_cases he : j = n + 1
    · subst he; rfl
    · rw [fndJ, if_neg (by rw [h n (by omega) (by omega)]; decide)]
      exact ih (by omega) (fun x h1 h2 => h x h1 (by omega))
/-- A span: its device, from, to. -/
structure Sp where
  d : Int
  a : Int
  b : Int
  deriving DecidableEq
def difR (l : List Rc) (dev pos k1 k2 : Int) : Bool := !decide (resR (fnd l dev pos k1) = resR (fnd l dev pos k2))
theorem difR_swap (l : List Rc) (dev pos k1 k2 : Int) : difR l dev pos k2 k1 = difR l dev pos k1 k2 := by
  unfold difR
  congr 1
  exact decide_eq_decide.2 ⟨Eq.symm, Eq.symm⟩
/-- The last boundary among the first j records. -/
def bnd (l : List Rc) (dev : Int) : Nat → Int
  | 0 => 0
  | j + 1 => if (rc l j).d = dev ∧ bnd l dev j < (rc l j).f then (rc l j).f else bnd l dev j
/-- A piece is added to the spans. -/
def addP (out : List Sp) (dev a b : Int) : List Sp :=
  match out.getLast? with
  | some s => if s.d = dev ∧ s.b = a then out.dropLast ++ [⟨dev, s.a, b⟩] else out ++ [⟨dev, a, b⟩]
  | none => [⟨dev, a, b⟩]
theorem addP_nil (dev a b : Int) : addP [] dev a b = [⟨dev, a, b⟩] := rfl
theorem addP_snoc (init : List Sp) (s : Sp) (dev a b : Int) : addP (init ++ [s]) dev a b = if s.d = dev ∧ s.b = a then init ++ [⟨dev, s.a, b⟩] else init ++ [s] ++ [⟨dev, a, b⟩] := by
  unfold addP
  rw [List.getLast?_concat, List.dropLast_concat]
def pieceR (l : List Rc) (k1 k2 : Int) (out : List Sp) (dev a b : Int) : List Sp := if difR l dev a k1 k2 = true then addP out dev a b else out
/-- The pieces among the first j records. -/
def chgJ (l : List Rc) (k1 k2 dev : Int) (out : List Sp) : Nat → List Sp
  | 0 => out
  | j + 1 => if (rc l j).d = dev ∧ bnd l dev j < (rc l j).f then pieceR l k1 k2 (chgJ l k1 k2 dev out j) dev (bnd l dev j) (rc l j).f else chgJ l k1 k2 dev out j
def chgD (l : List Rc) (k1 k2 dev : Int) (out : List Sp) : List Sp := pieceR l k1 k2 (chgJ l k1 k2 dev out l.length) dev (bnd l dev l.length) 1099511627777
def chgN (l : List Rc) (k1 k2 : Int) : Nat → List Sp
  | 0 => []
  | n + 1 => chgD l k1 k2 (n : Int) (chgN l k1 k2 n)
/-- Is a position covered? -/
def Cov (out : List Sp) (d q : Int) : Prop := ∃ s ∈ out, s.d = d ∧ s.a ≤ q ∧ q < s.b
def SpLt (s t : Sp) : Prop := s.d < t.d ∨ s.d = t.d ∧ s.b < t.a
/-- Spans in order, none empty, as long as possible. -/
structure Can (out : List Sp) : Prop where
  ok : ∀ s ∈ out, 0 ≤ s.d ∧ s.d ≤ 15 ∧ 0 ≤ s.a ∧ s.a < s.b ∧ s.b ≤ 1099511627777
  ord : out.Pairwise SpLt
theorem Cov.nil (d q : Int) : ¬ Cov [] d q := fun ⟨s, hs, _⟩ => by cases hs
theorem cov_cons (s : Sp) (out : List Sp) (d q : Int) : Cov (s :: out) d q ↔ (s.d = d ∧ s.a ≤ q ∧ q < s.b) ∨ Cov out d q := by
  unfold Cov
  constructor
  · rintro ⟨t, ht, h⟩
    rcases List.mem_cons.1 ht with rfl | ht
    · exact .inl h
    · exact .inr ⟨t, ht, h⟩
  · rintro (h | ⟨t, ht, h⟩)
    · exact ⟨s, by simp, h⟩
    · exact ⟨t, by simp [ht], h⟩
theorem cov_append (x y : List Sp) (d q : Int) : Cov (x ++ y) d q ↔ Cov x d q ∨ Cov y d q := by
  unfold Cov
  constructor
  · rintro ⟨t, ht, h⟩
    rcases List.mem_append.1 ht with ht | ht
    · exact .inl ⟨t, ht, h⟩
    · exact .inr ⟨t, ht, h⟩
  · rintro (⟨t, ht, h⟩ | ⟨t, ht, h⟩)
    · exact ⟨t, by simp [ht], h⟩
    · exact ⟨t, by simp [ht], h⟩
/-- Spans are known by what they cover. -/
theorem can_uniq : ∀ {x y : List Sp}, Can x → Can y → (∀ d q, Cov x d q ↔ Cov y d q) → x = y := by
  intro x
  induction x with
  | nil =>
    intro y _ hy h
    cases y with
    | nil => rfl
    | cons t y =>
      have ht := hy.ok t (by simp)
      exact absurd ((h t.d t.a).2 ((cov_cons t y _ _).2 (.inl ⟨rfl, by omega, ht.2.2.2.1⟩))) (Cov.nil _ _)
  | cons s x ih =>
    intro y hx hy h
    have hs := hx.ok s (by simp)
    cases y with
    | nil => exact absurd ((h s.d s.a).1 ((cov_cons s x _ _).2 (.inl ⟨rfl, by omega, hs.2.2.2.1⟩))) (Cov.nil _ _)
    | cons t y =>
      have ht := hy.ok t (by simp)
      have ox := List.pairwise_cons.1 hx.ord
      have oy := List.pairwise_cons.1 hy.ord
      have cx : Can x := ⟨fun u hu => hx.ok u (by simp [hu]), ox.2⟩
      have cy : Can y := ⟨fun u hu => hy.ok u (by simp [hu]), oy.2⟩
      have far : ∀ {s : Sp} {x : List Sp} {d q : Int}, (∀ u ∈ x, SpLt s u) → Cov x d q → s.d < d ∨ s.d = d ∧ s.b < q := by
        intro s x d q ho ⟨u, hu, h1, h2, h3⟩
        have := ho u hu
        unfold SpLt at this
        omega
      have e1 := (h s.d s.a).1 ((cov_cons s x _ _).2 (.inl ⟨rfl, by omega, hs.2.2.2.1⟩))
      have e2 := (h t.d t.a).2 ((cov_cons t y _ _).2 (.inl ⟨rfl, by omega, ht.2.2.2.1⟩))
      rw [cov_cons] at e1 e2
      have f1 : (t.d = s.d ∧ t.a ≤ s.a ∧ s.a < t.b) ∨ (t.d < s.d ∨ t.d = s.d ∧ t.b < s.a) := e1.imp id (far oy.1)
      have f2 : (s.d = t.d ∧ s.a ≤ t.a ∧ t.a < s.b) ∨ (s.d < t.d ∨ s.d = t.d ∧ s.b < t.a) := e2.imp id (far ox.1)
      have hd : s.d = t.d ∧ s.a = t.a := by omega
      have hb : s.b = t.b := by
        rcases Int.lt_trichotomy s.b t.b with hlt | he | hgt
        · have e3 := (h s.d s.b).2 ((cov_cons t y _ _).2 (.inl ⟨by omega, by omega, hlt⟩))
          rw [cov_cons] at e3
          rcases e3 with e3 | e3
          · omega
          · have := far ox.1 e3; omega
        · exact he
        · have e3 := (h t.d t.b).1 ((cov_cons s x _ _).2 (.inl ⟨by omega, by omega, hgt⟩))
          rw [cov_cons] at e3
          rcases e3 with e3 | e3
          · omega
          · have := far oy.1 e3; omega
      have hst : s = t := by cases s; cases t; simp_all
      subst hst
      congr 1
      refine ih cx cy fun d q => ?_
      have hq := h d q
      rw [cov_cons, cov_cons] at hq
      constructor
      · intro hc
        rcases hq.1 (.inr hc) with h1 | h1
        · have := far ox.1 hc; omega
        · exact h1
      · intro hc
        rcases hq.2 (.inr hc) with h1 | h1
        · have := far oy.1 hc; omega
        · exact h1
/-- What holds of the spans of the devices before dev, and of dev up to p. -/
structure Upto (l : List Rc) (k1 k2 : Int) (out : List Sp) (dev p : Int) : Prop where
  can : Can out
  le : ∀ s ∈ out, s.d ≤ dev ∧ (s.d = dev → s.b ≤ p)
  old : ∀ d q, d < dev → 0 ≤ d → (Cov out d q ↔ 0 ≤ q ∧ q < 1099511627777 ∧ difR l d q k1 k2 = true)
  new : ∀ q, (Cov out dev q ↔ 0 ≤ q ∧ q < p ∧ difR l dev q k1 k2 = true)
theorem Upto.next {l : List Rc} {k1 k2 : Int} {out : List Sp} {dev p b : Int} (h : Upto l k1 k2 out dev p) (h0 : 0 ≤ p) (hd : 0 ≤ dev ∧ dev ≤ 15) (hpb : p < b) (hb : b ≤ 1099511627777)
    (hc : ∀ q, p ≤ q → q < b → difR l dev q k1 k2 = difR l dev p k1 k2) : Upto l k1 k2 (pieceR l k1 k2 out dev p b) dev b := by
  unfold pieceR
  by_cases hdf : difR l dev p k1 k2 = true
  · rw [if_pos hdf]
    have key : ∀ (out2 : List Sp), Can out2 → (∀ s ∈ out2, s.d ≤ dev ∧ (s.d = dev → s.b ≤ b)) → (∀ d q, Cov out2 d q ↔ Cov out d q ∨ d = dev ∧ p ≤ q ∧ q < b) → Upto l k1 k2 out2 dev b := fun out2 h1 h2 h3 => by
      refine ⟨h1, h2, fun d q hd2 hd3 => ?_, fun q => ?_⟩
      · rw [h3, h.old d q hd2 hd3]
        constructor
        · rintro (h4 | h4)
          · exact h4
          · omega
        · exact .inl
      · rw [h3, h.new]
        constructor
        · rintro (⟨h4, h5, h6⟩ | ⟨_, h5, h6⟩)
          · exact ⟨h4, by omega, h6⟩
          · exact ⟨by omega, h6, by rw [hc q h5 h6]; exact hdf⟩
        · rintro ⟨h4, h5, h6⟩
          by_cases hq : q < p
          · exact .inl ⟨h4, hq, h6⟩
          · exact .inr ⟨rfl, by omega, h5⟩
    rcases List.eq_nil_or_concat out with rfl | ⟨init, s, rfl⟩
    · rw [addP_nil]
      refine key _ ⟨fun s hs => ?_, List.pairwise_singleton _ _⟩ (fun s hs => ?_) (fun d q => ?_)
      · rw [List.mem_singleton.1 hs]; dsimp only; omega
      · rw [List.mem_singleton.1 hs]; dsimp only; omega
      · rw [cov_cons]
        dsimp only
        constructor
        · rintro (⟨h1, h2, h3⟩ | h1)
          · exact .inr ⟨h1.symm, h2, h3⟩
          · exact .inl h1
        · rintro (h1 | ⟨h1, h2, h3⟩)
          · exact .inr h1
          · exact .inl ⟨h1.symm, h2, h3⟩
    · rw [List.concat_eq_append] at *
      have hs := h.can.ok s (by simp)
      have hsd := h.le s (by simp)
      have ho := List.pairwise_append.1 h.can.ord
      rw [addP_snoc]
      by_cases hm : s.d = dev ∧ s.b = p
      · rw [if_pos hm]
        refine key _ ⟨fun u hu => ?_, ?_⟩ (fun u hu => ?_) (fun d q => ?_)
        · rcases List.mem_append.1 hu with hu | hu
          · exact h.can.ok u (by simp [hu])
          · rw [List.mem_singleton.1 hu]; dsimp only; omega
        · refine List.pairwise_append.2 ⟨ho.1, List.pairwise_singleton _ _, fun u hu v hv => ?_⟩
          have := ho.2.2 u hu s (by simp)
          rw [List.mem_singleton.1 hv]
          unfold SpLt at *
          dsimp only
          omega
        · rcases List.mem_append.1 hu with hu | hu
          · have := h.le u (by simp [hu]); omega
          · rw [List.mem_singleton.1 hu]; dsimp only; omega
        · rw [cov_append, cov_append, cov_cons, cov_cons]
          dsimp only
          constructor
          · rintro (h1 | ⟨h1, h2, h3⟩ | h1)
            · exact .inl (.inl h1)
            · by_cases hq : q < p
              · exact .inl (.inr (.inl ⟨by omega, h2, by omega⟩))
              · exact .inr ⟨h1.symm, by omega, h3⟩
            · exact absurd h1 (Cov.nil _ _)
          · rintro ((h1 | ⟨h1, h2, h3⟩ | h1) | ⟨h1, h2, h3⟩)
            · exact .inl h1
            · exact .inr (.inl ⟨by omega, h2, by omega⟩)
            · exact absurd h1 (Cov.nil _ _)
            · exact .inr (.inl ⟨h1.symm, by omega, h3⟩)
      · rw [if_neg hm]
        refine key _ ⟨fun u hu => ?_, ?_⟩ (fun u hu => ?_) (fun d q => ?_)
        · rcases List.mem_append.1 hu with hu | hu
          · exact h.can.ok u hu
          · rw [List.mem_singleton.1 hu]; dsimp only; omega
        · refine List.pairwise_append.2 ⟨h.can.ord, List.pairwise_singleton _ _, fun u hu v hv => ?_⟩
          rw [List.mem_singleton.1 hv]
          unfold SpLt
          dsimp only
          rcases List.mem_append.1 hu with hu | hu
          · have h1 := ho.2.2 u hu s (by simp)
            have h2 := h.can.ok u (by simp [hu])
            unfold SpLt at h1
            omega
          · rw [List.mem_singleton.1 hu]; omega
        · rcases List.mem_append.1 hu with hu | hu
          · have := h.le u hu; omega
          · rw [List.mem_singleton.1 hu]; dsimp only; omega
        · rw [cov_append (init ++ [s]), cov_cons]
          dsimp only
          constructor
          · rintro (h1 | ⟨h1, h2, h3⟩ | h1)
            · exact .inl h1
            · exact .inr ⟨h1.symm, h2, h3⟩
            · exact absurd h1 (Cov.nil _ _)
          · rintro (h1 | ⟨h1, h2, h3⟩)
            · exact .inl h1
            · exact .inr (.inl ⟨h1.symm, h2, h3⟩)
  · rw [if_neg hdf]
    refine ⟨h.can, fun s hs => ?_, h.old, fun q => ?_⟩
    · have := h.le s hs; omega
    · rw [h.new]
      constructor
      · rintro ⟨h1, h2, h3⟩; exact ⟨h1, by omega, h3⟩
      · rintro ⟨h1, h2, h3⟩
        refine ⟨h1, Decidable.byContradiction fun hq => ?_, h3⟩
        rw [hc q (by omega) h2] at h3
        exact hdf h3
theorem fndJ_congr {l : List Rc} {dev p q k : Int} {n : Nat} (h : ∀ i, i < n → hitR dev p k (rc l i) = hitR dev q k (rc l i)) : fndJ l dev p k n = fndJ l dev q k n := by
  induction n with
  | zero => rfl
  | succ n ih =>
    unfold fndJ
    rw [h n (by omega), ih (fun i hi => h i (by omega))]
theorem difR_flat {l : List Rc} {dev p b k1 k2 : Int} (h : ∀ i, i < l.length → (rc l i).d = dev → (rc l i).f ≤ p ∨ b ≤ (rc l i).f) {q : Int} (h1 : p ≤ q) (h2 : q < b) : difR l dev q k1 k2 = difR l dev p k1 k2 := by
  have e : ∀ k, fnd l dev q k = fnd l dev p k := fun k => fndJ_congr fun i hi => by
    rw [Bool.eq_iff_iff, hitR_iff, hitR_iff]
    constructor
    · rintro ⟨a, b2, c⟩
      have := h i hi a
      exact ⟨a, by omega, c⟩
    · rintro ⟨a, b2, c⟩
      exact ⟨a, by omega, c⟩
  unfold difR
  rw [e, e]
theorem bnd_rng {l : List Rc} (hl : PreR l l.length) (dev : Int) {j : Nat} (hj : j ≤ l.length) : 0 ≤ bnd l dev j ∧ bnd l dev j ≤ 1099511627776 := by
  induction j with
  | zero => unfold bnd; omega
  | succ j ih =>
    have h := ih (by omega)
    have h2 := (rcOk_iff _).1 (hl j (by omega)).1
    unfold bnd
    split <;> omega
theorem bnd_ge {l : List Rc} {dev : Int} {j i : Nat} (hi : i < j) (hd : (rc l i).d = dev) : (rc l i).f ≤ bnd l dev j := by
  induction j with
  | zero => omega
  | succ j ih =>
    unfold bnd
    by_cases he : i = j
    · subst he
      split <;> omega
    · have := ih (by omega)
      split <;> omega
theorem f_le {l : List Rc} (hl : PreR l l.length) {i j : Nat} (hij : i ≤ j) (hj : j < l.length) (hd : (rc l i).d = (rc l j).d) : (rc l i).f ≤ (rc l j).f := by
  by_cases he : i = j
  · subst he; exact Int.le_refl _
  · have := rc_lt hl (show i < j by omega) hj
    unfold RLt at this
    omega
theorem bnd_succ (l : List Rc) (dev : Int) (j : Nat) : bnd l dev (j + 1) = if (rc l j).d = dev ∧ bnd l dev j < (rc l j).f then (rc l j).f else bnd l dev j := rfl
theorem chgJ_succ (l : List Rc) (k1 k2 dev : Int) (out : List Sp) (j : Nat) : chgJ l k1 k2 dev out (j + 1) = if (rc l j).d = dev ∧ bnd l dev j < (rc l j).f then pieceR l k1 k2 (chgJ l k1 k2 dev out j) dev (bnd l dev j) (rc l j).f else chgJ l k1 k2 dev out j := rfl
theorem chgJ_upto {l : List Rc} (hl : PreR l l.length) {k1 k2 dev : Int} (hd : 0 ≤ dev ∧ dev ≤ 15) {out : List Sp} (h0 : Upto l k1 k2 out dev 0) {j : Nat} (hj : j ≤ l.length) : Upto l k1 k2 (chgJ l k1 k2 dev out j) dev (bnd l dev j) := by
  induction j with
  | zero => exact h0
  | succ j ih =>
    have h := ih (by omega)
    have hb := bnd_rng hl dev (show j ≤ l.length by omega)
    have h2 := (rcOk_iff _).1 (hl j (by omega)).1
    rw [chgJ_succ, bnd_succ]
    by_cases hc : (rc l j).d = dev ∧ bnd l dev j < (rc l j).f
    · rw [if_pos hc, if_pos hc]
      refine h.next hb.1 hd hc.2 (by omega) fun q h3 h4 => difR_flat (fun i hi hdi => ?_) h3 h4
      by_cases hij : i < j
      · exact .inl (bnd_ge hij hdi)
      · exact .inr (f_le hl (by omega) hi (by omega))
    · rw [if_neg hc, if_neg hc]
      exact h
theorem chgD_upto {l : List Rc} (hl : PreR l l.length) {k1 k2 dev : Int} (hd : 0 ≤ dev ∧ dev ≤ 15) {out : List Sp} (h0 : Upto l k1 k2 out dev 0) : Upto l k1 k2 (chgD l k1 k2 dev out) dev 1099511627777 := by
  have h := chgJ_upto hl hd h0 (Nat.le_refl _)
  have hb := bnd_rng hl dev (Nat.le_refl l.length)
  exact h.next hb.1 hd (by omega) (by omega) fun q h3 h4 => difR_flat (fun i hi hdi => .inl (bnd_ge hi hdi)) h3 h4
theorem Upto.start {l : List Rc} {k1 k2 : Int} {out : List Sp} {dev : Int} (h : Upto l k1 k2 out dev 1099511627777) : Upto l k1 k2 out (dev + 1) 0 := by
  refine ⟨h.can, fun s hs => ?_, fun d q hd hd0 => ?_, fun q => ?_⟩
  · have := h.le s hs; omega
  · by_cases he : d = dev
    · subst he; exact h.new q
    · exact h.old d q (by omega) hd0
  · constructor
    · rintro ⟨s, hs, h1, h2, h3⟩
      have := h.le s hs; omega
    · rintro ⟨h1, h2, _⟩; omega
theorem chgN_upto {l : List Rc} (hl : PreR l l.length) (k1 k2 : Int) {n : Nat} (hn : n ≤ 16) : Upto l k1 k2 (chgN l k1 k2 n) (n : Int) 0 := by
  induction n with
  | zero =>
    refine ⟨⟨fun s hs => (by cases hs), List.Pairwise.nil⟩, fun s hs => (by cases hs), fun d q h1 h2 => by omega, fun q => ?_⟩
    constructor
    · intro h; exact absurd h (Cov.nil _ _)
    · rintro ⟨h1, h2, _⟩; omega
  | succ n ih =>
    have := (chgD_upto hl (by omega) (ih (by omega))).start
    rw [show ((n : Int) + 1) = ((n + 1 : Nat) : Int) by omega] at this
    exact this
/-- What Changed's spans cover. -/
theorem chg_can {l : List Rc} (hl : PreR l l.length) (k1 k2 : Int) : Can (chgN l k1 k2 16) := (chgN_upto hl k1 k2 (Nat.le_refl _)).can
theorem chg_cov {l : List Rc} (hl : PreR l l.length) (k1 k2 d q : Int) : Cov (chgN l k1 k2 16) d q ↔ 0 ≤ d ∧ d ≤ 15 ∧ 0 ≤ q ∧ q < 1099511627777 ∧ difR l d q k1 k2 = true := by
  have h := chgN_upto hl k1 k2 (Nat.le_refl 16)
  by_cases hd : 0 ≤ d ∧ d ≤ 15
  · rw [h.old d q (by omega) hd.1]
    constructor
    · rintro ⟨a, b, c⟩; exact ⟨hd.1, hd.2, a, b, c⟩
    · rintro ⟨_, _, a, b, c⟩; exact ⟨a, b, c⟩
  · constructor
    · rintro ⟨s, hs, h1, _⟩
      have := h.can.ok s hs; omega
    · rintro ⟨a, b, _⟩; omega
theorem chg_same {l m : List Rc} (hl : PreR l l.length) (hm : PreR m m.length) {k1 k2 k3 k4 : Int} (h : ∀ d q, 0 ≤ d → d ≤ 15 → 0 ≤ q → q < 1099511627777 → difR l d q k1 k2 = difR m d q k3 k4) : chgN l k1 k2 16 = chgN m k3 k4 16 := by
  refine can_uniq (chg_can hl _ _) (chg_can hm _ _) fun d q => ?_
  rw [chg_cov hl, chg_cov hm]
  constructor
  · rintro ⟨a, b, c, e, f⟩; exact ⟨a, b, c, e, by rw [← h d q a b c e]; exact f⟩
  · rintro ⟨a, b, c, e, f⟩; exact ⟨a, b, c, e, by rw [h d q a b c e]; exact f⟩
theorem chg_swap {l : List Rc} (hl : PreR l l.length) (k1 k2 : Int) : chgN l k2 k1 16 = chgN l k1 k2 16 := chg_same hl hl fun d q _ _ _ _ => difR_swap l d q k1 k2
/-- Which record counts. -/
theorem fnd_none {l : List Rc} {dev pos kn : Int} : fnd l dev pos kn = none ↔ ∀ t ∈ l, hitR dev pos kn t = false := by
  unfold fnd
  rw [fndJ_none]
  constructor
  · intro h t ht
    obtain ⟨i, hi, rfl⟩ := mem_rc ht
    exact h i hi
  · intro h i hi
    exact h _ (rc_mem hi)
theorem fnd_some {l : List Rc} (hl : PreR l l.length) {dev pos kn : Int} {r : Rc} : fnd l dev pos kn = some r ↔ r ∈ l ∧ hitR dev pos kn r = true ∧ ∀ t ∈ l, hitR dev pos kn t = true → t = r ∨ RLt t r := by
  unfold fnd
  rw [fndJ_some]
  constructor
  · rintro ⟨i, hi, rfl, h1, h2⟩
    refine ⟨rc_mem hi, h1, fun t ht hh => ?_⟩
    obtain ⟨x, hx, rfl⟩ := mem_rc ht
    rcases Nat.lt_trichotomy x i with h3 | h3 | h3
    · exact .inr (rc_lt hl h3 hi)
    · exact .inl (by rw [h3])
    · rw [h2 x h3 hx] at hh; cases hh
  · rintro ⟨hr, h1, h2⟩
    obtain ⟨i, hi, rfl⟩ := mem_rc hr
    refine ⟨i, hi, rfl, h1, fun x h3 h4 => ?_⟩
    refine Bool.eq_false_iff.2 fun hh => ?_
    have h5 := rc_lt hl h3 h4
    rcases h2 _ (rc_mem h4) hh with h6 | h6
    · rw [h6] at h5; exact RLt.irrefl _ h5
    · exact RLt.irrefl _ (h5.trans h6)
/-- How many records come before r. -/
def cntR (l : List Rc) (r : Rc) : Nat := (l.takeWhile fun x => decide (RLt x r)).length
theorem cntR_spec (l : List Rc) (r : Rc) : cntR l r ≤ l.length ∧ (∀ i, i < cntR l r → RLt (rc l i) r) ∧ (cntR l r < l.length → ¬ RLt (rc l (cntR l r)) r) := by
  unfold cntR
  induction l with
  | nil => exact ⟨Nat.le_refl _, fun i hi => absurd hi (by simp), fun h => absurd h (by simp)⟩
  | cons x l ih =>
    rw [List.takeWhile_cons]
    by_cases hx : RLt x r
    · rw [if_pos (decide_eq_true hx)]
      refine ⟨by simp [ih.1], fun i hi => ?_, fun h => ?_⟩
      · cases i with
        | zero => exact hx
        | succ i => exact ih.2.1 i (by simpa using hi)
      · exact ih.2.2 (by simpa using h)
    · rw [if_neg (by rw [decide_eq_false hx]; decide)]
      exact ⟨Nat.zero_le _, fun i hi => absurd hi (by simp), fun _ => hx⟩
theorem cntR_is {l : List Rc} {r : Rc} {n : Nat} (h1 : n ≤ l.length) (h2 : ∀ i, i < n → RLt (rc l i) r) (h3 : n < l.length → ¬ RLt (rc l n) r) : cntR l r = n := by
  obtain ⟨a, b, c⟩ := cntR_spec l r
  rcases Nat.lt_trichotomy (cntR l r) n with h | h | h
  · exact absurd (h2 _ h) (c (by omega))
  · exact h
  · exact absurd (b _ h) (h3 (by omega))
def addL (l : List Rc) (r : Rc) : List Rc := l.take (cntR l r) ++ r :: l.drop (cntR l r)
theorem addL_len (l : List Rc) (r : Rc) : (addL l r).length = l.length + 1 := by
  have := (cntR_spec l r).1
  unfold addL
  simp
  omega
theorem addL_rc (l : List Rc) (r : Rc) (i : Nat) : rc (addL l r) i = if i < cntR l r then rc l i else if i = cntR l r then r else rc l (i - 1) := by
  have h := (cntR_spec l r).1
  unfold addL rc
  simp only [List.getD_eq_getElem?_getD]
  by_cases h1 : i < cntR l r
  · rw [if_pos h1, List.getElem?_append_left (by rw [List.length_take]; omega), List.getElem?_take, if_pos h1]
  · rw [if_neg h1, List.getElem?_append_right (by rw [List.length_take]; omega), List.length_take, Nat.min_eq_left h]
    by_cases h2 : i = cntR l r
    · rw [if_pos h2, h2, Nat.sub_self]; rfl
    · rw [if_neg h2]
      obtain ⟨x, hx⟩ : ∃ x, i - cntR l r = x + 1 := ⟨i - cntR l r - 1, by omega⟩
      rw [hx, List.getElem?_cons_succ, List.getElem?_drop, show cntR l r + x = i - 1 by omega]
theorem addL_mem (l : List Rc) (r t : Rc) : t ∈ addL l r ↔ t = r ∨ t ∈ l := by
  unfold addL
  rw [List.mem_append, List.mem_cons]
  constructor
  · rintro (h | h | h)
    · exact .inr (List.mem_of_mem_take h)
    · exact .inl h
    · exact .inr (List.mem_of_mem_drop h)
  · rintro (h | h)
    · exact .inr (.inl h)
    · rw [← List.take_append_drop (cntR l r) l, List.mem_append] at h
      rcases h with h | h
      · exact .inl h
      · exact .inr (.inr h)
/-- Is there a record with the same key? -/
def dupR (l : List Rc) (r : Rc) : Bool := decide (cntR l r < l.length) && decide (cmpR (rc l (cntR l r)) r = 0)
theorem dupR_iff {l : List Rc} (hl : PreR l l.length) (r : Rc) : dupR l r = true ↔ ∃ t ∈ l, cmpR t r = 0 := by
  obtain ⟨a, b, c⟩ := cntR_spec l r
  unfold dupR
  rw [Bool.and_eq_true, decide_eq_true_eq, decide_eq_true_eq]
  constructor
  · rintro ⟨h1, h2⟩; exact ⟨_, rc_mem h1, h2⟩
  · rintro ⟨t, ht, h2⟩
    obtain ⟨i, hi, rfl⟩ := mem_rc ht
    have e := (cmpR_eq _ _).1 h2
    have hi2 : i = cntR l r := by
      rcases Nat.lt_trichotomy i (cntR l r) with h | h | h
      · have := b i h
        unfold RLt at this
        omega
      · exact h
      · have h3 := c (by omega)
        have h4 := rc_lt hl h hi
        unfold RLt at h3 h4
        omega
    rw [← hi2]
    exact ⟨hi, h2⟩
theorem addL_good {l : List Rc} (hl : PreR l l.length) {r : Rc} (hr : rcOk r = true) (hd : dupR l r = false) : PreR (addL l r) (addL l r).length := by
  obtain ⟨a, b, c⟩ := cntR_spec l r
  intro i hi
  rw [addL_len] at hi
  have hg : cntR l r < l.length → RLt r (rc l (cntR l r)) := fun h => by
    have h1 := c h
    have h2 : ¬ cmpR (rc l (cntR l r)) r = 0 := fun h3 => by
      unfold dupR at hd
      rw [decide_eq_true h, decide_eq_true h3] at hd
      cases hd
    rw [cmpR_eq] at h2
    unfold RLt at h1 ⊢
    omega
  rw [addL_rc, addL_rc]
  by_cases h1 : i < cntR l r
  · rw [if_pos h1, if_pos (by omega)]
    exact hl i (by omega)
  · rw [if_neg h1]
    by_cases h2 : i = cntR l r
    · rw [if_pos h2]
      refine ⟨hr, fun h0 => ?_⟩
      rw [if_pos (by omega)]
      exact b _ (by omega)
    · rw [if_neg h2]
      refine ⟨(hl _ (by omega)).1, fun h0 => ?_⟩
      rw [if_neg (by omega)]
      by_cases h3 : i - 1 = cntR l r
      · rw [if_pos h3, h3]
        exact hg (by omega)
      · rw [if_neg h3]
        exact (hl (i - 1) (by omega)).2 (by omega)
/-- What Add answers. -/
def addE (l : List Rc) (r : Rc) : Int := if ¬ chkR l = 0 then chkR l else if rcOk r = false then 420 else if dupR l r = true then 420 else if l.length = 256 then 2 else 0
def addV (l : List Rc) (r : Rc) : List Rc := if addE l r = 0 then addL l r else []
theorem addE_ok {l : List Rc} {r : Rc} (h : addE l r = 0) : chkR l = 0 ∧ rcOk r = true ∧ dupR l r = false ∧ l.length < 256 := by
  unfold addE at h
  by_cases h1 : chkR l = 0
  · have := chkR_good h1
    rw [if_neg (fun h => h h1)] at h
    split at h
    · simp at h
    · split at h
      · simp at h
      · split at h
        · simp at h
        · rename_i a b c
          exact ⟨h1, by simpa using a, by simpa using b, by omega⟩
  · rw [if_pos h1] at h
    exact absurd h h1
/-- A list in order is known by its members. -/
theorem sorted_uniq : ∀ {x y : List Rc}, x.Pairwise RLt → y.Pairwise RLt → (∀ t, t ∈ x ↔ t ∈ y) → x = y := by
  intro x
  induction x with
  | nil =>
    intro y _ _ h
    cases y with
    | nil => rfl
    | cons t y => exact absurd ((h t).2 (by simp)) (by simp)
  | cons s x ih =>
    intro y hx hy h
    cases y with
    | nil => exact absurd ((h s).1 (by simp)) (by simp)
    | cons t y =>
      have ox := List.pairwise_cons.1 hx
      have oy := List.pairwise_cons.1 hy
      have hst : s = t := by
        rcases List.mem_cons.1 ((h s).1 (by simp)) with e | e
        · exact e
        · rcases List.mem_cons.1 ((h t).2 (by simp)) with e2 | e2
          · exact e2.symm
          · exact absurd ((oy.1 s e).trans (ox.1 t e2)) (RLt.irrefl _)
      subst hst
      congr 1
      refine ih ox.2 oy.2 fun u => ?_
      constructor
      · intro hu
        rcases List.mem_cons.1 ((h u).1 (by simp [hu])) with e | e
        · subst e; exact absurd (ox.1 _ hu) (RLt.irrefl _)
        · exact e
      · intro hu
        rcases List.mem_cons.1 ((h u).2 (by simp [hu])) with e | e
        · subst e; exact absurd (oy.1 _ hu) (RLt.irrefl _)
        · exact e
theorem pair_of {l : List Rc} (hl : PreR l l.length) : l.Pairwise RLt := by
  rw [List.pairwise_iff_getElem]
  intro i j hi hj hij
  rw [rc_eq hi, rc_eq hj]
  exact rc_lt hl hij hj
theorem good_uniq {x y : List Rc} (hx : PreR x x.length) (hy : PreR y y.length) (h : ∀ t, t ∈ x ↔ t ∈ y) : x = y := sorted_uniq (pair_of hx) (pair_of hy) h
/-- The first j records, added one by one. -/
def allA (l : List Rc) : Nat → Option (List Rc)
  | 0 => some []
  | j + 1 => match allA l j with
    | none => none
    | some x => if addE x (rc l j) = 0 then some (addL x (rc l j)) else none
/-- All valid, no two alike. -/
def Apart (l : List Rc) : Prop := (∀ i, i < l.length → rcOk (rc l i) = true) ∧ ∀ i j, i < j → j < l.length → ¬ cmpR (rc l i) (rc l j) = 0
theorem allA_some {l : List Rc} {j : Nat} (hj : j ≤ l.length) (_hn : l.length ≤ 256) {x : List Rc} (h : allA l j = some x) :
    PreR x x.length ∧ x.length = j ∧ (∀ t, t ∈ x ↔ ∃ i, i < j ∧ rc l i = t) ∧ (∀ i, i < j → rcOk (rc l i) = true) ∧ ∀ i k, i < k → k < j → ¬ cmpR (rc l i) (rc l k) = 0 := by
  induction j generalizing x with
  | zero =>
    cases h
    exact ⟨fun i hi => absurd hi (by simp), rfl, fun t => ⟨fun h => by simp at h, fun ⟨i, hi, _⟩ => absurd hi (by omega)⟩, fun i hi => absurd hi (by omega), fun i k _ hk => absurd hk (by omega)⟩
  | succ j ih =>
    unfold allA at h
    cases hA : allA l j with
    | none => rw [hA] at h; cases h
    | some y =>
      rw [hA] at h
      dsimp only at h
      split at h
      · rename_i he
        cases h
        obtain ⟨a, b, c, d, e⟩ := ih (by omega) hA
        obtain ⟨_, h2, h3, _⟩ := addE_ok he
        refine ⟨addL_good a h2 h3, by rw [addL_len, b], fun t => ?_, fun i hi => ?_, fun i k hik hk => ?_⟩
        · rw [addL_mem, c]
          constructor
          · rintro (rfl | ⟨i, hi, rfl⟩)
            · exact ⟨j, by omega, rfl⟩
            · exact ⟨i, by omega, rfl⟩
          · rintro ⟨i, hi, rfl⟩
            by_cases hij : i = j
            · subst hij; exact .inl rfl
            · exact .inr ⟨i, by omega, rfl⟩
        · by_cases hij : i = j
          · subst hij; exact h2
          · exact d i (by omega)
        · by_cases hkj : k = j
          · subst hkj
            intro h4
            have h5 : dupR y (rc l k) = true := (dupR_iff a _).2 ⟨_, (c _).2 ⟨i, by omega, rfl⟩, h4⟩
            rw [h3] at h5; cases h5
          · exact e i k hik (by omega)
      · cases h
theorem allA_ex {l : List Rc} (hA : Apart l) (hn : l.length ≤ 256) {j : Nat} (hj : j ≤ l.length) : ∃ x, allA l j = some x := by
  induction j with
  | zero => exact ⟨[], rfl⟩
  | succ j ih =>
    obtain ⟨x, hx⟩ := ih (by omega)
    obtain ⟨a, b, c, d, e⟩ := allA_some (by omega) hn hx
    have h1 : chkR x = 0 := chkR_ok (by omega) ((goodR_iff x).2 a)
    have h2 := hA.1 j (by omega)
    have h3 : dupR x (rc l j) = false := Bool.eq_false_iff.2 fun h => by
      obtain ⟨t, ht, h4⟩ := (dupR_iff a _).1 h
      obtain ⟨i, hi, rfl⟩ := (c t).1 ht
      exact hA.2 i j hi (by omega) h4
    have h4 : addE x (rc l j) = 0 := by
      unfold addE
      rw [if_neg (fun h => h h1), if_neg (by rw [h2]; decide), if_neg (by rw [h3]; decide), if_neg (by omega)]
    exact ⟨_, by unfold allA; rw [hx]; dsimp only; rw [if_pos h4]⟩
theorem allA_apart {l : List Rc} (hn : l.length ≤ 256) {x : List Rc} (h : allA l l.length = some x) : Apart l := by
  obtain ⟨_, _, _, d, e⟩ := allA_some (Nat.le_refl _) hn h
  exact ⟨d, e⟩
/-- Records in another order. -/
structure Turned (l m : List Rc) : Prop where
  len : m.length = l.length
  mem : ∀ t, t ∈ m ↔ t ∈ l
  apart : Apart l ↔ Apart m
theorem Turned.refl (l : List Rc) : Turned l l := ⟨rfl, fun _ => Iff.rfl, Iff.rfl⟩
def swapL (l : List Rc) (i k : Nat) : List Rc := (l.set i (rc l k)).set k (rc l i)
theorem swapL_rc {l : List Rc} {i k : Nat} (hi : i < l.length) (hk : k < l.length) (x : Nat) : rc (swapL l i k) x = if x = k then rc l i else if x = i then rc l k else rc l x := by
  unfold swapL
  show ((l.set i (rc l k)).set k (rc l i)).getD x Rc.zero = _
  simp only [List.getD_eq_getElem?_getD, List.getElem?_set, List.length_set]
  by_cases h1 : x = k
  · subst h1; simp [hk]
  · have h1' : ¬ k = x := fun h => h1 h.symm
    rw [if_neg h1', if_neg h1]
    by_cases h2 : x = i
    · subst h2; simp [hi]
    · have h2' : ¬ i = x := fun h => h2 h.symm
      rw [if_neg h2', if_neg h2]; simp [rc]
theorem swapL_len (l : List Rc) (i k : Nat) : (swapL l i k).length = l.length := by simp [swapL]
theorem cmpR_symm {a b : Rc} (h : cmpR a b = 0) : cmpR b a = 0 := by
  rw [cmpR_eq] at h ⊢; omega
theorem swap_apart {l : List Rc} {i k : Nat} (hi : i < l.length) (hk : k < l.length) (h : Apart l) : Apart (swapL l i k) := by
  have hne : ∀ x y, x ≠ y → x < l.length → y < l.length → ¬ cmpR (rc l x) (rc l y) = 0 := fun x y hxy hx hy h0 => by
    rcases Nat.lt_or_gt_of_ne hxy with h1 | h1
    · exact h.2 x y h1 hy h0
    · exact h.2 y x h1 hx (cmpR_symm h0)
  refine ⟨fun x hx => ?_, fun x y hxy hy => ?_⟩
  · rw [swapL_len] at hx
    rw [swapL_rc hi hk]
    split
    · exact h.1 i hi
    · split
      · exact h.1 k hk
      · exact h.1 x hx
  · rw [swapL_len] at hy
    rw [swapL_rc hi hk, swapL_rc hi hk]
    by_cases e1 : x = k
    · rw [if_pos e1, if_neg (by omega)]
      by_cases e2 : y = i
      · rw [if_pos e2]; exact hne i k (by omega) hi hk
      · rw [if_neg e2]; exact hne i y (by omega) hi hy
    · rw [if_neg e1]
      by_cases e2 : x = i
      · rw [if_pos e2]
        by_cases e3 : y = k
        · rw [if_pos e3]; exact hne k i (by omega) hk hi
        · rw [if_neg e3, if_neg (by omega)]; exact hne k y (by omega) hk hy
      · rw [if_neg e2]
        by_cases e3 : y = k
        · rw [if_pos e3]; exact hne x i e2 (by omega) hi
        · rw [if_neg e3]
          by_cases e4 : y = i
          · rw [if_pos e4]; exact hne x k e1 (by omega) hk
          · rw [if_neg e4]; exact hne x y (by omega) (by omega) hy
theorem swap_swap {l : List Rc} {i k : Nat} (hi : i < l.length) (hk : k < l.length) : swapL (swapL l i k) i k = l := by
  refine rc_ext (by rw [swapL_len, swapL_len]) fun x hx => ?_
  have hi2 : i < (swapL l i k).length := by rw [swapL_len]; exact hi
  have hk2 : k < (swapL l i k).length := by rw [swapL_len]; exact hk
  rw [swapL_rc hi2 hk2, swapL_rc hi hk, swapL_rc hi hk, swapL_rc hi hk, if_pos rfl]
  by_cases e1 : x = k
  · rw [if_pos e1]
    by_cases e2 : i = k
    · rw [if_pos e2, e1, e2]
    · rw [if_neg e2, e1]
  · rw [if_neg e1]
    by_cases e2 : x = i
    · rw [if_pos e2, if_pos rfl, e2]
    · rw [if_neg e2, if_neg e1, if_neg e2]
theorem Turned.swap {l m : List Rc} (h : Turned l m) {i k : Nat} (hi : i < m.length) (hk : k < m.length) : Turned l (swapL m i k) := by
  refine ⟨by rw [swapL_len]; exact h.len, fun t => ?_, h.apart.trans ⟨swap_apart hi hk, fun h2 => ?_⟩⟩
  · rw [← h.mem]
    constructor
    · intro ht
      obtain ⟨x, hx, rfl⟩ := mem_rc ht
      rw [swapL_len] at hx
      rw [swapL_rc hi hk]
      split
      · exact rc_mem hi
      · split
        · exact rc_mem hk
        · exact rc_mem hx
    · intro ht
      obtain ⟨x, hx, rfl⟩ := mem_rc ht
      by_cases e1 : x = k
      · have := rc_mem (l := swapL m i k) (i := i) (by rw [swapL_len]; exact hi)
        rw [swapL_rc hi hk] at this
        split at this
        · rename_i e2; rw [e1, show rc m k = rc m i by rw [e2]]; exact this
        · rw [if_pos rfl] at this; rw [e1]; exact this
      · by_cases e2 : x = i
        · have := rc_mem (l := swapL m i k) (i := k) (by rw [swapL_len]; exact hk)
          rw [swapL_rc hi hk, if_pos rfl] at this
          rw [e2]; exact this
        · have := rc_mem (l := swapL m i k) (i := x) (by rw [swapL_len]; exact hx)
          rw [swapL_rc hi hk, if_neg e1, if_neg e2] at this
          exact this
  · have := swap_apart (l := swapL m i k) (i := i) (k := k) (by rw [swapL_len]; exact hi) (by rw [swapL_len]; exact hk) h2
    rwa [swap_swap hi hk] at this
/-- CalibrateOrder. -/
theorem order_same {l m : List Rc} (h : Turned l m) (hn : l.length ≤ 256) : allA l l.length = allA m m.length := by
  by_cases hA : Apart l
  · obtain ⟨x, hx⟩ := allA_ex hA hn (Nat.le_refl _)
    obtain ⟨y, hy⟩ := allA_ex (h.apart.1 hA) (by rw [h.len]; exact hn) (Nat.le_refl _)
    obtain ⟨a, _, c, _⟩ := allA_some (Nat.le_refl _) hn hx
    obtain ⟨a2, _, c2, _⟩ := allA_some (Nat.le_refl _) (by rw [h.len]; exact hn) hy
    rw [hx, hy]
    congr 1
    refine good_uniq a a2 fun t => ?_
    have mm : ∀ (z : List Rc) (t : Rc), (∃ i, i < z.length ∧ rc z i = t) ↔ t ∈ z := fun z t => ⟨fun ⟨i, hi, e⟩ => e ▸ rc_mem hi, mem_rc⟩
    rw [c, c2, mm, mm, h.mem]
  · have h1 : allA l l.length = none := by
      cases hx : allA l l.length with
      | none => rfl
      | some x => exact absurd (allA_apart hn hx) hA
    have h2 : allA m m.length = none := by
      cases hx : allA m m.length with
      | none => rfl
      | some x => exact absurd (h.apart.2 (allA_apart (by rw [h.len]; exact hn) hx)) hA
    rw [h1, h2]
/-- What At answers. -/
def atE (l : List Rc) (dev pos kn : Int) : Int := if ¬ chkR l = 0 then chkR l else if dev < 0 ∨ 15 < dev ∨ pos < 0 ∨ 1099511627776 < pos ∨ kn < 0 ∨ 16777216 < kn then 1 else 0
def atV (l : List Rc) (dev pos kn : Int) : Int × Int × Bool := if atE l dev pos kn = 0 then resR (fnd l dev pos kn) else (0, 0, false)
theorem atE_bad {l : List Rc} {dev pos kn : Int} (h : ¬ chkR l = 0) : atE l dev pos kn = chkR l := if_pos h
theorem atE_arg {l : List Rc} {dev pos kn : Int} (h : chkR l = 0) (h2 : dev < 0 ∨ 15 < dev ∨ pos < 0 ∨ 1099511627776 < pos ∨ kn < 0 ∨ 16777216 < kn) : atE l dev pos kn = 1 := by unfold atE; rw [if_neg (fun k => k h), if_pos h2]
theorem atE_ok {l : List Rc} {dev pos kn : Int} (h : chkR l = 0) (h2 : ¬ (dev < 0 ∨ 15 < dev ∨ pos < 0 ∨ 1099511627776 < pos ∨ kn < 0 ∨ 16777216 < kn)) : atE l dev pos kn = 0 := by unfold atE; rw [if_neg (fun k => k h), if_neg h2]
theorem atE_zero {l : List Rc} {dev pos kn : Int} (h : atE l dev pos kn = 0) : chkR l = 0 ∧ 0 ≤ dev ∧ dev ≤ 15 ∧ 0 ≤ pos ∧ pos ≤ 1099511627776 ∧ 0 ≤ kn ∧ kn ≤ 16777216 := by
  unfold atE at h
  by_cases h1 : chkR l = 0
  · rw [if_neg (fun k => k h1)] at h
    split at h
    · simp at h
    · rename_i h2; exact ⟨h1, by omega⟩
  · rw [if_pos h1] at h; exact absurd h h1
theorem atV_ok {l : List Rc} {dev pos kn : Int} (h : atE l dev pos kn = 0) : atV l dev pos kn = resR (fnd l dev pos kn) := if_pos h
theorem atV_no {l : List Rc} {dev pos kn : Int} (h : ¬ atE l dev pos kn = 0) : atV l dev pos kn = (0, 0, false) := if_neg h
theorem atE_good {l : List Rc} (h : chkR l = 0) (dev pos kn : Int) : atE l dev pos kn = 0 ∨ atE l dev pos kn = 1 := by
  unfold atE
  rw [if_neg (fun k => k h)]
  split
  · exact .inr rfl
  · exact .inl rfl
/-- What Changed answers. -/
def chE (l : List Rc) (k1 k2 : Int) : Int := if ¬ chkR l = 0 then chkR l else if k1 < 0 ∨ 16777216 < k1 ∨ k2 < 0 ∨ 16777216 < k2 then 1 else 0
def chV (l : List Rc) (k1 k2 : Int) : List Sp := if chE l k1 k2 = 0 then chgN l k1 k2 16 else []
theorem chE_bad {l : List Rc} {k1 k2 : Int} (h : ¬ chkR l = 0) : chE l k1 k2 = chkR l := if_pos h
theorem chE_arg {l : List Rc} {k1 k2 : Int} (h : chkR l = 0) (h2 : k1 < 0 ∨ 16777216 < k1 ∨ k2 < 0 ∨ 16777216 < k2) : chE l k1 k2 = 1 := by unfold chE; rw [if_neg (fun k => k h), if_pos h2]
theorem chE_ok {l : List Rc} {k1 k2 : Int} (h : chkR l = 0) (h2 : ¬ (k1 < 0 ∨ 16777216 < k1 ∨ k2 < 0 ∨ 16777216 < k2)) : chE l k1 k2 = 0 := by unfold chE; rw [if_neg (fun k => k h), if_neg h2]
theorem chE_zero {l : List Rc} {k1 k2 : Int} (h : chE l k1 k2 = 0) : chkR l = 0 ∧ 0 ≤ k1 ∧ k1 ≤ 16777216 ∧ 0 ≤ k2 ∧ k2 ≤ 16777216 := by
  unfold chE at h
  by_cases h1 : chkR l = 0
  · rw [if_neg (fun k => k h1)] at h
    split at h
    · simp at h
    · rename_i h2; exact ⟨h1, by omega⟩
  · rw [if_pos h1] at h; exact absurd h h1
theorem chV_ok {l : List Rc} {k1 k2 : Int} (h : chE l k1 k2 = 0) : chV l k1 k2 = chgN l k1 k2 16 := if_pos h
theorem chV_no {l : List Rc} {k1 k2 : Int} (h : ¬ chE l k1 k2 = 0) : chV l k1 k2 = [] := if_neg h
theorem chE_swap (l : List Rc) (k1 k2 : Int) : chE l k2 k1 = chE l k1 k2 := by
  unfold chE
  by_cases h : k1 < 0 ∨ 16777216 < k1 ∨ k2 < 0 ∨ 16777216 < k2
  · rw [if_pos h, if_pos (show k2 < 0 ∨ 16777216 < k2 ∨ k1 < 0 ∨ 16777216 < k1 by omega)]
  · rw [if_neg h, if_neg (show ¬ (k2 < 0 ∨ 16777216 < k2 ∨ k1 < 0 ∨ 16777216 < k1) by omega)]
theorem chV_swap (l : List Rc) (k1 k2 : Int) : chV l k2 k1 = chV l k1 k2 := by
  by_cases h : chE l k1 k2 = 0
  · rw [chV_ok h, chV_ok (by rw [chE_swap]; exact h), chg_swap (chkR_good (chE_zero h).1).2]
  · rw [chV_no h, chV_no (by rw [chE_swap]; exact h)]
theorem chkR_or (l : List Rc) : chkR l = 0 ∨ chkR l = 2 ∨ chkR l = 420 := by
  unfold chkR
  split
  · exact .inr (.inl rfl)
  · split
    · exact .inl rfl
    · exact .inr (.inr rfl)
/-- CalibrateAdd: a record that is added. -/
theorem chkR_add {l : List Rc} {r : Rc} (h : addE l r = 0) : chkR (addL l r) = 0 := by
  obtain ⟨h1, h2, h3, h4⟩ := addE_ok h
  exact chkR_ok (by rw [addL_len]; omega) ((goodR_iff _).2 (addL_good (chkR_good h1).2 h2 h3))
theorem fnd_miss {l : List Rc} {r : Rc} (h : addE l r = 0) {dev pos kn : Int} (hm : hitR dev pos kn r = false) : fnd (addL l r) dev pos kn = fnd l dev pos kn := by
  have hl := (chkR_good (addE_ok h).1).2
  have hx := (chkR_good (chkR_add h)).2
  cases hf : fnd l dev pos kn with
  | none =>
    rw [fnd_none] at hf ⊢
    intro t ht
    rcases (addL_mem l r t).1 ht with rfl | ht
    · exact hm
    · exact hf t ht
  | some u =>
    rw [fnd_some hl] at hf
    rw [fnd_some hx]
    refine ⟨(addL_mem l r u).2 (.inr hf.1), hf.2.1, fun t ht h1 => ?_⟩
    rcases (addL_mem l r t).1 ht with rfl | ht
    · rw [hm] at h1; cases h1
    · exact hf.2.2 t ht h1
/-- Does a record count instead of r? -/
def latR (r : Rc) (dev pos kn : Int) (t : Rc) : Bool := t.d == dev && decide (t.k ≤ kn) && decide (t.f ≤ pos) && (decide (r.f < t.f) || t.f == r.f && decide (r.k < t.k))
theorem latR_iff {r : Rc} {dev pos kn : Int} (hd : r.d = dev) (t : Rc) : latR r dev pos kn t = true ↔ hitR dev pos kn t = true ∧ RLt r t := by
  unfold latR
  rw [hitR_iff]
  unfold RLt
  simp only [Bool.and_eq_true, Bool.or_eq_true, decide_eq_true_eq, beq_iff_eq]
  omega
theorem fnd_new {l : List Rc} {r : Rc} (h : addE l r = 0) {dev pos kn : Int} (hr : hitR dev pos kn r = true) (hn : ∀ t ∈ l, latR r dev pos kn t = false) : fnd (addL l r) dev pos kn = some r := by
  have hl := (chkR_good (addE_ok h).1).2
  have hx := (chkR_good (chkR_add h)).2
  have hd := (addE_ok h).2.2.1
  rw [fnd_some hx]
  refine ⟨(addL_mem l r r).2 (.inl rfl), hr, fun t ht h1 => ?_⟩
  rcases (addL_mem l r t).1 ht with rfl | ht
  · exact .inl rfl
  · refine .inr ?_
    have h2 := hn t ht
    have h3 : ¬ cmpR t r = 0 := fun h4 => by
      have := (dupR_iff hl r).2 ⟨t, ht, h4⟩
      rw [hd] at this; cases this
    have h4 : ¬ RLt r t := fun h5 => by
      have := (latR_iff ((hitR_iff _ _ _ _).1 hr).1 t).2 ⟨h1, h5⟩
      rw [h2] at this; cases this
    rw [cmpR_eq] at h3
    unfold RLt at h4 ⊢
    omega
theorem fnd_lat {l : List Rc} {r : Rc} (h : addE l r = 0) {dev pos kn : Int} (hr : hitR dev pos kn r = true) {t : Rc} (ht : t ∈ l) (h2 : latR r dev pos kn t = true) : fnd (addL l r) dev pos kn = fnd l dev pos kn ∧ ∃ u, fnd l dev pos kn = some u := by
  have hl := (chkR_good (addE_ok h).1).2
  have hx := (chkR_good (chkR_add h)).2
  obtain ⟨h3, h4⟩ := (latR_iff ((hitR_iff _ _ _ _).1 hr).1 t).1 h2
  cases hf : fnd l dev pos kn with
  | none =>
    rw [fnd_none] at hf
    rw [hf t ht] at h3; cases h3
  | some u =>
    refine ⟨?_, u, rfl⟩
    rw [fnd_some hl] at hf
    rw [fnd_some hx]
    refine ⟨(addL_mem l r u).2 (.inr hf.1), hf.2.1, fun s hs h1 => ?_⟩
    rcases (addL_mem l r s).1 hs with rfl | hs
    · rcases hf.2.2 t ht h3 with rfl | h5
      · exact .inr h4
      · exact .inr (h4.trans h5)
    · exact hf.2.2 s hs h1
theorem chg_add {l : List Rc} {r : Rc} (h : addE l r = 0) {kn : Int} (h0 : 0 ≤ kn) (hk : kn < r.k) : chgN (addL l r) 0 kn 16 = chgN l 0 kn 16 := by
  refine chg_same (chkR_good (chkR_add h)).2 (chkR_good (addE_ok h).1).2 fun d q _ _ _ _ => ?_
  have m : ∀ x, x < r.k → hitR d q x r = false := fun x hx => Bool.eq_false_iff.2 fun h2 => by
    have := (hitR_iff _ _ _ _).1 h2
    omega
  unfold difR
  rw [fnd_miss h (m 0 (by omega)), fnd_miss h (m kn hk)]
/-- CalibrateCounts: the loop from the end. -/
structure CntIs (l : List Rc) (dev pos kn : Int) (j : Nat) (some_ : Bool) (best : Rc) : Prop where
  no : some_ = false → best = Rc.zero ∧ ∀ i, j ≤ i → i < l.length → hitR dev pos kn (rc l i) = false
  yes : some_ = true → fnd l dev pos kn = some best
theorem CntIs.start (l : List Rc) (dev pos kn : Int) : CntIs l dev pos kn l.length false Rc.zero := ⟨fun _ => ⟨rfl, fun i h1 h2 => absurd h1 (by omega)⟩, fun h => by cases h⟩
theorem CntIs.skip {l : List Rc} {dev pos kn : Int} {j : Nat} {s : Bool} {b : Rc} (h : CntIs l dev pos kn (j + 1) s b) (hm : hitR dev pos kn (rc l j) = false) : CntIs l dev pos kn j s b :=
  ⟨fun hs => ⟨(h.no hs).1, fun i h1 h2 => by
    by_cases he : i = j
    · rw [he]; exact hm
    · exact (h.no hs).2 i (by omega) h2⟩, h.yes⟩
theorem CntIs.first {l : List Rc} {dev pos kn : Int} {j : Nat} {b : Rc} (h : CntIs l dev pos kn (j + 1) false b) (hj : j < l.length) (hm : hitR dev pos kn (rc l j) = true) : CntIs l dev pos kn j true (rc l j) :=
  ⟨fun hs => (by cases hs), fun _ => fndJ_some.2 ⟨j, hj, rfl, hm, fun x h1 h2 => (h.no rfl).2 x (by omega) h2⟩⟩
theorem CntIs.later {l : List Rc} (hl : PreR l l.length) {dev pos kn : Int} {j : Nat} {b : Rc} (h : CntIs l dev pos kn (j + 1) true b) (hj : j < l.length) (hm : hitR dev pos kn (rc l j) = true) :
    CntIs l dev pos kn j true b ∧ (decide (b.f < (rc l j).f) || (rc l j).f == b.f && decide (b.k < (rc l j).k)) = false := by
  refine ⟨⟨fun hs => (by cases hs), h.yes⟩, ?_⟩
  have h1 := (fnd_some hl).1 (h.yes rfl)
  have e1 := (hitR_iff _ _ _ _).1 h1.2.1
  have e2 := (hitR_iff _ _ _ _).1 hm
  rcases h1.2.2 _ (rc_mem hj) hm with h2 | h2
  · rw [h2]; simp
  · unfold RLt at h2
    rw [Bool.or_eq_false_iff, decide_eq_false_iff_not]
    refine ⟨by omega, ?_⟩
    rw [Bool.and_eq_false_iff, decide_eq_false_iff_not, beq_eq_false_iff_ne]
    omega
theorem CntIs.done {l : List Rc} {dev pos kn : Int} {s : Bool} {b : Rc} (h : CntIs l dev pos kn 0 s b) : resR (fnd l dev pos kn) = (b.i, b.o, s) := by
  cases s with
  | true => rw [h.yes rfl]; rfl
  | false =>
    obtain ⟨h1, h2⟩ := h.no rfl
    rw [show fnd l dev pos kn = none from fndJ_none.2 (fun i hi => h2 i (Nat.zero_le _) hi), h1]
    rfl
/-- The pieces of a device among the first j records. -/
def pcsJ (l : List Rc) (dev : Int) : Nat → List (Int × Int)
  | 0 => []
  | j + 1 => if (rc l j).d = dev ∧ bnd l dev j < (rc l j).f then pcsJ l dev j ++ [(bnd l dev j, (rc l j).f)] else pcsJ l dev j
def pcs (l : List Rc) (dev : Int) : List (Int × Int) := pcsJ l dev l.length ++ [(bnd l dev l.length, 1099511627777)]
def pc (l : List Rc) (dev : Int) (i : Nat) : Int × Int := (pcs l dev).getD i (0, 0)
theorem pcsJ_succ (l : List Rc) (dev : Int) (j : Nat) : pcsJ l dev (j + 1) = if (rc l j).d = dev ∧ bnd l dev j < (rc l j).f then pcsJ l dev j ++ [(bnd l dev j, (rc l j).f)] else pcsJ l dev j := rfl
theorem pcsJ_len (l : List Rc) (dev : Int) (j : Nat) : (pcsJ l dev j).length ≤ j := by
  induction j with
  | zero => exact Nat.le_refl _
  | succ j ih =>
    rw [pcsJ_succ]
    split
    · simp; exact ih
    · omega
theorem pcs_len (l : List Rc) (dev : Int) : (pcs l dev).length = (pcsJ l dev l.length).length + 1 := by simp [pcs]
theorem pcsJ_pre (l : List Rc) (dev : Int) {j n : Nat} (h : j ≤ n) : pcsJ l dev j <+: pcsJ l dev n := by
  induction n with
  | zero => have : j = 0 := by omega
            rw [this]; exact List.prefix_refl _
  | succ n ih =>
    by_cases he : j = n + 1
    · rw [he]; exact List.prefix_refl _
    · refine (ih (by omega)).trans ?_
      rw [pcsJ_succ]
      split
      · exact List.prefix_append _ _
      · exact List.prefix_refl _
theorem pcs_pre (l : List Rc) (dev : Int) {j : Nat} (h : j ≤ l.length) : pcsJ l dev j <+: pcs l dev := (pcsJ_pre l dev h).trans (List.prefix_append _ _)
theorem pre_at {α : Type} {x y : List α} (h : x <+: y) (d : α) {i : Nat} (hi : i < x.length) : y.getD i d = x.getD i d := by
  obtain ⟨z, rfl⟩ := h
  simp [List.getD_eq_getElem?_getD, List.getElem?_append_left hi]
theorem pc_next {l : List Rc} {dev : Int} {j : Nat} (hj : j < l.length) (h : (rc l j).d = dev ∧ bnd l dev j < (rc l j).f) :
    (pcsJ l dev (j + 1)).length = (pcsJ l dev j).length + 1 ∧ (pcsJ l dev j).length < (pcs l dev).length ∧ pc l dev (pcsJ l dev j).length = (bnd l dev j, (rc l j).f) := by
  have e : pcsJ l dev (j + 1) = pcsJ l dev j ++ [(bnd l dev j, (rc l j).f)] := by rw [pcsJ_succ, if_pos h]
  have hp := pcs_pre l dev (j := j + 1) (by omega)
  have hlen : (pcsJ l dev (j + 1)).length = (pcsJ l dev j).length + 1 := by rw [e]; simp
  refine ⟨hlen, Nat.lt_of_lt_of_le (by omega) hp.length_le, ?_⟩
  unfold pc
  rw [pre_at hp _ (by omega), e]
  simp
theorem pc_stay {l : List Rc} {dev : Int} {j : Nat} (h : ¬ ((rc l j).d = dev ∧ bnd l dev j < (rc l j).f)) : pcsJ l dev (j + 1) = pcsJ l dev j ∧ bnd l dev (j + 1) = bnd l dev j := by
  rw [pcsJ_succ, if_neg h, bnd_succ, if_neg h]
  exact ⟨rfl, rfl⟩
theorem pc_last (l : List Rc) (dev : Int) : pc l dev (pcsJ l dev l.length).length = (bnd l dev l.length, 1099511627777) := by
  unfold pc pcs
  simp
/-- The spans behind the first k pieces. -/
def fld (l : List Rc) (k1 k2 dev : Int) (out : List Sp) (k : Nat) : List Sp := ((pcs l dev).take k).foldl (fun out p => pieceR l k1 k2 out dev p.1 p.2) out
theorem fld_zero (l : List Rc) (k1 k2 dev : Int) (out : List Sp) : fld l k1 k2 dev out 0 = out := rfl
theorem fld_next (l : List Rc) (k1 k2 dev : Int) (out : List Sp) {k : Nat} (h : k < (pcs l dev).length) : fld l k1 k2 dev out (k + 1) = pieceR l k1 k2 (fld l k1 k2 dev out k) dev (pc l dev k).1 (pc l dev k).2 := by
  unfold fld
  rw [List.take_succ_eq_append_getElem h, List.foldl_append]
  simp [pc, List.getD_eq_getElem?_getD, h]
theorem chgJ_fold (l : List Rc) (k1 k2 dev : Int) (out : List Sp) (j : Nat) : chgJ l k1 k2 dev out j = (pcsJ l dev j).foldl (fun out p => pieceR l k1 k2 out dev p.1 p.2) out := by
  induction j with
  | zero => rfl
  | succ j ih =>
    rw [chgJ_succ, pcsJ_succ]
    split
    · rw [List.foldl_append, ← ih]; rfl
    · exact ih
theorem fld_all (l : List Rc) (k1 k2 dev : Int) (out : List Sp) : fld l k1 k2 dev out (pcs l dev).length = chgD l k1 k2 dev out := by
  unfold fld chgD
  rw [List.take_length, chgJ_fold]
  unfold pcs
  rw [List.foldl_append]
  rfl
/-- Bounds of a piece. -/
theorem pcsJ_rng {l : List Rc} (hl : PreR l l.length) (dev : Int) {j : Nat} (hj : j ≤ l.length) : ∀ p ∈ pcsJ l dev j, 0 ≤ p.1 ∧ p.1 < p.2 ∧ p.2 ≤ 1099511627776 := by
  induction j with
  | zero => intro p hp; cases hp
  | succ j ih =>
    intro p hp
    rw [pcsJ_succ] at hp
    split at hp
    · rename_i hc
      rcases List.mem_append.1 hp with hp | hp
      · exact ih (by omega) p hp
      · rw [List.mem_singleton.1 hp]
        have h1 := bnd_rng hl dev (j := j) (by omega)
        have h2 := (rcOk_iff _).1 (hl j (by omega)).1
        exact ⟨h1.1, hc.2, by omega⟩
    · exact ih (by omega) p hp
theorem pc_mem {l : List Rc} {dev : Int} {i : Nat} (hi : i < (pcs l dev).length) : pc l dev i ∈ pcs l dev := by
  unfold pc
  rw [List.getD_eq_getElem?_getD, List.getElem?_eq_getElem hi]
  exact List.getElem_mem hi
theorem pc_rng {l : List Rc} (hl : PreR l l.length) {dev : Int} {i : Nat} (hi : i < (pcs l dev).length) : 0 ≤ (pc l dev i).1 ∧ (pc l dev i).1 < (pc l dev i).2 ∧ (pc l dev i).2 ≤ 1099511627777 := by
  rcases List.mem_append.1 (pc_mem hi) with h | h
  · have := pcsJ_rng hl dev (Nat.le_refl _) _ h; omega
  · rw [List.mem_singleton.1 h]
    have := bnd_rng hl dev (Nat.le_refl _)
    dsimp only
    omega
/-- The boundaries. -/
def ats (l : List Rc) (dev : Int) (j : Nat) : List Int := 0 :: (pcsJ l dev j).map (·.2)
theorem ats_len (l : List Rc) (dev : Int) (j : Nat) : (ats l dev j).length = (pcsJ l dev j).length + 1 := by simp [ats]
theorem ats_last (l : List Rc) (dev : Int) (j : Nat) : (ats l dev j).getD (pcsJ l dev j).length 0 = bnd l dev j := by
  induction j with
  | zero => rfl
  | succ j ih =>
    by_cases hc : (rc l j).d = dev ∧ bnd l dev j < (rc l j).f
    · unfold ats
      rw [pcsJ_succ, if_pos hc, bnd_succ, if_pos hc]
      simp
    · obtain ⟨h1, h2⟩ := pc_stay hc
      unfold ats at *
      rw [h1, h2]
      exact ih
theorem ats_next {l : List Rc} {dev : Int} {j : Nat} (h : (rc l j).d = dev ∧ bnd l dev j < (rc l j).f) : ats l dev (j + 1) = ats l dev j ++ [(rc l j).f] := by
  unfold ats
  rw [pcsJ_succ, if_pos h]
  simp
theorem ats_stay {l : List Rc} {dev : Int} {j : Nat} (h : ¬ ((rc l j).d = dev ∧ bnd l dev j < (rc l j).f)) : ats l dev (j + 1) = ats l dev j := by
  unfold ats
  rw [(pc_stay h).1]
/-- All boundaries: the ends too. -/
def atsA (l : List Rc) (dev : Int) : List Int := ats l dev l.length ++ [1099511627777]
theorem atsA_len (l : List Rc) (dev : Int) : (atsA l dev).length = (pcs l dev).length + 1 := by
  unfold atsA
  rw [List.length_append, ats_len, pcs_len]
  rfl
theorem atsA_hi {l : List Rc} {dev : Int} {i : Nat} : (atsA l dev).getD (i + 1) 0 = (pc l dev i).2 := by
  have e : atsA l dev = 0 :: (pcs l dev).map (·.2) := by unfold atsA ats pcs; simp
  rw [e]
  unfold pc
  simp only [List.getD_eq_getElem?_getD, List.getElem?_cons_succ, List.getElem?_map]
  cases (pcs l dev)[i]? <;> rfl
theorem atsJ_lo (l : List Rc) (dev : Int) (j : Nat) : ∀ i, i < (pcsJ l dev j).length → (ats l dev j).getD i 0 = ((pcsJ l dev j).getD i (0, 0)).1 := by
  induction j with
  | zero => intro i hi; simp [pcsJ] at hi
  | succ j ih =>
    intro i hi
    by_cases hc : (rc l j).d = dev ∧ bnd l dev j < (rc l j).f
    · have e : pcsJ l dev (j + 1) = pcsJ l dev j ++ [(bnd l dev j, (rc l j).f)] := by rw [pcsJ_succ, if_pos hc]
      rw [ats_next hc, e]
      rw [e, List.length_append] at hi
      have hi' : i < (pcsJ l dev j).length + 1 := hi
      rw [pre_at (List.prefix_append _ _) 0 (by rw [ats_len]; exact hi')]
      by_cases hlt : i < (pcsJ l dev j).length
      · rw [ih i hlt, pre_at (List.prefix_append _ _) (0, 0) hlt]
      · have : i = (pcsJ l dev j).length := by omega
        rw [this, ats_last]
        simp
    · rw [ats_stay hc]
      rw [(pc_stay hc).1] at hi ⊢
      exact ih i hi
theorem atsA_lo {l : List Rc} {dev : Int} {i : Nat} (hi : i < (pcs l dev).length) : (atsA l dev).getD i 0 = (pc l dev i).1 := by
  rw [pcs_len] at hi
  unfold atsA
  rw [pre_at (List.prefix_append _ _) 0 (by rw [ats_len]; exact hi)]
  by_cases hlt : i < (pcsJ l dev l.length).length
  · rw [atsJ_lo l dev l.length i hlt]
    unfold pc
    rw [pre_at (pcs_pre l dev (Nat.le_refl _)) (0, 0) hlt]
  · have : i = (pcsJ l dev l.length).length := by omega
    rw [this, ats_last, pc_last]
/-- What the program keeps of the last span: its end, if it is one of the device. -/
def LstIs (out : List Sp) (dev last : Int) : Prop := (last = -1 ∧ ∀ s ∈ out, s.d ≠ dev) ∨ ∃ init s, out = init ++ [s] ∧ s.d = dev ∧ s.b = last
theorem LstIs.start {l : List Rc} {k1 k2 : Int} {out : List Sp} {dev : Int} (h : Upto l k1 k2 out dev 0) : LstIs out dev (-1) := .inl ⟨rfl, fun s hs he => by
  have h1 := (h.le s hs).2 he
  have h2 := h.can.ok s hs
  omega⟩
theorem LstIs.join {out : List Sp} {dev last b : Int} (h : LstIs out dev last) (h0 : 0 ≤ last) : ∃ init s, out = init ++ [s] ∧ s.d = dev ∧ s.b = last ∧ addP out dev last b = init ++ [⟨dev, s.a, b⟩] ∧ LstIs (init ++ [⟨dev, s.a, b⟩]) dev b := by
  rcases h with ⟨h1, _⟩ | ⟨init, s, h1, h2, h3⟩
  · omega
  · exact ⟨init, s, h1, h2, h3, by rw [h1, addP_snoc, if_pos ⟨h2, h3⟩], .inr ⟨init, _, rfl, rfl, rfl⟩⟩
theorem LstIs.more {out : List Sp} {dev last a b : Int} (h : LstIs out dev last) (hne : a ≠ last) : addP out dev a b = out ++ [⟨dev, a, b⟩] ∧ LstIs (out ++ [⟨dev, a, b⟩]) dev b := by
  refine ⟨?_, .inr ⟨out, _, rfl, rfl, rfl⟩⟩
  rcases h with ⟨_, h2⟩ | ⟨init, s, h1, h2, h3⟩
  · rcases List.eq_nil_or_concat out with rfl | ⟨init, s, rfl⟩
    · rfl
    · rw [List.concat_eq_append] at *
      rw [addP_snoc, if_neg (fun hc => h2 s (by simp) hc.1)]
  · rw [h1, addP_snoc, if_neg (fun hc => hne (by omega))]
/-- How many spans there are at most. -/
theorem pieceR_len (l : List Rc) (k1 k2 : Int) (out : List Sp) (dev a b : Int) : (pieceR l k1 k2 out dev a b).length ≤ out.length + 1 := by
  unfold pieceR
  split
  · rcases List.eq_nil_or_concat out with rfl | ⟨init, s, rfl⟩
    · rw [addP_nil]; simp
    · rw [List.concat_eq_append, addP_snoc]
      split <;> simp
  · omega
theorem fld_len (l : List Rc) (k1 k2 dev : Int) (out : List Sp) (k : Nat) (h : k ≤ (pcs l dev).length) : (fld l k1 k2 dev out k).length ≤ out.length + k := by
  induction k with
  | zero => exact Nat.le_refl _
  | succ k ih =>
    rw [fld_next l k1 k2 dev out (by omega)]
    have := pieceR_len l k1 k2 (fld l k1 k2 dev out k) dev (pc l dev k).1 (pc l dev k).2
    have := ih (by omega)
    omega
theorem chgN_len {l : List Rc} (h : l.length ≤ 256) (k1 k2 : Int) (n : Nat) : (chgN l k1 k2 n).length ≤ 257 * n := by
  induction n with
  | zero => exact Nat.le_refl _
  | succ n ih =>
    show (chgD l k1 k2 (n : Int) (chgN l k1 k2 n)).length ≤ _
    rw [← fld_all]
    have h1 := fld_len l k1 k2 (n : Int) (chgN l k1 k2 n) (pcs l (n : Int)).length (Nat.le_refl _)
    have h2 := pcs_len l (n : Int)
    have h3 := pcsJ_len l (n : Int) l.length
    omega
theorem chg_len {l : List Rc} (h : l.length ≤ 256) (k1 k2 : Int) : (chgN l k1 k2 16).length ≤ 4112 := chgN_len h k1 k2 16
/-- The cells of a record. -/
def Rc.cs (x : Rc) : List Value := [.int .i64 x.d, .int .i64 x.f, .int .i64 x.k, .int .i64 x.i, .int .i64 x.o]
def Rc.v (x : Rc) : Value := .agg #[.int .i64 x.d, .int .i64 x.f, .int .i64 x.k, .int .i64 x.i, .int .i64 x.o]
theorem Rc.c5 (x : Rc) : x.cs.length = 5 := rfl
theorem Rc.one (x : Rc) : ∀ u ∈ x.cs, u.oneCell' = true := by
  intro u hu
  simp [Rc.cs] at hu
  rcases hu with rfl | rfl | rfl | rfl | rfl <;> rfl
theorem Rc.ones (l : List Rc) : ∀ u ∈ l.flatMap Rc.cs, u.oneCell' = true := by
  intro u hu
  obtain ⟨p, _, hp⟩ := List.mem_flatMap.1 hu
  exact p.one u hp
/-- A cell of a row of records. -/
theorem rc_cell {V : World} {b off : Nat} {l : List Rc} (h : ∀ v : After V, Rd v.w (some ⟨b, off, none⟩) (l.flatMap Rc.cs)) {j : Nat} (hj : j < l.length) (i : Nat) (hi : i < 5) {u : Value} (hu : ((rc l j).cs)[i]? = some u)
    {o : Nat} (ho : o = off + (j * 5 + i)) : ∀ v : After V, v.w.cell? ⟨b, o, none⟩ = some u :=
  row_cell Rc.c5 h hj i hi (by rw [rc_eq hj]; exact hu) ho
/-- The cells of a span. -/
def Sp.cs (x : Sp) : List Value := [.int .i64 x.d, .int .i64 x.a, .int .i64 x.b]
def Sp.v (x : Sp) : Value := .agg #[.int .i64 x.d, .int .i64 x.a, .int .i64 x.b]
def Sp.zero : Sp := ⟨0, 0, 0⟩
theorem Sp.c3 (x : Sp) : x.cs.length = 3 := rfl
theorem Sp.one (x : Sp) : ∀ u ∈ x.cs, u.oneCell' = true := by
  intro u hu
  simp [Sp.cs] at hu
  rcases hu with rfl | rfl | rfl <;> rfl
theorem Sp.ones (l : List Sp) : ∀ u ∈ l.flatMap Sp.cs, u.oneCell' = true := by
  intro u hu
  obtain ⟨p, _, hp⟩ := List.mem_flatMap.1 hu
  exact p.one u hp
def sp (l : List Sp) (i : Nat) : Sp := l.getD i Sp.zero
theorem sp_eq {l : List Sp} {i : Nat} (h : i < l.length) : l[i] = sp l i := by simp [sp, h]
theorem sp_mem {l : List Sp} {i : Nat} (h : i < l.length) : sp l i ∈ l := by rw [← sp_eq h]; exact List.getElem_mem h
theorem sp_cell {V : World} {b off : Nat} {l : List Sp} (h : ∀ v : After V, Rd v.w (some ⟨b, off, none⟩) (l.flatMap Sp.cs)) {j : Nat} (hj : j < l.length) (i : Nat) (hi : i < 3) {u : Value} (hu : ((sp l j).cs)[i]? = some u)
    {o : Nat} (ho : o = off + (j * 3 + i)) : ∀ v : After V, v.w.cell? ⟨b, o, none⟩ = some u :=
  row_cell Sp.c3 h hj i hi (by rw [sp_eq hj]; exact hu) ho
/-- A slice that holds records. -/
def RcIs (w : World) (v : Value) (l : List Rc) : Prop := ∃ a c, v = .slice a l.length c ∧ Rd w a (l.flatMap Rc.cs) ∧ l.length ≤ c ∧ (a = none → l.length = 0 ∧ c = 0)
theorem RcIs.nil (w : World) : RcIs w (.slice none 0 0) [] := ⟨none, 0, rfl, Rd.nil, Nat.le_refl _, fun _ => ⟨rfl, rfl⟩⟩
theorem RcIs.below {w w' : World} {v : Value} {l : List Rc} (h : RcIs w v l) (hB : Below w.heap.size w w') : RcIs w' v l := by
  obtain ⟨a, c, h1, h2, h3, h4⟩ := h
  exact ⟨a, c, h1, h2.below hB, h3, h4⟩
theorem RcIs.form {w : World} {v : Value} {l : List Rc} {n : Nat} (h : RcIs w v l) (hn : l.length = n) : ∃ a c, v = .slice a n c ∧ Rd w a (l.flatMap Rc.cs) ∧ n ≤ c ∧ (a = none → n = 0 ∧ c = 0) := by
  subst hn
  exact h
/-- A slice that holds spans. -/
def SpIs (w : World) (v : Value) (l : List Sp) : Prop := ∃ a c, v = .slice a l.length c ∧ Rd w a (l.flatMap Sp.cs) ∧ l.length ≤ c
theorem SpIs.nil (w : World) : SpIs w (.slice none 0 0) [] := ⟨none, 0, rfl, Rd.nil, Nat.le_refl _⟩
theorem SpIs.below {w w' : World} {v : Value} {l : List Sp} (h : SpIs w v l) (hB : Below w.heap.size w w') : SpIs w' v l := by
  obtain ⟨a, c, h1, h2, h3⟩ := h
  exact ⟨a, c, h1, h2.below hB, h3⟩
theorem SpIs.form {w : World} {v : Value} {l : List Sp} {n : Nat} (h : SpIs w v l) (hn : l.length = n) : ∃ a c, v = .slice a n c ∧ Rd w a (l.flatMap Sp.cs) ∧ n ≤ c := by
  subst hn
  exact h
end Go.Proofs.Ytdnjpfjiaomlgaa
