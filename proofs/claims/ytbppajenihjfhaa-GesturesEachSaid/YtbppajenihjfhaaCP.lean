/- Lanes resolved: what Resolve makes of a lane. -/
import Derived.Test.YtbppajenihjfhaaCC
import Derived.Test.YtbppajenihjfhaaI
namespace Go.Proofs.Ytbppajenihjfhaa
open Go.RowKit
open Go.Lib (hid)

/-- A knot of a lane, moved to its tick's sample. -/
def mv (m : List Tp) (x : Kn) : Kn := ⟨smV m x.k, x.v, x.s, x.a, x.b⟩
/-- The first j knots are moved. -/
def mapTo (m : List Tp) (l : List Kn) : Nat → List Kn
  | 0 => l
  | j + 1 => (mapTo m l j).set j (mv m (kn l j))
theorem mapTo_len (m : List Tp) (l : List Kn) (j : Nat) : (mapTo m l j).length = l.length := by
  induction j with
  | zero => rfl
  | succ j ih => rw [mapTo, List.length_set, ih]
theorem kn_set {l : List Kn} {b j : Nat} {t : Kn} (hb : b < l.length) : kn (l.set b t) j = if j = b then t else kn l j := by
  unfold kn
  rw [List.getD_eq_getElem?_getD, List.getD_eq_getElem?_getD, List.getElem?_set]
  by_cases h : j = b
  · subst h; simp [hb]
  · rw [if_neg (by omega), if_neg h]
theorem kn_mapTo (m : List Tp) (l : List Kn) {j : Nat} (hj : j ≤ l.length) (i : Nat) : kn (mapTo m l j) i = if i < j then mv m (kn l i) else kn l i := by
  induction j with
  | zero => rw [if_neg (by omega)]; rfl
  | succ j ih =>
    rw [mapTo, kn_set (by rw [mapTo_len]; omega), ih (by omega)]
    by_cases h : i = j
    · subst h; rw [if_pos rfl, if_pos (by omega)]
    · rw [if_neg h]
      by_cases h2 : i < j
      · rw [if_pos h2, if_pos (by omega)]
      · rw [if_neg h2, if_neg (by omega)]
/-- The error of the first tick that has no sample. -/
def rsE (m : List Tp) (l : List Kn) : Nat → Int
  | 0 => 0
  | j + 1 => if rsE m l j = 0 then smE m (kn l j).k else rsE m l j
theorem rsE_up {m : List Tp} {l : List Kn} {j : Nat} (h : ¬ rsE m l j = 0) : ∀ k, j ≤ k → rsE m l k = rsE m l j := by
  intro k
  induction k with
  | zero => intro hk; rw [show j = 0 by omega]
  | succ k ih =>
    intro hk
    by_cases he : j = k + 1
    · rw [he]
    · rw [rsE, ih (by omega), if_neg h]
theorem rsE_ok {m : List Tp} {l : List Kn} {n : Nat} (h : rsE m l n = 0) : ∀ j, j < n → smE m (kn l j).k = 0 := by
  intro j hj
  have h1 : rsE m l j = 0 := Decidable.byContradiction fun hc => hc (by rw [← rsE_up hc n (by omega)]; exact h)
  have h2 : rsE m l (j + 1) = 0 := Decidable.byContradiction fun hc => hc (by rw [← rsE_up hc n (by omega)]; exact h)
  rwa [rsE, if_pos h1] at h2
/-- The curve before its check, and what Resolve answers. -/
def resL (m : List Tp) (l : List Kn) : List Kn := stayL (mapTo m l l.length) l.length
def resE (m : List Tp) (l : List Kn) : Int :=
  if ¬ chkT m = 0 then chkT m else if valB 16777216 l = false then 110 else if ¬ rsE m l l.length = 0 then rsE m l l.length else chkK (resL m l)
def resV (m : List Tp) (l : List Kn) : List Kn := if resE m l = 0 then resL m l else []
theorem resV_ok {m : List Tp} {l : List Kn} (h : resE m l = 0) : resV m l = resL m l := if_pos h
theorem resV_no {m : List Tp} {l : List Kn} (h : ¬ resE m l = 0) : resV m l = [] := if_neg h
/-- What the reference has laid when j knots are over. -/
def rout (m : List Tp) (l : List Kn) : Nat → List Kn
  | 0 => []
  | j + 1 => (if 0 < (rout m l j).length ∧ (kn (rout m l j) ((rout m l j).length - 1)).k = smV m (kn l j).k then (rout m l j).take ((rout m l j).length - 1) else rout m l j) ++ [mv m (kn l j)]
theorem rout_len (m : List Tp) (l : List Kn) (j : Nat) : (rout m l j).length ≤ j := by
  induction j with
  | zero => exact Nat.le_refl _
  | succ j ih =>
    rw [rout, List.length_append]
    split
    · rw [List.length_take]; simp; omega
    · simp; omega
/-- The knots that stay among the first j + 1, the last one always. -/
theorem rout_is (m : List Tp) (l : List Kn) (nn : Nat) (hn : l.length = nn) : ∀ j (_hj : j < nn), rout m l (j + 1) = ((ftsn (mapTo m l nn) nn j).map fun x => kn (mapTo m l nn) x.1) ++ [mv m (kn l j)] := by
  intro j
  induction j with
  | zero =>
    intro hj
    simp [rout, ftsn, fto]
  | succ j ih =>
    intro hj
    have ih := ih (by omega)
    rw [rout, ih, fts_next (show j < nn by omega)]
    have hk : ∀ i, i < nn → kn (mapTo m l nn) i = mv m (kn l i) := fun i hi => by rw [kn_mapTo m l (by omega), if_pos hi]
    have hst : stB (mapTo m l nn) j = !((mv m (kn l (j + 1))).k == (mv m (kn l j)).k) := by
      unfold stB
      rw [hk _ hj, hk _ (by omega), mapTo_len, hn]
      simp
      intro h
      omega
    have hlast : kn (((ftsn (mapTo m l nn) nn j).map fun x => kn (mapTo m l nn) x.1) ++ [mv m (kn l j)]) ((((ftsn (mapTo m l nn) nn j).map fun x => kn (mapTo m l nn) x.1) ++ [mv m (kn l j)]).length - 1) = mv m (kn l j) := by
      unfold kn
      rw [List.length_append, List.length_singleton, Nat.add_sub_cancel, List.getD_eq_getElem?_getD, List.getElem?_append_right (Nat.le_refl _), Nat.sub_self]
      rfl
    rw [hlast]
    by_cases h : (mv m (kn l j)).k = smV m (kn l (j + 1)).k
    · have hs : stB (mapTo m l nn) j = false := by rw [hst]; simp [mv]; exact h.symm
      rw [if_pos ⟨by simp, h⟩, if_neg (by rw [hs]; exact Bool.false_ne_true), List.length_append, List.length_singleton, Nat.add_sub_cancel, List.take_left']
      rfl
    · have hs : stB (mapTo m l nn) j = true := by
        rw [hst]
        simp only [Bool.not_eq_true', beq_eq_false_iff_ne]
        exact fun e => h e.symm
      rw [if_neg (fun hc => h hc.2), if_pos hs, List.map_append, List.append_assoc, List.append_assoc]
      congr 1
      simp [hk j (by omega)]
theorem rout_all (m : List Tp) (l : List Kn) : rout m l l.length = resL m l := by
  obtain ⟨nn, hn⟩ : ∃ nn, l.length = nn := ⟨_, rfl⟩
  rw [resL, hn]
  rcases Nat.eq_zero_or_pos nn with rfl | h
  · simp [rout, stayL, ftsn, fto]
  · obtain ⟨e, rfl⟩ : ∃ e, nn = e + 1 := ⟨nn - 1, by omega⟩
    rw [rout_is m l (e + 1) hn e (by omega), stayL, fts_next (show e < e + 1 by omega)]
    have hs : stB (mapTo m l (e + 1)) e = true := by unfold stB; rw [mapTo_len, hn]; simp
    rw [if_pos hs, List.map_append]
    congr 1
    simp [kn_mapTo m l (show e + 1 ≤ l.length by omega)]
theorem flat_set5 : ∀ (l : List Kn) (j : Nat) (y : Kn) (u : Value), (h : j < l.length) → y.c = (kn l j).c.set 0 u → (l.flatMap Kn.c).set (j * 5) u = (l.set j y).flatMap Kn.c
  | [], j, y, u, h, _ => by simp at h
  | x :: l, 0, y, u, h, e => by
    rw [List.set_cons_zero, List.flatMap_cons, List.flatMap_cons, Nat.zero_mul, e, List.set_append_left _ _ (by rw [Kn.c5]; omega)]
    rfl
  | x :: l, j + 1, y, u, h, e => by
    rw [List.set_cons_succ, List.flatMap_cons, List.flatMap_cons, List.set_append_right _ _ (by rw [Kn.c5]; omega), Kn.c5, show (j + 1) * 5 - 5 = j * 5 by omega, flat_set5 l j y u (by simpa using h) (by simpa [kn] using e)]
end Go.Proofs.Ytbppajenihjfhaa
