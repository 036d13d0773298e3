/- What Insert makes of a list of points; slices that hold a list of points. -/
import Derived.Test.YtbppajenihjfhaaQ2
namespace Go.Proofs.Ytbppajenihjfhaa
open Go.RowKit
open Go.Lib (hid)

/-- The first number below n with P, or n. -/
def fstIx (P : Nat → Bool) (n : Nat) : Nat := ((List.range n).find? P).getD n
theorem fst_is {P : Nat → Bool} {n j : Nat} (hj : j < n) (h1 : P j = true) (h2 : ∀ x, x < j → P x = false) : fstIx P n = j := by
  unfold fstIx
  have : (List.range n).find? P = some j := by
    rw [List.find?_range_eq_some]
    exact ⟨h1, by simpa using hj, fun x hx => by simp [h2 x hx]⟩
  rw [this]
  rfl
theorem fst_none {P : Nat → Bool} {n : Nat} (h : ∀ x, x < n → P x = false) : fstIx P n = n := by
  unfold fstIx
  have : (List.range n).find? P = none := by
    rw [List.find?_range_eq_none]
    intro x hx
    simp [h x hx]
  rw [this]
  rfl
def insT (m : List Tp) (t : Tp) : List Tp :=
  if fstIx (fun i => (tp m i).k == t.k) m.length < m.length then m.set (fstIx (fun i => (tp m i).k == t.k) m.length) t
  else m.take (fstIx (fun i => decide (t.k < (tp m i).k)) m.length) ++ t :: m.drop (fstIx (fun i => decide (t.k < (tp m i).k)) m.length)
theorem insT_same {m : List Tp} {t : Tp} {j : Nat} (hj : j < m.length) (h1 : ((tp m j).k == t.k) = true) (h2 : ∀ x, x < j → ((tp m x).k == t.k) = false) : insT m t = m.set j t := by
  have h := fst_is (P := fun i => (tp m i).k == t.k) hj h1 h2
  rw [insT, h, if_pos hj]
theorem insT_new {m : List Tp} {t : Tp} {b : Nat} (h : ∀ x, x < m.length → ((tp m x).k == t.k) = false) (hb : fstIx (fun i => decide (t.k < (tp m i).k)) m.length = b) : insT m t = m.take b ++ t :: m.drop b := by
  have h0 := fst_none (P := fun i => (tp m i).k == t.k) h
  rw [insT, h0, if_neg (Nat.lt_irrefl _), hb]
/-- A slice that holds a list of points. -/
def SlIs (w : World) (v : Value) (l : List Tp) : Prop := ∃ a c, v = .slice a l.length c ∧ Rd w a (l.flatMap Tp.c) ∧ (a = none → l.length = 0 ∧ c = 0) ∧ l.length ≤ c
theorem SlIs.nil (w : World) : SlIs w (.slice none 0 0) [] := ⟨none, 0, rfl, Rd.nil, fun _ => ⟨rfl, rfl⟩, Nat.le_refl _⟩
theorem SlIs.below {w w' : World} {v : Value} {l : List Tp} (h : SlIs w v l) (hB : Below w.heap.size w w') : SlIs w' v l := by
  obtain ⟨a, c, h1, h2, h3⟩ := h
  exact ⟨a, c, h1, h2.below hB, h3⟩
theorem SlIs.form {w : World} {v : Value} {l : List Tp} {n : Nat} (h : SlIs w v l) (hn : l.length = n) : ∃ a c, v = .slice a n c ∧ Rd w a (l.flatMap Tp.c) ∧ (a = none → n = 0 ∧ c = 0) ∧ n ≤ c := by
  subst hn
  exact h
theorem SlIs.own {w : World} {B n : Nat} {v : Value} {l : List Tp} (h : w.ownsRow B 53 4 v n (l.flatMap Tp.c)) (hn : l.length = n) : SlIs w v l := by
  obtain ⟨a, c, hv, hc, hz, hr, _⟩ := own_slice h
  subst hn
  exact ⟨a, c, hv, hr, hz, hc⟩
/-- One element of a row is written anew. -/
theorem rd_elem {w : World} {g j : Nat} {m : List Tp} {t : Tp} (hj : j < m.length) (h : Rd w (some ⟨g, 0, none⟩) (m.flatMap Tp.c)) :
    Rd ((((w.setCell ⟨g, j * 4, none⟩ (.int .i64 t.k)).setCell ⟨g, j * 4 + 1, none⟩ (.int .i64 t.n)).setCell ⟨g, j * 4 + 2, none⟩ (.int .i64 t.d)).setCell ⟨g, j * 4 + 3, none⟩ (.bool t.r)) (some ⟨g, 0, none⟩) ((m.set j t).flatMap Tp.c) := by
  obtain ⟨b, off, hb, hlt, hc⟩ := h.at_ (j := 0) (by rw [flat_len Tp.c 4 Tp.c4]; omega)
  cases hb
  have hbase : ∀ o, o < 4 → ∃ u, w.cell? ⟨g, j * 4 + o, none⟩ = some u := fun o ho => by
    have hl : j * 4 + o < (m.flatMap Tp.c).length := by rw [flat_len Tp.c 4 Tp.c4]; omega
    have := hc (j * 4 + o) _ (List.getElem?_eq_getElem hl)
    rw [Nat.zero_add] at this
    exact ⟨_, this⟩
  refine .inr ⟨g, 0, rfl, by simpa using hlt, fun p u hp => ?_⟩
  rw [Nat.zero_add]
  have hpl := (List.getElem?_eq_some_iff.1 hp).1
  rw [flat_len Tp.c 4 Tp.c4, List.length_set] at hpl
  have e := flat_at Tp.c 4 Tp.c4 (m.set j t) (p / 4) (by rw [List.length_set]; omega) (p % 4) (Nat.mod_lt _ (by omega))
  rw [show p / 4 * 4 + p % 4 = p by omega, hp, List.getElem_set] at e
  by_cases hpj : j = p / 4
  · rw [if_pos hpj] at e
    obtain ⟨u0, h0⟩ := hbase 0 (by omega)
    obtain ⟨u1, h1⟩ := hbase 1 (by omega)
    obtain ⟨u2, h2⟩ := hbase 2 (by omega)
    obtain ⟨u3, h3⟩ := hbase 3 (by omega)
    rw [Nat.add_zero] at h0
    have hr : p % 4 = 0 ∨ p % 4 = 1 ∨ p % 4 = 2 ∨ p % 4 = 3 := by omega
    rcases hr with hr | hr | hr | hr
    · rw [hr] at e
      obtain rfl : p = j * 4 := by omega
      rw [show u = .int .i64 t.k by simpa [Tp.c] using e]
      exact st_off _ (.inl (by omega)) (st_off _ (.inl (by omega)) (st_off _ (.inl (by omega)) (st_hit _ h0)))
    · rw [hr] at e
      obtain rfl : p = j * 4 + 1 := by omega
      rw [show u = .int .i64 t.n by simpa [Tp.c] using e]
      exact st_off _ (.inl (by omega)) (st_off _ (.inl (by omega)) (st_hit _ (st_off _ (.inl (by omega)) h1)))
    · rw [hr] at e
      obtain rfl : p = j * 4 + 2 := by omega
      rw [show u = .int .i64 t.d by simpa [Tp.c] using e]
      exact st_off _ (.inl (by omega)) (st_hit _ (st_off _ (.inl (by omega)) (st_off _ (.inl (by omega)) h2)))
    · rw [hr] at e
      obtain rfl : p = j * 4 + 3 := by omega
      rw [show u = .bool t.r by simpa [Tp.c] using e]
      exact st_hit _ (st_off _ (.inl (by omega)) (st_off _ (.inl (by omega)) (st_off _ (.inl (by omega)) h3)))
  · rw [if_neg hpj] at e
    have e2 := flat_at Tp.c 4 Tp.c4 m (p / 4) (by omega) (p % 4) (Nat.mod_lt _ (by omega))
    rw [show p / 4 * 4 + p % 4 = p by omega, ← e] at e2
    have h0 := hc p u e2
    rw [Nat.zero_add] at h0
    exact st_off _ (.inl (by omega)) (st_off _ (.inl (by omega)) (st_off _ (.inl (by omega)) (st_off _ (.inl (by omega)) h0)))
end Go.Proofs.Ytbppajenihjfhaa
