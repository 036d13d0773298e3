/- The laws' arguments, opened: knots, lists of knots, of numbers. -/
import Derived.Test.YtbppajenihjfhaaW
import Derived.Test.YtbppajenihjfhaaCX
namespace Go.Proofs.Ytbppajenihjfhaa
open Go.RowKit Go.ChangeShapes Go.WideShapes Go.ChangeAt Go.Joins Go.Deep
open Go.Lib (hid)

theorem ivs_flat (xs : List Int) : ivs xs = xs.flatMap (fun p => [Value.int .i64 p]) := by
  induction xs with
  | nil => rfl
  | cons x l ih => rw [List.flatMap_cons, ← ih]; rfl
section
variable {H : Type} {enc : TypeId × Value → H} {w : World} {base : Nat} {spare : Nat → Bool} {held : Bool} {fuel : Nat} {v : Value} {y : DataW H × List MemPlace}

theorem open_knc {cs : List Value} (h : DataW.trod enc Try.prog w base spare held fuel 71 cs = some y) (hl : cs.length = 5) : ∃ p : Kn, cs = p.c := by
  match cs, hl with
  | [c0, c1, c2, c3, c4], _ =>
    obtain ⟨xs, n, _, hy, _, hyl, hf⟩ := DataW.trod_struct Try.underlying71 h
    have k3 : Try.prog.cellsOf 3 = 1 := by kernel_rfl
    match xs, hyl with
    | [y0, y1, y2, y3, y4], _ =>
      have h0 : DataW.trod enc Try.prog w base spare held n 3 [c0] = some y0 := by simpa [k3] using hf 0 _ rfl
      have h1 : DataW.trod enc Try.prog w base spare held n 3 [c1] = some y1 := by simpa [k3] using hf 1 _ rfl
      have h2 : DataW.trod enc Try.prog w base spare held n 3 [c2] = some y2 := by simpa [k3] using hf 2 _ rfl
      have h3 : DataW.trod enc Try.prog w base spare held n 3 [c3] = some y3 := by simpa [k3] using hf 3 _ rfl
      have h4 : DataW.trod enc Try.prog w base spare held n 3 [c4] = some y4 := by simpa [k3] using hf 4 _ rfl
      obtain ⟨a0, e0, _, _⟩ := DataW.trod_int Try.underlying3 h0
      obtain ⟨a1, e1, _, _⟩ := DataW.trod_int Try.underlying3 h1
      obtain ⟨a2, e2, _, _⟩ := DataW.trod_int Try.underlying3 h2
      obtain ⟨a3, e3, _, _⟩ := DataW.trod_int Try.underlying3 h3
      obtain ⟨a4, e4, _, _⟩ := DataW.trod_int Try.underlying3 h4
      simp at e0 e1 e2 e3 e4
      exact ⟨⟨a0, a1, a2, a3, a4⟩, by rw [e0, e1, e2, e3, e4]; rfl⟩
theorem open_kns (h : DataW.trod enc Try.prog w base spare held fuel 36 [v] = some y) : ∃ a n c, v = .slice a n c ∧ n ≤ c ∧ c ≤ maxLen ∧ (a = none → n = 0 ∧ c = 0) ∧ (∃ m : List Kn, m.length = n ∧ Rd w a (m.flatMap Kn.c)) := by
  rcases open_slice Try.underlying36 h with ⟨hc, _⟩ | ⟨a, len, cap, m, n, D, Pl, hcs, hb, hl, hm, hmm, hx, hi⟩
  · simp only [List.cons.injEq, and_true] at hc
    exact ⟨none, 0, 0, hc, Nat.le_refl _, Nat.zero_le _, fun _ => ⟨rfl, rfl⟩, ⟨[], rfl, .inl rfl⟩⟩
  · simp only [List.cons.injEq, and_true] at hcs
    refine ⟨some a, len, cap, hcs, hl, hm, fun h => (by cases h), ?_⟩
    have hC : Try.prog.cellsOf 71 = 5 := by kernel_rfl
    have hcell : ∀ i, i < len → ∃ p : Kn, ∀ j, j < 5 → w.cell? (a.add (i * 5 + j)) = (Kn.c p)[j]? := fun i hil => by
      obtain ⟨cs', hc, ht'⟩ := hi i (by split at hmm <;> omega)
      rw [hC] at hc
      obtain ⟨_, hcl, hat⟩ := World.cells?_some hc
      obtain ⟨p, rfl⟩ := open_knc ht' hcl
      exact ⟨p, fun j hj => by rw [← Go.Deep.add_add]; exact hat j hj⟩
    exact rows_rd (by decide) Kn.c (fun _ => rfl) hcell
theorem open_ints2 (h : DataW.trod enc Try.prog w base spare held fuel 30 [v] = some y) : ∃ a n c, v = .slice a n c ∧ n ≤ c ∧ c ≤ maxLen ∧ (a = none → n = 0 ∧ c = 0) ∧ (∃ m : List Int, m.length = n ∧ Rd w a (ivs m)) := by
  rcases open_slice Try.underlying30 h with ⟨hc, _⟩ | ⟨a, len, cap, m, n, D, Pl, hcs, hb, hl, hm, hmm, hx, hi⟩
  · simp only [List.cons.injEq, and_true] at hc
    exact ⟨none, 0, 0, hc, Nat.le_refl _, Nat.zero_le _, fun _ => ⟨rfl, rfl⟩, ⟨[], rfl, .inl rfl⟩⟩
  · simp only [List.cons.injEq, and_true] at hcs
    refine ⟨some a, len, cap, hcs, hl, hm, fun h => (by cases h), ?_⟩
    have hC : Try.prog.cellsOf 3 = 1 := by kernel_rfl
    have hcell : ∀ i, i < len → ∃ p : Int, ∀ j, j < 1 → w.cell? (a.add (i * 1 + j)) = ([Value.int .i64 p] : List Value)[j]? := fun i hil => by
      obtain ⟨cs', hc, ht'⟩ := hi i (by split at hmm <;> omega)
      rw [hC] at hc
      obtain ⟨_, hcl, hat⟩ := World.cells?_some hc
      match cs', hcl with
      | [c0], _ =>
        obtain ⟨a0, e0, _, _⟩ := DataW.trod_int Try.underlying3 ht'
        simp at e0
        subst e0
        exact ⟨a0, fun j hj => by rw [← Go.Deep.add_add]; exact hat j hj⟩
    obtain ⟨xs, hxl, hr⟩ := rows_rd (α := Int) (by decide) (fun p => [Value.int .i64 p]) (fun _ => rfl) hcell
    exact ⟨xs, hxl, by rw [ivs_flat]; exact hr⟩
set_option maxRecDepth 100000 in
theorem open_knv {r : Reach} {b0 : Nat} {d : DataW H} {q : List MemPlace} (hv : Value.okWide Try.prog w r b0 71 v) (h : DataW.Trod enc Try.prog w base spare held 71 v d q) :
    ∃ p : Kn, v = .agg #[.int .i64 p.k, .int .i64 p.v, .int .i64 p.s, .int .i64 p.a, .int .i64 p.b] := by
  obtain ⟨cs, rfl, hsz⟩ := okWide_struct Try.underlying71 hv
  obtain ⟨f, hf⟩ := h
  have hC : Try.prog.cellsOf 71 = 5 := by kernel_rfl
  obtain ⟨p, hp⟩ := open_knc (cs := cs.toList) (by simpa [Value.cells] using hf) (by rw [Array.length_toList]; exact hsz.trans hC)
  exact ⟨p, by rw [show cs = p.c.toArray by rw [← hp]]; rfl⟩
end
end Go.Proofs.Ytbppajenihjfhaa
