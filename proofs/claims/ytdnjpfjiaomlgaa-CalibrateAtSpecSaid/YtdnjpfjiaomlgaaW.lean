/- The laws' arguments, opened: records, lists of records. -/
import Derived.Test.YtdnjpfjiaomlgaaC1
import Derived.Test.YtdnjpfjiaomlgaaRows
import Derived.ProofKit
import Derived.OpenShut
import Derived.Lib.SmallJoins
import Derived.ChangeOld
import Derived.Deep.Slices
import Derived.Deep.Fields
import Derived.ChangeSame
namespace Go.Proofs.Ytdnjpfjiaomlgaa
open Go.RowKit Go.ChangeShapes Go.WideShapes Go.ChangeAt Go.Joins Go.Deep
open Go.Lib (hid)

theorem cell_form {w : World} {a : Addr} {v : Value} (h : w.cell? a = some v) : a = ⟨a.block, a.off, none⟩ ∧ a.block < w.heap.size := by
  obtain ⟨b, o, s⟩ := a
  have h1 := h
  unfold World.cell? at h1
  cases hb : w.heap[b]? with
  | none => simp [hb] at h1
  | some x =>
    refine ⟨?_, (Array.getElem?_eq_some_iff.1 hb).1⟩
    cases s with
    | none => rfl
    | some f =>
      cases x <;> simp [hb] at h1
/-- n rows of k cells, each known, lie from the address on. -/
theorem rows_rd {α : Type} {w : World} {a : Addr} {n k : Nat} (hk0 : 0 < k) (c : α → List Value) (hk : ∀ x, (c x).length = k)
    (h : ∀ i, i < n → ∃ x : α, ∀ j, j < k → w.cell? (a.add (i * k + j)) = (c x)[j]?) : ∃ xs : List α, xs.length = n ∧ Rd w (some a) (xs.flatMap c) := by
  by_cases hn : n = 0
  · exact ⟨[], by rw [hn]; rfl, .inl rfl⟩
  have hne : Nonempty α := by
    obtain ⟨x, _⟩ := h 0 (by omega)
    exact ⟨x⟩
  have h' : ∀ i, ∃ x : α, i < n → ∀ j, j < k → w.cell? (a.add (i * k + j)) = (c x)[j]? := fun i => by
    by_cases hi : i < n
    · obtain ⟨x, hx⟩ := h i hi
      exact ⟨x, fun _ => hx⟩
    · exact ⟨Classical.choice hne, fun h => absurd h hi⟩
  let f : Nat → α := fun i => (h' i).choose
  have hf : ∀ i, i < n → ∀ j, j < k → w.cell? (a.add (i * k + j)) = (c (f i))[j]? := fun i => (h' i).choose_spec
  refine ⟨(List.range n).map f, by simp, ?_⟩
  have h0 := hf 0 (by omega) 0 hk0
  have hl0 : 0 < (c (f 0)).length := by rw [hk]; exact hk0
  rw [List.getElem?_eq_getElem hl0, show a.add (0 * k + 0) = a by simp [Addr.add]] at h0
  obtain ⟨hform, hlt⟩ := cell_form h0
  refine .inr ⟨a.block, a.off, congrArg some hform, hlt, fun j u hu => ?_⟩
  have hjl := (List.getElem?_eq_some_iff.1 hu).1
  rw [flat_len c k hk] at hjl
  simp only [List.length_map, List.length_range] at hjl
  have hi : j / k < n := Nat.div_lt_of_lt_mul (by rw [Nat.mul_comm]; exact hjl)
  have hr : j % k < k := Nat.mod_lt _ hk0
  have e := flat_at c k hk ((List.range n).map f) (j / k) (by simpa using hi) (j % k) hr
  have hj : j / k * k + j % k = j := by rw [Nat.mul_comm]; exact Nat.div_add_mod j k
  rw [hj, hu] at e
  have g := hf (j / k) hi (j % k) hr
  rw [hj] at g
  have e2 : ((List.range n).map f)[j / k]'(by simpa using hi) = f (j / k) := by simp
  rw [e2] at e
  rw [← e] at g
  rw [← g, hform]
  rw [Addr.add_lit]

section
variable {H : Type} {enc : TypeId × Value → H} {w : World} {base : Nat} {spare : Nat → Bool} {held : Bool} {fuel : Nat} {v : Value} {y : DataW H × List MemPlace}

theorem open_rcc {cs : List Value} (h : DataW.trod enc Try.prog w base spare held fuel 24 cs = some y) (hl : cs.length = 5) : ∃ p : Rc, cs = p.cs := by
  match cs, hl with
  | [c0, c1, c2, c3, c4], _ =>
    obtain ⟨xs, n, _, hy, _, hyl, hf⟩ := DataW.trod_struct Try.underlying24 h
    have k3 : Try.prog.cellsOf 3 = 1 := by kernel_rfl
    match xs, hyl with
    | [y0, y1, y2, y3, y4], _ =>
      have h0 : DataW.trod enc Try.prog w base spare held n 3 [c0] = some y0 := by simpa [k3] using hf 0 _ rfl
      have h1 : DataW.trod enc Try.prog w base spare held n 3 [c1] = some y1 := by simpa [k3] using hf 1 _ rfl
      have h2 : DataW.trod enc Try.prog w base spare held n 3 [c2] = some y2 := by simpa [k3] using hf 2 _ rfl
      have h3 : DataW.trod enc Try.prog w base spare held n 3 [c3] = some y3 := by simpa [k3] using hf 3 _ rfl
      have h4 : DataW.trod enc Try.prog w base spare held n 3 [c4] = some y4 := by simpa [k3] using hf 4 _ rfl
      obtain ⟨a0, e0, _, _⟩ := DataW.trod_int Try.underlying3 h0
      obtain ⟨a1, e1, _, _⟩ := DataW.trod_int Try.underlying3 h1
      obtain ⟨a2, e2, _, _⟩ := DataW.trod_int Try.underlying3 h2
      obtain ⟨a3, e3, _, _⟩ := DataW.trod_int Try.underlying3 h3
      obtain ⟨a4, e4, _, _⟩ := DataW.trod_int Try.underlying3 h4
      simp at e0 e1 e2 e3 e4
      exact ⟨⟨a0, a1, a2, a3, a4⟩, by rw [e0, e1, e2, e3, e4]; rfl⟩
theorem open_rcs (h : DataW.trod enc Try.prog w base spare held fuel 22 [v] = some y) : ∃ a n c, v = .slice a n c ∧ n ≤ c ∧ c ≤ maxLen ∧ (a = none → n = 0 ∧ c = 0) ∧ (∃ m : List Rc, m.length = n ∧ Rd w a (m.flatMap Rc.cs)) := by
  rcases open_slice Try.underlying22 h with ⟨hc, _⟩ | ⟨a, len, cap, m, n, D, Pl, hcs, hb, hl, hm, hmm, hx, hi⟩
  · simp only [List.cons.injEq, and_true] at hc
    exact ⟨none, 0, 0, hc, Nat.le_refl _, Nat.zero_le _, fun _ => ⟨rfl, rfl⟩, ⟨[], rfl, .inl rfl⟩⟩
  · simp only [List.cons.injEq, and_true] at hcs
    refine ⟨some a, len, cap, hcs, hl, hm, fun h => (by cases h), ?_⟩
    have hC : Try.prog.cellsOf 24 = 5 := by kernel_rfl
    have hcell : ∀ i, i < len → ∃ p : Rc, ∀ j, j < 5 → w.cell? (a.add (i * 5 + j)) = (Rc.cs p)[j]? := fun i hil => by
      obtain ⟨cs', hc, ht'⟩ := hi i (by split at hmm <;> omega)
      rw [hC] at hc
      obtain ⟨_, hcl, hat⟩ := World.cells?_some hc
      obtain ⟨p, rfl⟩ := open_rcc ht' hcl
      exact ⟨p, fun j hj => by rw [← Go.Deep.add_add]; exact hat j hj⟩
    exact rows_rd (by decide) Rc.cs (fun _ => rfl) hcell
set_option maxRecDepth 100000 in
theorem open_rcv {r : Reach} {b0 : Nat} {d : DataW H} {q : List MemPlace} (hv : Value.okWide Try.prog w r b0 24 v) (h : DataW.Trod enc Try.prog w base spare held 24 v d q) :
    ∃ p : Rc, v = .agg #[.int .i64 p.d, .int .i64 p.f, .int .i64 p.k, .int .i64 p.i, .int .i64 p.o] := by
  obtain ⟨cs, rfl, hsz⟩ := okWide_struct Try.underlying24 hv
  obtain ⟨f, hf⟩ := h
  have hC : Try.prog.cellsOf 24 = 5 := by kernel_rfl
  obtain ⟨p, hp⟩ := open_rcc (cs := cs.toList) (by simpa [Value.cells] using hf) (by rw [Array.length_toList]; exact hsz.trans hC)
  exact ⟨p, by rw [show cs = p.cs.toArray by rw [← hp]]; rfl⟩
end
theorem max_len {c : Nat} (h : c ≤ maxLen) : c ≤ 9223372036854775807 := by
  have : maxLen = 2 ^ 63 - 1 := rfl
  rw [this] at h
  omega
end Go.Proofs.Ytdnjpfjiaomlgaa
