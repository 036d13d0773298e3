/- A box whose cells are known. -/
import Derived.Test.YtdnjpfjiaomlgaaV
namespace Go.Proofs.Ytdnjpfjiaomlgaa
open Go.RowKit
open Go.Lib (hid)

/-- A box whose cells are known; what lay below it stands. -/
structure BoxV (V : World) (b : Nat) (vs : List Value) (w : World) : Prop where
  below : Below V.heap.size V w
  size : b < w.heap.size
  cell : ∀ i v, vs[i]? = some v → w.cell? ⟨b, i, none⟩ = some v
  froz : ∀ i, i < vs.length → w.frozen? ⟨b, i, none⟩ = false
theorem BoxV.set1 {V : World} {b : Nat} {vs : List Value} {w : World} (h : BoxV V b vs w) (hb : V.heap.size ≤ b) (i : Nat) (u : Value) : BoxV V b (vs.set i u) (w.setCell ⟨b, i, none⟩ u) := by
  refine ⟨b_set h.below hb _, by simpa using h.size, fun j v hj => ?_, fun j hj => sf _ (h.froz j (by simpa using hj))⟩
  rw [List.getElem?_set] at hj
  by_cases he : i = j
  · subst he
    rw [if_pos rfl] at hj
    split at hj
    · rename_i hl
      simp at hj
      subst hj
      exact st_hit _ (h.cell i _ (List.getElem?_eq_getElem hl))
    · cases hj
  · rw [if_neg he] at hj
    exact st_off _ (.inl he) (h.cell j v hj)
theorem BoxV.other1 {V : World} {b g : Nat} {vs : List Value} {w : World} (h : BoxV V b vs w) (hb : V.heap.size ≤ g) (hg : g ≠ b) (o : Nat) (u : Value) : BoxV V b vs (w.setCell ⟨g, o, none⟩ u) :=
  ⟨b_set h.below hb _, by simpa using h.size, fun j v hj => st_off _ (.inr hg) (h.cell j v hj), fun j hj => sf _ (h.froz j hj)⟩
theorem BoxV.new {V w : World} (hB : Below V.heap.size V w) (cs : Array Value) (t : TypeId) : BoxV V w.heap.size cs.toList (w.alloc (.cells cs t)) :=
  ⟨b_alloc hB _, by simp, fun _ _ hj => bn rfl (by simpa using hj), fun _ _ => fn rfl⟩
theorem BoxV.alloc {V w : World} {b : Nat} {vs : List Value} (h : BoxV V b vs w) (o : Obj) : BoxV V b vs (w.alloc o) :=
  ⟨b_alloc h.below _, Nat.lt_of_lt_of_le h.size (by simp), fun j v hj => bo h.size (h.cell j v hj), fun j hj => fo h.size (h.froz j hj)⟩
theorem BoxV.after {V w w' : World} {b : Nat} {vs : List Value} (h : BoxV V b vs w) (hB : Below w.heap.size w w') : BoxV V b vs w' :=
  ⟨b_then h.below hB, Nat.lt_of_lt_of_le h.size hB.size, fun j v hj => bb hB h.size (h.cell j v hj), fun j hj => fb hB h.size (h.froz j hj)⟩
theorem BoxV.eq {V w : World} {b : Nat} {vs vs2 : List Value} (h : BoxV V b vs w) (e : vs = vs2) : BoxV V b vs2 w := e ▸ h
end Go.Proofs.Ytdnjpfjiaomlgaa
