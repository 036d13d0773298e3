/- parts. -/
import Derived.Test.YtdnjpfjiaomlgaaS
import Derived.RangeFuncNested
import Derived.RangeFuncBound
import Derived.RangeFuncCalls
import Derived.RangeFuncLeaves
import Derived.RangeFuncBox
import Derived.RangeFuncKeeps
import Derived.Shelf.Abstract
import Derived.Shelf.RegionOpen
import Derived.OwnWalkIn
import Derived.TacticsInMore
import Derived.LoopNIn
import Derived.LoopIn
namespace Go.Proofs.Ytdnjpfjiaomlgaa
open Go.RowKit Go.Shelf
open Go.Lib (hid)

theorem whole_region {P : Program} {Q : Exit → Act → World → Prop} {id : Nat} {a : Act} {V : World} {u : After V} {l : List Oper} (n : Nat) (hn : l.length = n) (hm : P.follows .mixedOrders = true)
    (h : ∀ u : After V, wpAnyH P .any l.toArray (NoPanic Q) (Since V) n (Array.replicate n false) a u.w) : (Code.region id l.toArray true).wp P Q a u.w := by
  subst hn
  exact wp_region_noPanic (wp_region_held_drew hm (S := Since V) ⟨⟨u.w.drew, b_drew u.2⟩, rfl⟩ (fun _ => h ⟨u.w.drew, b_drew u.2⟩))
theorem below_grown {w w' : World} (h : Below w.heap.size w w') : w.grownBy w' none := ⟨h.os, h.tape, h.output, h.size, fun k hk _ => h.block k hk⟩
/-- What an iterator asks of a round: old memory below n₀ stands, and so do all cells but those of some blocks. -/
structure Kx (n₀ : Nat) (X : Nat → Prop) (W W' : World) : Prop where
  below : Below n₀ W W'
  size : W.heap.size ≤ W'.heap.size
  keep : ∀ b o, ¬ X b → W.heap[b]? = some o → o.isCells = true → W'.heap[b]? = some o
theorem Kx.refl (n₀ : Nat) (X : Nat → Prop) (W : World) : Kx n₀ X W W := ⟨Below.refl _ _, Nat.le_refl _, fun _ _ _ h _ => h⟩
theorem Kx.trans {n₀ : Nat} {X : Nat → Prop} {A B C : World} (h : Kx n₀ X A B) (k : Kx n₀ X B C) : Kx n₀ X A C := ⟨h.below.trans k.below, Nat.le_trans h.size k.size, fun b o hb ho hc => k.keep b o hb (h.keep b o hb ho hc) hc⟩
theorem Kx.of {n₀ : Nat} {X : Nat → Prop} {W W' : World} (h : Below W.heap.size W W') (hn : n₀ ≤ W.heap.size) : Kx n₀ X W W' := ⟨h.mono hn, h.size, fun b _ _ ho _ => (h.block b (Array.getElem?_eq_some_iff.1 ho).1).trans ho⟩
theorem Kx.cell {n₀ : Nat} {X : Nat → Prop} {W W' : World} (h : Kx n₀ X W W') {b o : Nat} {v : Value} (hb : ¬ X b) (hc : W.cell? ⟨b, o, none⟩ = some v) : W'.cell? ⟨b, o, none⟩ = some v := by
  have hlt := cell_lt hc
  have ho : W.heap[b]? = some W.heap[b] := Array.getElem?_eq_getElem hlt
  have hcells : (W.heap[b]).isCells = true := by
    have h2 := hc
    unfold World.cell? at h2
    rw [ho] at h2
    revert h2
    cases W.heap[b] <;> simp [Obj.isCells]
  rw [World.cell?_of_block (h.keep b _ hb ho hcells |>.trans ho.symm)]
  exact hc
/-- The first j numbers below n. -/
def fto (n j : Nat) : List (Fin n) := (List.finRange n).take j
theorem fto_next {n j : Nat} (h : j < n) : fto n (j + 1) = fto n j ++ [⟨j, h⟩] := by
  unfold fto
  rw [List.take_succ_eq_append_getElem (by simpa using h)]
  simp
theorem fto_len (n j : Nat) : (fto n j).length ≤ j := by
  unfold fto
  rw [List.length_take]
  omega
theorem fto_all (n : Nat) : fto n n = List.finRange n := by
  unfold fto
  exact List.take_of_length_le (by simp)
end Go.Proofs.Ytdnjpfjiaomlgaa
