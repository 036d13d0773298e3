/- A region that draws its order, whose operations read old memory alone and whose callees leave old memory as it was: walked once. -/
import Derived.Test.YtfcibldknamekaaA
namespace Go.Proofs.Ytfcibldknamekaa
open Go.RowKit

/-- A world in which nothing that lay in w has turned. -/
def After (w : World) : Type := { w' : World // Below w.heap.size w w' }
def After.w {w : World} (v : After w) : World := v.1
theorem After.below {w : World} (v : After w) : Below w.heap.size w v.w := v.2
instance (w : World) : Nonempty (After w) := ⟨⟨w, Below.refl _ _⟩⟩

theorem wp_region_after {P : Program} {id : Nat} {Q : Exit → Act → World → Prop} {a : Act} {w : World} {l : List Oper} (hm : P.follows .mixedOrders = true) (hB : Region.lexB .any l.toArray = true)
    (h : wpQuiet P l.toArray (fun w' => ∃ v : After w, w' = v.w) (fun a' => ∀ w', Below w.heap.size w w' → Q .normal a' w') l a) : (Code.region id l.toArray true).wp P Q a w := by
  refine wp_region_quiet (C := fun w' => ∃ v : After w, w' = v.w) hm hB ⟨⟨{ w with drawn := w.drawn + 1 }, ⟨rfl, rfl, rfl, Nat.le_refl _, fun _ _ => rfl⟩⟩, rfl⟩ ?_
  have e : (fun a' : Act => ∀ w', (∃ v : After w, w' = v.w) → Q .normal a' w') = fun a' => ∀ w', Below w.heap.size w w' → Q .normal a' w' := by
    funext a'
    exact propext ⟨fun h w' hb => h w' ⟨⟨w', hb⟩, rfl⟩, fun h w' ⟨v, hv⟩ => hv ▸ h v.w v.2⟩
  rw [e]
  exact h

/-- A callee's contract, met in such a region. -/
theorem after_call {P : Program} {f : FuncId} {args : Array Value} {w : World} {v : After w} {x : Value}
    (h : Calls P f args v.w fun e w' => e = .returned x ∧ Below v.w.heap.size v.w w') : Calls P f args v.w fun e w'' => e = .returned x ∧ ∃ u : After w, w'' = u.w :=
  h.mono fun _ w'' ⟨he, hb⟩ => ⟨he, ⟨w'', v.2.trans (hb.mono v.2.size)⟩, rfl⟩

/-- An old cell reads in such a world as it did. -/
theorem after_cell {w : World} {b o : Nat} {x : Value} (hb : b < w.heap.size) (h : w.cell? ⟨b, o, none⟩ = some x) : ∀ v : After w, v.w.cell? ⟨b, o, none⟩ = some x :=
  fun v => (v.2.cell (p := ⟨b, o, none⟩) hb).trans h
end Go.Proofs.Ytfcibldknamekaa
