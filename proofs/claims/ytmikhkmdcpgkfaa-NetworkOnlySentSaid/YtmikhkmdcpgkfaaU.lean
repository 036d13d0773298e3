/- Words on worlds in which nothing has turned since V: what is known of V's cells is known of theirs. -/
import Derived.Test.YtmikhkmdcpgkfaaA
import Derived.Deep.DeepCutAuto
namespace Go.Proofs.Ytmikhkmdcpgkfaa
open Go.RowKit
open Go.Lib (hid)

def After.here (V : World) : After V := ⟨V, Below.refl _ _⟩
def After.to {V w : World} (h : Below V.heap.size V w) : After V := ⟨w, h⟩
def After.up {V V2 : World} (hB : Below V.heap.size V V2) (v : After V2) : After V := ⟨v.1, b_then hB v.2⟩
def After.on {V w : World} (u : After V) (h : Below u.w.heap.size u.w w) : After V := ⟨w, b_then u.2 h⟩

theorem upc {V V2 : World} (hB : Below V.heap.size V V2) {a : Addr} {x : Value} (h : ∀ v : After V, v.w.cell? a = some x) : ∀ v : After V2, v.w.cell? a = some x := fun v => h (v.up hB)
theorem upf {V V2 : World} (hB : Below V.heap.size V V2) {a : Addr} (h : ∀ v : After V, v.w.frozen? a = false) : ∀ v : After V2, v.w.frozen? a = false := fun v => h (v.up hB)
theorem upr {V V2 : World} (hB : Below V.heap.size V V2) {a : Option Addr} {xs : List Value} (h : ∀ v : After V, Rd v.w a xs) : ∀ v : After V2, Rd v.w a xs := fun v => h (v.up hB)
theorem upb {w V V2 : World} (hB : Below V.heap.size V V2) (h : ∀ v : After V, Below w.heap.size w v.w) : ∀ v : After V2, Below w.heap.size w v.w := fun v => h (v.up hB)
theorem upz {n : Nat} {V V2 : World} (hB : Below V.heap.size V V2) (h : ∀ v : After V, n < v.w.heap.size) : ∀ v : After V2, n < v.w.heap.size := fun v => h (v.up hB)
theorem after_frozen {w : World} {b o : Nat} (hb : b < w.heap.size) (h : w.frozen? ⟨b, o, none⟩ = false) : ∀ v : After w, v.w.frozen? ⟨b, o, none⟩ = false := fun v => (v.2.frozen (p := ⟨b, o, none⟩) hb).trans h
theorem after_rd {w : World} {a : Option Addr} {xs : List Value} (h : Rd w a xs) : ∀ v : After w, Rd v.w a xs := fun v => h.below v.2
theorem after_below {w V : World} (h : Below w.heap.size w V) : ∀ v : After V, Below w.heap.size w v.w := fun v => b_then h v.2
theorem after_size {n : Nat} {V : World} (h : n < V.heap.size) : ∀ v : After V, n < v.w.heap.size := fun v => Nat.lt_of_lt_of_le h v.2.size
theorem after_row {V : World} {b off : Nat} {xs : List Value} (h : ∀ v : After V, Rd v.w (some ⟨b, off, none⟩) xs) {j : Nat} {u : Value} (hj : xs[j]? = some u) : ∀ v : After V, v.w.cell? ⟨b, off + j, none⟩ = some u := fun v => by
  rcases h v with e | ⟨g, o, ha, _, hc⟩
  · rw [e] at hj; simp at hj
  · cases ha; exact hc j u hj
theorem row_cell {α : Type} {c : α → List Value} {k : Nat} (hk : ∀ x, (c x).length = k) {V : World} {b off : Nat} {l : List α} (h : ∀ v : After V, Rd v.w (some ⟨b, off, none⟩) (l.flatMap c)) {j : Nat} (hj : j < l.length) (i : Nat) (hi : i < k) {u : Value} (hu : (c l[j])[i]? = some u)
    {o : Nat} (ho : o = off + (j * k + i)) : ∀ v : After V, v.w.cell? ⟨b, o, none⟩ = some u := by
  subst ho
  exact after_row h ((flat_at c k hk l j hj i hi).trans hu)
theorem Rd.addr {w : World} {a : Option Addr} {xs : List Value} (h : Rd w a xs) (hn : 0 < xs.length) : ∃ b off, a = some ⟨b, off, none⟩ ∧ b < w.heap.size := by
  obtain ⟨b, off, ha, hb, _⟩ := h.at_ hn
  exact ⟨b, off, ha, hb⟩
/-- A call in such a world. -/
theorem met {P : Program} {f : FuncId} {args : Array Value} {V : World} {u : After V} {x : Value}
    (h : Calls P f args u.w fun e w' => e = .returned x ∧ Below u.w.heap.size u.w w') : Calls P f args u.w fun e w'' => e = .returned x ∧ ∃ v : After V, w'' = v.w :=
  h.mono fun _ w'' ⟨he, hb⟩ => ⟨he, ⟨w'', b_then u.2 hb⟩, rfl⟩
theorem met0 {P : Program} {f : FuncId} {args : Array Value} {V : World} {x : Value}
    (h : Calls P f args V fun e w' => e = .returned x ∧ Below V.heap.size V w') : Calls P f args V fun e w'' => e = .returned x ∧ ∃ v : After V, w'' = v.w :=
  h.mono fun _ w'' ⟨he, hb⟩ => ⟨he, ⟨w'', hb⟩, rfl⟩
/-- A region that draws, in such a world. -/
theorem wp_region_since {P : Program} {id : Nat} {Q : Exit → Act → World → Prop} {a : Act} {V : World} {u : After V} {l : List Oper} (hm : P.follows .mixedOrders = true) (hB : Region.lexB .any l.toArray = true)
    (h : wpQuiet P l.toArray (fun w' => ∃ v : After V, w' = v.w) (fun a' => ∀ v : After V, Q .normal a' v.w) l a) : (Code.region id l.toArray true).wp P Q a u.w := by
  refine wp_region_quiet (C := fun w' => ∃ v : After V, w' = v.w) hm hB ⟨⟨{ u.w with drawn := u.w.drawn + 1 }, ⟨u.2.os, u.2.tape, u.2.output, u.2.size, u.2.block⟩⟩, rfl⟩ ?_
  have e : (fun a' : Act => ∀ w', (∃ v : After V, w' = v.w) → Q .normal a' w') = fun a' => ∀ v : After V, Q .normal a' v.w := by
    funext a'
    exact propext ⟨fun h v => h _ ⟨v, rfl⟩, fun h w' ⟨v, hv⟩ => hv ▸ h v⟩
  rw [e]
  exact h
theorem After.w_below {V : World} (u : After V) : Below V.heap.size V u.w := u.2
/-- A new block. -/
theorem new_cell {V W : World} {cs : Array Value} {t : TypeId} {n i : Nat} {x : Value} (hV : V = W.alloc (.cells cs t)) (hn : n = W.heap.size) (hx : cs[i]? = some x) : ∀ v : After V, v.w.cell? ⟨n, i, none⟩ = some x := by
  subst hV
  exact after_cell (by simp; omega) (bn hn hx)
theorem new_frozen {V W : World} {cs : Array Value} {t : TypeId} {n i : Nat} (hV : V = W.alloc (.cells cs t)) (hn : n = W.heap.size) : ∀ v : After V, v.w.frozen? ⟨n, i, none⟩ = false := by
  subst hV
  exact after_frozen (by simp; omega) (fn hn)
theorem cell_lt {w : World} {b o : Nat} {x : Value} (h : w.cell? ⟨b, o, none⟩ = some x) : b < w.heap.size := by
  refine Decidable.byContradiction fun hb => ?_
  have : w.heap[b]? = none := by simp; omega
  simp [World.cell?, this] at h
/-- Another cell, another block's mark, another row, behind a store. -/
theorem off_cell {V W : World} {b o b' o' : Nat} {x y : Value} (hV : V = W.setCell ⟨b', o', none⟩ y) (hne : o' ≠ o ∨ b' ≠ b) (h : ∀ v : After W, v.w.cell? ⟨b, o, none⟩ = some x) : ∀ v : After V, v.w.cell? ⟨b, o, none⟩ = some x := by
  subst hV
  have h0 := h (After.here W)
  exact after_cell (by have := cell_lt h0; simpa [After.here, After.w] using this) (st_off y hne h0)
theorem on_cell {V W : World} {b o : Nat} {x y : Value} (hV : V = W.setCell ⟨b, o, none⟩ y) (h : ∀ v : After W, v.w.cell? ⟨b, o, none⟩ = some x) : ∀ v : After V, v.w.cell? ⟨b, o, none⟩ = some y := by
  subst hV
  have h0 := h (After.here W)
  exact after_cell (by have := cell_lt h0; simpa [After.here, After.w] using this) (st_hit y h0)
theorem off_frozen {V W : World} {b o b' o' : Nat} {y : Value} (hV : V = W.setCell ⟨b', o', none⟩ y) (hb : b < W.heap.size) (h : ∀ v : After W, v.w.frozen? ⟨b, o, none⟩ = false) : ∀ v : After V, v.w.frozen? ⟨b, o, none⟩ = false := by
  subst hV
  exact after_frozen (by simpa using hb) (sf y (h (After.here W)))
theorem off_rd {V W : World} {b' o' : Nat} {y : Value} {a : Option Addr} {xs : List Value} (hV : V = W.setCell ⟨b', o', none⟩ y) (hb : ∀ g off, a = some ⟨g, off, none⟩ → b' ≠ g) (h : ∀ v : After W, Rd v.w a xs) : ∀ v : After V, Rd v.w a xs := by
  subst hV
  exact after_rd ((h (After.here W)).set hb y)
theorem off_size {n : Nat} {V W : World} {p : Addr} {y : Value} (hV : V = W.setCell p y) (h : ∀ v : After W, n < v.w.heap.size) : ∀ v : After V, n < v.w.heap.size := by
  subst hV
  exact after_size (by have := h (After.here W); simpa [After.here, After.w] using this)
theorem off_below {w V W : World} {b o : Nat} {y : Value} (hV : V = W.setCell ⟨b, o, none⟩ y) (hb : w.heap.size ≤ b) (h : ∀ v : After W, Below w.heap.size w v.w) : ∀ v : After V, Below w.heap.size w v.w := by
  subst hV
  exact after_below (b_set (h (After.here W)) hb y)
end Go.Proofs.Ytmikhkmdcpgkfaa
