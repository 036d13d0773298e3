/- Words on memory: what lies below stands; cells from an address on; a region that draws its order, its callees leaving old memory alone. -/
import Derived.Test.YtmikhkmdcpgkfaaProg
import Derived.WalkKit
import Derived.WalkLawsBesides
import Derived.WalkSpells
import Derived.Deep.QuietTactic
import Derived.BigQuiet
import Derived.Lib.Hide
namespace Go.Proofs.Ytmikhkmdcpgkfaa
open Go.RowKit
open Go.Lib (hid)

theorem below_drewN {B : Nat} {a w : World} (h : Below B a w) (n : Nat) : Below B a (w.drewN n) := ⟨h.os, h.tape, h.output, h.size, h.block⟩
theorem b_then {w a b : World} (h : Below w.heap.size w a) (k : Below a.heap.size a b) : Below w.heap.size w b := h.trans (k.mono h.size)
theorem b_alloc {w a : World} (h : Below w.heap.size w a) (o : Obj) : Below w.heap.size w (a.alloc o) := h.alloc h.size o
theorem b_drewN {w a : World} (h : Below w.heap.size w a) (n : Nat) : Below w.heap.size w (a.drewN n) := below_drewN h n
theorem b_drew {w a : World} (h : Below w.heap.size w a) : Below w.heap.size w a.drew := h.drew
theorem b_set {w a : World} (h : Below w.heap.size w a) {b o : Nat} {f : Option Nat} (hp : w.heap.size ≤ b) (u : Value) : Below w.heap.size w (a.setCell ⟨b, o, f⟩ u) := h.setCell hp u
theorem b_grown {w a b : World} (h : Below w.heap.size w a) {row : Option Nat} (hg : a.grownBy b row) (hr : ∀ k, row = some k → w.heap.size ≤ k) : Below w.heap.size w b := h.grown hg h.size hr

/-- A world in which nothing that lay in w has turned. -/
def After (w : World) : Type := { w' : World // Below w.heap.size w w' }
def After.w {w : World} (v : After w) : World := v.1
theorem After.below {w : World} (v : After w) : Below w.heap.size w v.w := v.2
instance (w : World) : Nonempty (After w) := ⟨⟨w, Below.refl _ _⟩⟩

theorem wp_region_after {P : Program} {id : Nat} {Q : Exit → Act → World → Prop} {a : Act} {w : World} {l : List Oper} (hm : P.follows .mixedOrders = true) (hB : Region.lexB .any l.toArray = true)
    (h : wpQuiet P l.toArray (fun w' => ∃ v : After w, w' = v.w) (fun a' => ∀ w', Below w.heap.size w w' → Q .normal a' w') l a) : (Code.region id l.toArray true).wp P Q a w := by
  refine wp_region_quiet (C := fun w' => ∃ v : After w, w' = v.w) hm hB ⟨⟨{ w with drawn := w.drawn + 1 }, ⟨rfl, rfl, rfl, Nat.le_refl _, fun _ _ => rfl⟩⟩, rfl⟩ ?_
  have e : (fun a' : Act => ∀ w', (∃ v : After w, w' = v.w) → Q .normal a' w') = fun a' => ∀ w', Below w.heap.size w w' → Q .normal a' w' := by
    funext a'
    exact propext ⟨fun h w' hb => h w' ⟨⟨w', hb⟩, rfl⟩, fun h w' ⟨v, hv⟩ => hv ▸ h v.w v.2⟩
  rw [e]
  exact h

/-- A callee's contract, met in such a region. -/
theorem after_call {P : Program} {f : FuncId} {args : Array Value} {w : World} {v : After w} {x : Value}
    (h : Calls P f args v.w fun e w' => e = .returned x ∧ Below v.w.heap.size v.w w') : Calls P f args v.w fun e w'' => e = .returned x ∧ ∃ u : After w, w'' = u.w :=
  h.mono fun _ w'' ⟨he, hb⟩ => ⟨he, ⟨w'', v.2.trans (hb.mono v.2.size)⟩, rfl⟩
theorem after_same {P : Program} {f : FuncId} {args : Array Value} {w : World} {v : After w} {x : Value}
    (h : Calls P f args v.w fun e w' => e = .returned x ∧ v.w = w') : Calls P f args v.w fun e w'' => e = .returned x ∧ ∃ u : After w, w'' = u.w :=
  h.mono fun _ _w'' ⟨he, hb⟩ => ⟨he, v, hb.symm⟩

/-- An old cell reads in such a world as it did. -/
theorem after_cell {w : World} {b o : Nat} {x : Value} (hb : b < w.heap.size) (h : w.cell? ⟨b, o, none⟩ = some x) : ∀ v : After w, v.w.cell? ⟨b, o, none⟩ = some x :=
  fun v => (v.2.cell (p := ⟨b, o, none⟩) hb).trans h

theorem quiet_left {P : Program} {f : FuncId} {args : Array Value} {w : World} {n : Nat} {v : Value}
    (h : Calls P f args (w.drewN n) fun e w' => e = .returned v ∧ w.drewN n = w') : Calls P f args (w.drewN n) fun e w'' => e = .returned v ∧ ∃ m, w'' = w.drewN m :=
  h.mono fun _ _ ⟨he, hm⟩ => ⟨he, n, hm.symm⟩

/-- The cells xs lie from the slice's address on. -/
def Rd (w : World) (a : Option Addr) (xs : List Value) : Prop :=
  xs = [] ∨ ∃ b off, a = some ⟨b, off, none⟩ ∧ b < w.heap.size ∧ ∀ j u, xs[j]? = some u → w.cell? ⟨b, off + j, none⟩ = some u
theorem Rd.nil {w : World} {a : Option Addr} : Rd w a [] := .inl rfl
theorem Rd.below {w w' : World} {a : Option Addr} {xs : List Value} (h : Rd w a xs) (hb : Below w.heap.size w w') : Rd w' a xs := by
  rcases h with h | ⟨b, off, ha, hlt, hc⟩
  · exact .inl h
  · exact .inr ⟨b, off, ha, Nat.lt_of_lt_of_le hlt hb.size, fun j u hu => (hb.cell (p := ⟨b, off + j, none⟩) hlt).trans (hc j u hu)⟩
theorem Rd.alloc {w : World} {a : Option Addr} {xs : List Value} (h : Rd w a xs) (o : Obj) : Rd (w.alloc o) a xs := h.below ((Below.refl _ _).alloc (Nat.le_refl _) o)
theorem Rd.at_ {w : World} {a : Option Addr} {xs : List Value} (h : Rd w a xs) {j : Nat} (hj : j < xs.length) :
    ∃ b off, a = some ⟨b, off, none⟩ ∧ b < w.heap.size ∧ ∀ j u, xs[j]? = some u → w.cell? ⟨b, off + j, none⟩ = some u := by
  rcases h with h | h
  · subst h; simp at hj
  · exact h
theorem Rd.own {w : World} {base : Nat} {e : TypeId} {size n c : Nat} {a : Option Addr} {xs : List Value} (h : w.ownsRow base e size (.slice a n c) n xs) : Rd w a xs := by
  obtain ⟨hl, h2⟩ := h
  rcases h2 with ⟨hv, hn⟩ | ⟨g, cap, cur, hv, hg, hh, hn, hm, hs, ht⟩
  · subst hn
    exact .inl (List.eq_nil_of_length_eq_zero (by simpa using hl))
  · injection hv with ha
    refine .inr ⟨g, 0, ha, (Array.getElem?_eq_some_iff.1 hh).1, fun j u hu => ?_⟩
    rw [Nat.zero_add, cell_of_row w g j cur e (0, 0) hh]
    rw [← ht] at hu
    have hj : j < n * size := by
      have := (List.getElem?_eq_some_iff.1 hu).1
      simp at this
      omega
    rw [List.getElem?_take_of_lt hj] at hu
    simpa using hu

/-- A box's cell: laid just now; laid before; left alone by a callee. -/
theorem bn {w : World} {cs : Array Value} {t : TypeId} {n i : Nat} {v : Value} (hn : n = w.heap.size) (hv : cs[i]? = some v) : (w.alloc (.cells cs t)).cell? ⟨n, i, none⟩ = some v := by
  rw [World.cell?_alloc_at _ _ _ _ hn, hv]
theorem bo {w : World} {o : Obj} {n i : Nat} {v : Value} (hn : n < w.heap.size) (hv : w.cell? ⟨n, i, none⟩ = some v) : (w.alloc o).cell? ⟨n, i, none⟩ = some v := by
  rw [World.cell?_alloc_past _ _ _ hn, hv]
theorem bb {w w1 : World} {n i : Nat} {v : Value} (hB : Below w.heap.size w w1) (hn : n < w.heap.size) (hv : w.cell? ⟨n, i, none⟩ = some v) : w1.cell? ⟨n, i, none⟩ = some v :=
  (hB.cell (p := ⟨n, i, none⟩) hn).trans hv
/-- A store: the cell itself; another cell of the block; another block's; marks. -/
theorem st_hit {w : World} {b o : Nat} {v : Value} (u : Value) (hv : w.cell? ⟨b, o, none⟩ = some v) : (w.setCell ⟨b, o, none⟩ u).cell? ⟨b, o, none⟩ = some u := World.cell?_setCell_same _ _ _ hv
theorem st_off {w : World} {b o b' o' : Nat} {v : Value} (u : Value) (h : o' ≠ o ∨ b' ≠ b) (hv : w.cell? ⟨b, o, none⟩ = some v) : (w.setCell ⟨b', o', none⟩ u).cell? ⟨b, o, none⟩ = some v := by
  rw [World.cell?_setCell_other _ _ _ _ (by intro e; simp only [Addr.mk.injEq] at e; rcases h with h | h <;> simp_all)]
  exact hv
theorem sf {w : World} {b o b' o' : Nat} {f : Bool} (u : Value) (hv : w.frozen? ⟨b, o, none⟩ = f) : (w.setCell ⟨b', o', none⟩ u).frozen? ⟨b, o, none⟩ = f := by
  simp [hv]
theorem Rd.set {w : World} {a : Option Addr} {xs : List Value} (h : Rd w a xs) {b o : Nat} (hb : ∀ g off, a = some ⟨g, off, none⟩ → b ≠ g) (u : Value) : Rd (w.setCell ⟨b, o, none⟩ u) a xs := by
  rcases h with h | ⟨g, off, ha, hg, hc⟩
  · exact .inl h
  · exact .inr ⟨g, off, ha, by simpa using hg, fun j v hj => st_off u (.inr (hb g off ha)) (hc j v hj)⟩
/-- A box of two cells behind a store into both. -/
theorem two0 {w : World} {b : Nat} {u : Value} (h0 : w.cell? ⟨b, 0, none⟩ = some u) : ∀ x y, ((w.setCell ⟨b, 0, none⟩ x).setCell ⟨b, 1, none⟩ y).cell? ⟨b, 0, none⟩ = some x := fun x y => st_off y (.inl (by decide)) (st_hit x h0)
theorem two1 {w : World} {b : Nat} {u : Value} (h1 : w.cell? ⟨b, 1, none⟩ = some u) : ∀ x y, ((w.setCell ⟨b, 0, none⟩ x).setCell ⟨b, 1, none⟩ y).cell? ⟨b, 1, none⟩ = some y := fun x y => st_hit (v := u) y (st_off x (.inl (by decide)) h1)
theorem news {w : World} {cs : Array Value} {t : TypeId} {n : Nat} (hn : n = w.heap.size) : ∀ j u, cs.toList[j]? = some u → (w.alloc (.cells cs t)).cell? ((⟨n, 0, none⟩ : Addr).add j) = some u := fun j u hu => by
  rw [Addr.add_lit, Nat.zero_add, World.cell?_alloc_at _ _ _ _ hn]
  simpa using hu
theorem Rd.adds {w : World} {a : Option Addr} {xs : List Value} (h : Rd w a xs) {w' : World} (hB : Below w.heap.size w w') : ∀ b, a = some b → ∀ j u, xs[j]? = some u → w'.cell? (b.add j) = some u := by
  intro b hb j u hu
  rcases h with h | ⟨g, off, ha, hg, hc⟩
  · subst h; simp at hu
  · rw [hb] at ha
    cases ha
    rw [Addr.add_lit, hB.cell (p := ⟨g, off + j, none⟩) hg]
    exact hc j u hu
theorem fn {w : World} {cs : Array Value} {t : TypeId} {n i : Nat} (hn : n = w.heap.size) : (w.alloc (.cells cs t)).frozen? ⟨n, i, none⟩ = false := World.frozen?_alloc_at _ _ _ _ hn
theorem fo {w : World} {o : Obj} {n i : Nat} (hn : n < w.heap.size) (hv : w.frozen? ⟨n, i, none⟩ = false) : (w.alloc o).frozen? ⟨n, i, none⟩ = false :=
  (((Below.refl w.heap.size w).alloc (Nat.le_refl _) o).frozen (p := ⟨n, i, none⟩) hn).trans hv
theorem fb {w w1 : World} {n i : Nat} (hB : Below w.heap.size w w1) (hn : n < w.heap.size) (hv : w.frozen? ⟨n, i, none⟩ = false) : w1.frozen? ⟨n, i, none⟩ = false :=
  (hB.frozen (p := ⟨n, i, none⟩) hn).trans hv

/-- A cell of a row of elements that are k cells wide. -/
theorem flat_at {α : Type} (c : α → List Value) (k : Nat) (hk : ∀ x, (c x).length = k) : ∀ (xs : List α) (i : Nat) (hi : i < xs.length) (j : Nat), j < k → (xs.flatMap c)[i * k + j]? = (c xs[i])[j]? := by
  intro xs
  induction xs with
  | nil => intro i hi; simp at hi
  | cons x l ih =>
    intro i hi j hj
    rw [List.flatMap_cons]
    cases i with
    | zero => rw [Nat.zero_mul, Nat.zero_add, List.getElem?_append_left (by rw [hk]; exact hj)]; rfl
    | succ i =>
      rw [List.getElem?_append_right (by rw [hk, Nat.succ_mul]; omega), hk, show (i + 1) * k + j - k = i * k + j by rw [Nat.succ_mul]; omega]
      exact ih i (by simpa using hi) j hj
theorem flat_len {α : Type} (c : α → List Value) (k : Nat) (hk : ∀ x, (c x).length = k) (xs : List α) : (xs.flatMap c).length = xs.length * k := by
  induction xs with
  | nil => simp
  | cons x l ih => rw [List.flatMap_cons, List.length_append, ih, hk, List.length_cons, Nat.succ_mul]; omega
theorem Rd.base {w : World} {a : Option Addr} {xs : List Value} (h : Rd w a xs) (hn : 0 < xs.length) :
    ∃ b off, a = some ⟨b, off, none⟩ ∧ b < w.heap.size ∧ ∀ w', Below w.heap.size w w' → ∀ j u, xs[j]? = some u → w'.cell? ⟨b, off + j, none⟩ = some u := by
  obtain ⟨b, off, ha, hb, hc⟩ := h.at_ hn
  exact ⟨b, off, ha, hb, fun w' hw j u hu => (hw.cell (p := ⟨b, off + j, none⟩) hb).trans (hc j u hu)⟩
end Go.Proofs.Ytmikhkmdcpgkfaa
