/- A box that holds a point. -/
import Derived.Test.YtbppajenihjfhaaV
import Derived.Test.YtbppajenihjfhaaB
namespace Go.Proofs.Ytbppajenihjfhaa
open Go.RowKit
open Go.Lib (hid)

/-- A box that holds a point; what lay below it stands. -/
structure BoxIs (V : World) (b : Nat) (q : Tp) (w : World) : Prop where
  below : Below V.heap.size V w
  size : b < w.heap.size
  c0 : w.cell? ⟨b, 0, none⟩ = some (.int .i64 q.k)
  c1 : w.cell? ⟨b, 1, none⟩ = some (.int .i64 q.n)
  c2 : w.cell? ⟨b, 2, none⟩ = some (.int .i64 q.d)
  c3 : w.cell? ⟨b, 3, none⟩ = some (.bool q.r)
  f0 : w.frozen? ⟨b, 0, none⟩ = false
  f1 : w.frozen? ⟨b, 1, none⟩ = false
  f2 : w.frozen? ⟨b, 2, none⟩ = false
  f3 : w.frozen? ⟨b, 3, none⟩ = false
theorem BoxIs.set {V : World} {b : Nat} {q : Tp} {w : World} (h : BoxIs V b q w) (hb : V.heap.size ≤ b) (x y z : Int) (r : Bool) :
    BoxIs V b ⟨x, y, z, r⟩ ((((w.setCell ⟨b, 0, none⟩ (.int .i64 x)).setCell ⟨b, 1, none⟩ (.int .i64 y)).setCell ⟨b, 2, none⟩ (.int .i64 z)).setCell ⟨b, 3, none⟩ (.bool r)) :=
  ⟨b_set (b_set (b_set (b_set h.below hb _) hb _) hb _) hb _, by simpa using h.size,
   st_off _ (.inl (by decide)) (st_off _ (.inl (by decide)) (st_off _ (.inl (by decide)) (st_hit _ h.c0))),
   st_off _ (.inl (by decide)) (st_off _ (.inl (by decide)) (st_hit _ (st_off _ (.inl (by decide)) h.c1))),
   st_off _ (.inl (by decide)) (st_hit _ (st_off _ (.inl (by decide)) (st_off _ (.inl (by decide)) h.c2))),
   st_hit _ (st_off _ (.inl (by decide)) (st_off _ (.inl (by decide)) (st_off _ (.inl (by decide)) h.c3))),
   sf _ (sf _ (sf _ (sf _ h.f0))), sf _ (sf _ (sf _ (sf _ h.f1))), sf _ (sf _ (sf _ (sf _ h.f2))), sf _ (sf _ (sf _ (sf _ h.f3)))⟩
theorem BoxIs.other {V : World} {b g : Nat} {q : Tp} {w : World} (h : BoxIs V b q w) (hb : V.heap.size ≤ g) (hg : g ≠ b) (x y z : Int) (r : Bool) :
    BoxIs V b q ((((w.setCell ⟨g, 0, none⟩ (.int .i64 x)).setCell ⟨g, 1, none⟩ (.int .i64 y)).setCell ⟨g, 2, none⟩ (.int .i64 z)).setCell ⟨g, 3, none⟩ (.bool r)) :=
  ⟨b_set (b_set (b_set (b_set h.below hb _) hb _) hb _) hb _, by simpa using h.size,
   st_off _ (.inr hg) (st_off _ (.inr hg) (st_off _ (.inr hg) (st_off _ (.inr hg) h.c0))), st_off _ (.inr hg) (st_off _ (.inr hg) (st_off _ (.inr hg) (st_off _ (.inr hg) h.c1))),
   st_off _ (.inr hg) (st_off _ (.inr hg) (st_off _ (.inr hg) (st_off _ (.inr hg) h.c2))), st_off _ (.inr hg) (st_off _ (.inr hg) (st_off _ (.inr hg) (st_off _ (.inr hg) h.c3))),
   sf _ (sf _ (sf _ (sf _ h.f0))), sf _ (sf _ (sf _ (sf _ h.f1))), sf _ (sf _ (sf _ (sf _ h.f2))), sf _ (sf _ (sf _ (sf _ h.f3)))⟩
theorem BoxIs.new {V w : World} (hB : Below V.heap.size V w) (q : Tp) : BoxIs V w.heap.size q (w.alloc (.cells #[.int .i64 q.k, .int .i64 q.n, .int .i64 q.d, .bool q.r] 53)) :=
  ⟨b_alloc hB _, by simp, bn rfl rfl, bn rfl rfl, bn rfl rfl, bn rfl rfl, fn rfl, fn rfl, fn rfl, fn rfl⟩
theorem BoxIs.alloc {V w : World} {b : Nat} {q : Tp} (h : BoxIs V b q w) (o : Obj) : BoxIs V b q (w.alloc o) :=
  ⟨b_alloc h.below _, Nat.lt_of_lt_of_le h.size (by simp), bo h.size h.c0, bo h.size h.c1, bo h.size h.c2, bo h.size h.c3, fo h.size h.f0, fo h.size h.f1, fo h.size h.f2, fo h.size h.f3⟩
theorem BoxIs.after {V w w' : World} {b : Nat} {q : Tp} (h : BoxIs V b q w) (hB : Below w.heap.size w w') : BoxIs V b q w' :=
  ⟨b_then h.below hB, Nat.lt_of_lt_of_le h.size hB.size, bb hB h.size h.c0, bb hB h.size h.c1, bb hB h.size h.c2, bb hB h.size h.c3, fb hB h.size h.f0, fb hB h.size h.f1, fb hB h.size h.f2, fb hB h.size h.f3⟩
theorem BoxIs.eq {V w : World} {b : Nat} {q q2 : Tp} (h : BoxIs V b q w) (e : q = q2) : BoxIs V b q2 w := e ▸ h
end Go.Proofs.Ytbppajenihjfhaa
