/- Steps through a region that draws, in worlds in which nothing has turned since V. -/
import Derived.Test.YtmikhkmdcpgkfaaR
import Derived.Test.YtmikhkmdcpgkfaaV
import Derived.Deep.RegionHeld3
namespace Go.Proofs.Ytmikhkmdcpgkfaa
open Go.RowKit
open Go.Lib (hid)

/-- Nothing has turned since V. -/
def Since (V : World) : World → Prop := fun w' => ∃ v : After V, w' = v.w
section
variable {P : Program} {Q : Exit → Act → World → Prop} {ops : Array Oper} {md : Region.Mode}
theorem region_split {id : Nat} {a : Act} {V : World} {u : After V} {l : List Oper} (n : Nat) (hm : P.follows .mixedOrders = true) (hB : splitB .any n l = true) (hn : (l.take n).length = n)
    (h : ∀ u : After V, wpAnyH P .any (l.take n).toArray (Tail P .any n l (NoPanic Q)) (Since V) n (Array.replicate n false) a u.w) : (Code.region id l.toArray true).wp P Q a u.w :=
  wp_region_noPanic (wp_region_split n (Since V) hm hB hn (h ⟨u.w.drew, b_drew u.2⟩))
theorem tail_go {n : Nat} {l : List Oper} {a : Act} {w : World} {fuel : Nat} {listed : Array Bool} (hr : Region.ready md ops listed = []) (h : Tail P .any n l Q .normal a w) {S : World → Prop} : wpAnyH P md ops (Tail P .any n l Q) S fuel listed a w :=
  wpAnyH_done hr h fuel
theorem tail_in {n : Nat} {l : List Oper} {a : Act} {w : World} (h : wpAnyH P .any l.toArray Q (fun _ => True) (l.length - n) (Array.replicate n true ++ Array.replicate (l.length - n) false) a w) : Tail P .any n l Q .normal a w :=
  wpAny_of_held _ _ _ _ h
theorem h_take {lo : List Oper} {V : World} {u : After V} {a : Act} {fuel : Nat} {listed : Array Bool} (i : Nat) {oi : Oper} {x : Value} (hi : lo[i]? = some oi) (hs : Region.noSelect lo.toArray = true) (hf : Region.free md lo.toArray listed i = true) (hr : (Region.ready md lo.toArray listed).contains i = true)
    (hQ : ∀ c a w, Q (.panic c) (a.put oi.dst x) w → Q (.panic c) a w) (hw : Region.wanted oi (yielded lo.toArray a.tmps) = true) (hy : ∀ v : After V, (execOp a.eval oi).run P v.w = .ok (.value x) v.w)
    (h : wpAnyH P md lo.toArray Q (Since V) fuel (listed.setIfInBounds i true) (a.put oi.dst x) u.w) : wpAnyH P md lo.toArray Q (Since V) (fuel + 1) listed a u.w :=
  wpAnyH_take (by simpa using hi) hs hf hr hQ (.inl ⟨hw, fun w hS => by obtain ⟨v, rfl⟩ := hS; exact hy v⟩) ⟨u, rfl⟩ h
theorem h_skip {lo : List Oper} {V : World} {u : After V} {a : Act} {fuel : Nat} {listed : Array Bool} (i : Nat) {oi : Oper} (hi : lo[i]? = some oi) (hs : Region.noSelect lo.toArray = true) (hf : Region.free md lo.toArray listed i = true) (hr : (Region.ready md lo.toArray listed).contains i = true)
    (hQ : ∀ c a w, Q (.panic c) (a.put oi.dst undef) w → Q (.panic c) a w) (hw : Region.wanted oi (yielded lo.toArray a.tmps) = false)
    (h : wpAnyH P md lo.toArray Q (Since V) fuel (listed.setIfInBounds i true) (a.put oi.dst undef) u.w) : wpAnyH P md lo.toArray Q (Since V) (fuel + 1) listed a u.w :=
  wpAnyH_take (by simpa using hi) hs hf hr hQ (.inr ⟨hw, rfl⟩) ⟨u, rfl⟩ h
theorem t_take {lo : List Oper} {w : World} {a : Act} {fuel : Nat} {listed : Array Bool} (i : Nat) {oi : Oper} {x : Value} (hi : lo[i]? = some oi) (hs : Region.noSelect lo.toArray = true) (hf : Region.free md lo.toArray listed i = true) (hr : (Region.ready md lo.toArray listed).contains i = true)
    (hQ : ∀ c a w, Q (.panic c) (a.put oi.dst x) w → Q (.panic c) a w) (hw : Region.wanted oi (yielded lo.toArray a.tmps) = true) (hy : ∀ w, (execOp a.eval oi).run P w = .ok (.value x) w)
    (h : wpAnyH P md lo.toArray Q (fun _ => True) fuel (listed.setIfInBounds i true) (a.put oi.dst x) w) : wpAnyH P md lo.toArray Q (fun _ => True) (fuel + 1) listed a w :=
  wpAnyH_take (by simpa using hi) hs hf hr hQ (.inl ⟨hw, fun w _ => hy w⟩) trivial h
theorem h_step {lo : List Oper} {V : World} {u : After V} {a : Act} {fuel : Nat} {listed : Array Bool} (i : Nat) {o : Oper} (hr : Region.ready md lo.toArray listed = [i]) (ho : lo[i]? = some o)
    (h : ∀ K : Act → World → Prop, (∀ a' (v : After V), wpAnyH P md lo.toArray Q (Since V) fuel (listed.setIfInBounds i true) a' v.w → K a' v.w) → if Region.wanted o (yielded lo.toArray a.tmps) = true then o.wp P a u.w K Q else K (a.put o.dst undef) u.w) : wpAnyH P md lo.toArray Q (Since V) (fuel + 1) listed a u.w := by
  refine wpAnyH_all hr (by simp) fun j hj => ?_
  obtain rfl : j = i := by simpa using hj
  have := h (fun a' w' => Since V w' ∧ wpAnyH P md lo.toArray Q (Since V) fuel (listed.setIfInBounds j true) a' w') fun a' v hv => ⟨⟨v, rfl⟩, hv⟩
  unfold wpOp
  rw [show lo.toArray[j]? = some o by simpa using ho]
  dsimp only
  split
  · rename_i hw
    rw [if_pos hw] at this
    exact .inl this
  · rename_i hw
    rw [if_neg hw] at this
    exact this
theorem h_two {lo : List Oper} {V : World} {u : After V} {a : Act} {fuel : Nat} {listed : Array Bool} (i j : Nat) {o p : Oper} (hr : Region.ready md lo.toArray listed = [i, j]) (ho : lo[i]? = some o) (hp : lo[j]? = some p)
    (h : ∀ K : Act → World → Prop, (∀ a' (v : After V), wpAnyH P md lo.toArray Q (Since V) fuel (listed.setIfInBounds i true) a' v.w → K a' v.w) → if Region.wanted o (yielded lo.toArray a.tmps) = true then o.wp P a u.w K Q else K (a.put o.dst undef) u.w)
    (h2 : ∀ K : Act → World → Prop, (∀ a' (v : After V), wpAnyH P md lo.toArray Q (Since V) fuel (listed.setIfInBounds j true) a' v.w → K a' v.w) → if Region.wanted p (yielded lo.toArray a.tmps) = true then p.wp P a u.w K Q else K (a.put p.dst undef) u.w) : wpAnyH P md lo.toArray Q (Since V) (fuel + 1) listed a u.w := by
  have key : ∀ (i : Nat) (o : Oper), lo[i]? = some o → (∀ K : Act → World → Prop, (∀ a' (v : After V), wpAnyH P md lo.toArray Q (Since V) fuel (listed.setIfInBounds i true) a' v.w → K a' v.w) → if Region.wanted o (yielded lo.toArray a.tmps) = true then o.wp P a u.w K Q else K (a.put o.dst undef) u.w) →
      wpOp P lo.toArray Q i (fun a' w' => Since V w' ∧ wpAnyH P md lo.toArray Q (Since V) fuel (listed.setIfInBounds i true) a' w') a u.w := by
    intro i o ho h
    have := h (fun a' w' => Since V w' ∧ wpAnyH P md lo.toArray Q (Since V) fuel (listed.setIfInBounds i true) a' w') fun a' v hv => ⟨⟨v, rfl⟩, hv⟩
    unfold wpOp
    rw [show lo.toArray[i]? = some o by simpa using ho]
    dsimp only
    split
    · rename_i hw
      rw [if_pos hw] at this
      exact .inl this
    · rename_i hw
      rw [if_neg hw] at this
      exact this
  refine wpAnyH_all hr (by simp) fun k hk => ?_
  have : k = i ∨ k = j := by simpa using hk
  rcases this with rfl | rfl
  · exact key k o ho h
  · exact key k p hp h2
theorem t_step {lo : List Oper} {w : World} {a : Act} {fuel : Nat} {listed : Array Bool} (i : Nat) {o : Oper} (hr : Region.ready md lo.toArray listed = [i]) (ho : lo[i]? = some o)
    (h : ∀ K : Act → World → Prop, (∀ a' w', wpAnyH P md lo.toArray Q (fun _ => True) fuel (listed.setIfInBounds i true) a' w' → K a' w') → if Region.wanted o (yielded lo.toArray a.tmps) = true then o.wp P a w K Q else K (a.put o.dst undef) w) : wpAnyH P md lo.toArray Q (fun _ => True) (fuel + 1) listed a w := by
  refine wpAnyH_all hr (by simp) fun j hj => ?_
  obtain rfl : j = i := by simpa using hj
  have := h (fun a' w' => True ∧ wpAnyH P md lo.toArray Q (fun _ => True) fuel (listed.setIfInBounds j true) a' w') fun a' v hv => ⟨trivial, hv⟩
  unfold wpOp
  rw [show lo.toArray[j]? = some o by simpa using ho]
  dsimp only
  split
  · rename_i hw
    rw [if_pos hw] at this
    exact .inl this
  · rename_i hw
    rw [if_neg hw] at this
    exact this
theorem t_two {lo : List Oper} {w : World} {a : Act} {fuel : Nat} {listed : Array Bool} (i j : Nat) {o p : Oper} (hr : Region.ready md lo.toArray listed = [i, j]) (ho : lo[i]? = some o) (hp : lo[j]? = some p)
    (h : ∀ K : Act → World → Prop, (∀ a' w', wpAnyH P md lo.toArray Q (fun _ => True) fuel (listed.setIfInBounds i true) a' w' → K a' w') → if Region.wanted o (yielded lo.toArray a.tmps) = true then o.wp P a w K Q else K (a.put o.dst undef) w)
    (h2 : ∀ K : Act → World → Prop, (∀ a' w', wpAnyH P md lo.toArray Q (fun _ => True) fuel (listed.setIfInBounds j true) a' w' → K a' w') → if Region.wanted p (yielded lo.toArray a.tmps) = true then p.wp P a w K Q else K (a.put p.dst undef) w) : wpAnyH P md lo.toArray Q (fun _ => True) (fuel + 1) listed a w := by
  have key : ∀ (i : Nat) (o : Oper), lo[i]? = some o → (∀ K : Act → World → Prop, (∀ a' w', wpAnyH P md lo.toArray Q (fun _ => True) fuel (listed.setIfInBounds i true) a' w' → K a' w') → if Region.wanted o (yielded lo.toArray a.tmps) = true then o.wp P a w K Q else K (a.put o.dst undef) w) →
      wpOp P lo.toArray Q i (fun a' w' => True ∧ wpAnyH P md lo.toArray Q (fun _ => True) fuel (listed.setIfInBounds i true) a' w') a w := by
    intro i o ho h
    have := h (fun a' w' => True ∧ wpAnyH P md lo.toArray Q (fun _ => True) fuel (listed.setIfInBounds i true) a' w') fun a' v hv => ⟨trivial, hv⟩
    unfold wpOp
    rw [show lo.toArray[i]? = some o by simpa using ho]
    dsimp only
    split
    · rename_i hw
      rw [if_pos hw] at this
      exact .inl this
    · rename_i hw
      rw [if_neg hw] at this
      exact this
  refine wpAnyH_all hr (by simp) fun k hk => ?_
  have : k = i ∨ k = j := by simpa using hk
  rcases this with rfl | rfl
  · exact key k o ho h
  · exact key k p hp h2
end
end Go.Proofs.Ytmikhkmdcpgkfaa
