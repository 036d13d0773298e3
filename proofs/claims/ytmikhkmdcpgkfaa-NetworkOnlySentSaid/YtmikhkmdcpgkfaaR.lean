/- A region whose last operations wait for all others: the others first, in any order; then the last ones. -/
import Derived.Test.YtmikhkmdcpgkfaaU
import Derived.OrdersHeld
namespace Go.Proofs.Ytmikhkmdcpgkfaa
open Go.RowKit
open Go.Lib (hid)

section
variable {P : Program} {Q : Exit → Act → World → Prop} {md : Region.Mode}
/-- What is waited for, and what that waits for. -/
def reach (md : Region.Mode) (l : List Oper) : Nat → List Nat → List Nat
  | 0, S => S
  | k + 1, S => reach md l k (S ++ S.flatMap fun i => match l[i]? with | none => [] | some o => (o.after.toList.filter (Region.binds md)).map (·.on)).eraseDups
/-- Whatever is listed waits for nothing that is not. -/
def Shut (md : Region.Mode) (l : List Oper) (L : Array Bool) : Prop := ∀ i o, l[i]? = some o → L.getD i false = true → ∀ e ∈ o.after, Region.binds md e = true → L.getD e.on false = true
theorem reach_listed {l : List Oper} {L : Array Bool} (hS : Shut md l L) : ∀ (k : Nat) (S : List Nat), (∀ j ∈ S, L.getD j false = true) → ∀ j ∈ reach md l k S, L.getD j false = true
  | 0, _, h, j, hj => h j hj
  | k + 1, S, h, j, hj => by
    refine reach_listed hS k _ (fun j hj => ?_) j hj
    rw [List.mem_eraseDups, List.mem_append] at hj
    rcases hj with hj | hj
    · exact h j hj
    · obtain ⟨i, hi, hj⟩ := List.mem_flatMap.1 hj
      cases ho : l[i]? with
      | none => rw [ho] at hj; simp at hj
      | some o =>
        rw [ho] at hj
        obtain ⟨e, he, rfl⟩ := List.mem_map.1 hj
        obtain ⟨he, hb⟩ := List.mem_filter.1 he
        exact hS i o ho (h i hi) e (by simpa using he) hb
/-- The first n operations wait for earlier ones alone, and every later one waits for each of them. -/
def splitB (md : Region.Mode) (n : Nat) (l : List Oper) : Bool :=
  decide (n ≤ l.length) && ((List.range n).all fun i => match l[i]? with
    | none => false
    | some o => (o.after.toList.all fun e => decide (e.on < i)) && (match o.guard with | none => true | some (g, _) => decide (g < n))) &&
  ((List.range l.length).all fun i => decide (i < n) || match l[i]? with
    | none => false
    | some o => (List.range n).all fun j => (reach md l 4 ((o.after.toList.filter (Region.binds md)).map (·.on))).contains j)

/-- What is asked behind the first n. -/
def Tail (P : Program) (md : Region.Mode) (n : Nat) (l : List Oper) (Q : Exit → Act → World → Prop) : Exit → Act → World → Prop
  | .normal, a, w => wpAny P md l.toArray Q (l.length - n) (Array.replicate n true ++ Array.replicate (l.length - n) false) a w
  | e, a, w => Q e a w

theorem wpAny_more {ops : Array Oper} : ∀ (fuel : Nat) (listed : Array Bool) (a : Act) (w : World), wpAny P md ops Q fuel listed a w → wpAny P md ops Q (fuel + 1) listed a w
  | 0, _, _, _, h => ⟨fun _ => h.2, fun i hi => by rw [h.1] at hi; cases hi⟩
  | fuel + 1, _, _, _, h => ⟨h.1, fun i hi => wpOp_mono (fun a w h => wpAny_more fuel _ a w h) (h.2 i hi)⟩
theorem wpAny_most {ops : Array Oper} (k : Nat) : ∀ (fuel : Nat) (listed : Array Bool) (a : Act) (w : World), wpAny P md ops Q k listed a w → wpAny P md ops Q (fuel + k) listed a w
  | 0, _, _, _, h => by rw [Nat.zero_add]; exact h
  | fuel + 1, _, _, _, h => by rw [Nat.add_right_comm]; exact wpAny_more _ _ _ _ (wpAny_most k fuel _ _ _ h)

theorem upon_turn {o : Oper} {a : Act} {w : World} {K : Act → World → Prop} {Q' : Exit → Act → World → Prop} (hp : ∀ c a w, Q' (.panic c) a w → Q (.panic c) a w) (hl : LetsOut Q' → LetsOut Q) (h : o.wp P a w K Q') : o.wp P a w K Q := by
  unfold Oper.wp at *
  generalize (execOp a.eval o).run P w = r at *
  cases r with
  | ok n w' =>
    cases n <;> simp only [Oper.upon] at h ⊢ <;>
      first
        | exact h
        | exact Calls.mono h (fun e w'' he => by
            cases e with
            | returned v => exact he
            | panicked c => exact hp _ _ _ he
            | outgrown => exact hl he)
  | halt x w' =>
    cases x <;> simp only [Oper.upon] at h ⊢
    exact hp _ _ _ h

theorem take_get {l : List Oper} {n i : Nat} (hi : i < n) : (l.take n).toArray[i]? = l.toArray[i]? := by
  simp [hi]
theorem getD_left {L R : Array Bool} {i : Nat} {d : Bool} (hi : i < L.size) : (L ++ R).getD i d = L.getD i d := by
  simp [Array.getD, hi]
  intro h
  omega

theorem ready_left {l : List Oper} {n : Nat} (hB : splitB md n l = true) {L R : Array Bool} (hL : L.size = n) {i : Nat} (hi : i < n) : i ∈ Region.ready md l.toArray (L ++ R) ↔ i ∈ Region.ready md (l.take n).toArray L := by
  simp only [splitB, Bool.and_eq_true, List.all_eq_true, List.mem_range, decide_eq_true_eq] at hB
  obtain ⟨⟨hn, h1⟩, -⟩ := hB
  rw [mem_ready, mem_ready, getD_left (by omega), take_get hi]
  refine and_congr Iff.rfl ⟨?_, ?_⟩
  · rintro ⟨o, ho, ha⟩
    refine ⟨o, ho, fun e he hb => ?_⟩
    have := h1 i hi
    have ho' : l[i]? = some o := by simpa using ho
    rw [ho'] at this
    simp only [Bool.and_eq_true, List.all_eq_true, decide_eq_true_eq] at this
    have hlt := this.1 e (by simpa using he)
    have := ha e he hb
    rwa [getD_left (by omega)] at this
  · rintro ⟨o, ho, ha⟩
    refine ⟨o, ho, fun e he hb => ?_⟩
    have := h1 i hi
    have ho' : l[i]? = some o := by simpa using ho
    rw [ho'] at this
    simp only [Bool.and_eq_true, List.all_eq_true, decide_eq_true_eq] at this
    have hlt := this.1 e (by simpa using he)
    have := ha e he hb
    rwa [getD_left (by omega)]

theorem ready_right {l : List Oper} {n : Nat} (hB : splitB md n l = true) {L R : Array Bool} (hS : Shut md l (L ++ R)) (hL : L.size = n) {i j : Nat} (hi : n ≤ i) (hj : j < n) (hun : L.getD j false = false) : i ∉ Region.ready md l.toArray (L ++ R) := by
  simp only [splitB, Bool.and_eq_true, List.all_eq_true, List.mem_range, decide_eq_true_eq] at hB
  obtain ⟨-, h2⟩ := hB
  rw [mem_ready]
  rintro ⟨_, o, ho, ha⟩
  have ho' : l[i]? = some o := by simpa using ho
  have hlt : i < l.length := (List.getElem?_eq_some_iff.1 ho').1
  have := h2 i hlt
  rw [ho'] at this
  simp only [Bool.or_eq_true, decide_eq_true_eq, List.all_eq_true, List.mem_range, List.contains_iff_mem] at this
  rcases this with h | h
  · omega
  · have := reach_listed hS 4 _ (fun k hk => by
      obtain ⟨e, he, rfl⟩ := List.mem_map.1 hk
      obtain ⟨he, hb⟩ := List.mem_filter.1 he
      exact ha e (by simpa using he) hb) j (h j hj)
    rw [getD_left (by omega), hun] at this
    cases this

theorem ready_some {l : List Oper} {n : Nat} (hB : splitB md n l = true) {L : Array Bool} (hL : L.size = n) : ∀ j, j < n → L.getD j true = false → ∃ i, i ∈ Region.ready md (l.take n).toArray L := by
  intro j
  induction j using Nat.strongRecOn with
  | _ j ih =>
    intro hj hun
    by_cases hall : ∀ i, i < j → L.getD i false = true
    · refine ⟨j, ?_⟩
      have hB' := hB
      simp only [splitB, Bool.and_eq_true, List.all_eq_true, List.mem_range, decide_eq_true_eq] at hB'
      obtain ⟨⟨hn, h1⟩, -⟩ := hB'
      have hjl : j < l.length := by omega
      rw [mem_ready, take_get hj]
      refine ⟨hun, l[j], by simp [hjl], fun e he hb => ?_⟩
      have := h1 j hj
      rw [List.getElem?_eq_getElem hjl] at this
      simp only [Bool.and_eq_true, List.all_eq_true, decide_eq_true_eq] at this
      exact hall _ (this.1 e (by simpa using he))
    · obtain ⟨i, hi⟩ := Classical.not_forall.1 hall
      obtain ⟨hi, hni⟩ := Classical.not_imp.1 hi
      exact ih i hi (by omega) (by
        have : i < L.size := by omega
        simp [Array.getD, this] at hni ⊢
        exact hni)

theorem op_turn {l : List Oper} {n : Nat} (hB : splitB md n l = true) {i : Nat} (hi : i < n) {K : Act → World → Prop} {a : Act} {w : World} (h : wpOp P (l.take n).toArray (Tail P md n l Q) i K a w) : wpOp P l.toArray Q i K a w := by
  simp only [splitB, Bool.and_eq_true, List.all_eq_true, List.mem_range, decide_eq_true_eq] at hB
  obtain ⟨⟨hn, h1⟩, -⟩ := hB
  have hil : i < l.length := by omega
  have ho : l[i]? = some l[i] := List.getElem?_eq_getElem hil
  unfold wpOp at *
  rw [take_get hi] at h
  have ho' : l.toArray[i]? = some l[i] := by simp
  rw [ho'] at h ⊢
  have hg := h1 i hi
  rw [ho] at hg
  simp only [Bool.and_eq_true] at hg
  have hw : Region.wanted l[i] (yielded (l.take n).toArray a.tmps) = Region.wanted l[i] (yielded l.toArray a.tmps) := by
    unfold Region.wanted
    cases hgd : l[i].guard with
    | none => rfl
    | some p =>
      obtain ⟨g, b⟩ := p
      rw [hgd] at hg
      have hlt : g < n := by simpa using hg.2
      simp only [yielded, take_get hlt]
  dsimp only at h ⊢
  rw [hw] at h
  have hlet : LetsOut (Tail P md n l Q) → LetsOut Q := fun ⟨a, w, h⟩ => ⟨a, w, h⟩
  split
  · rename_i hwt
    rw [if_pos hwt] at h
    exact h.imp (upon_turn (fun _ _ _ h => h) hlet) (fun h => ⟨h.1, hlet h.2⟩)
  · rename_i hwt
    rw [if_neg hwt] at h
    exact h

theorem split_go {l : List Oper} {n : Nat} (hB : splitB md n l = true) : ∀ (fuel : Nat) (L : Array Bool) (a : Act) (w : World), L.size = n → Shut md l (L ++ Array.replicate (l.length - n) false) → wpAny P md (l.take n).toArray (Tail P md n l Q) fuel L a w →
    wpAny P md l.toArray Q (fuel + (l.length - n)) (L ++ Array.replicate (l.length - n) false) a w := by
  have full : ∀ (L : Array Bool), L.size = n → Region.ready md (l.take n).toArray L = [] → L = Array.replicate n true := by
    intro L hL hr
    refine Array.ext (by simpa using hL) fun i h1 h2 => ?_
    refine Decidable.byContradiction fun hne => ?_
    have hf : L.getD i true = false := by
      simp [Array.getD, h1]
      simpa using hne
    obtain ⟨k, hk⟩ := ready_some hB hL i (by omega) hf
    rw [hr] at hk
    cases hk
  intro fuel
  induction fuel with
  | zero =>
    intro L a w hL hS h
    have := full L hL h.1
    subst this
    rw [Nat.zero_add]
    exact h.2
  | succ fuel ih =>
    intro L a w hL hS h
    cases hr : Region.ready md (l.take n).toArray L with
    | nil =>
      have := full L hL hr
      subst this
      exact wpAny_most _ _ _ _ _ (h.1 hr)
    | cons x xs =>
      have hx : x ∈ Region.ready md (l.take n).toArray L := by rw [hr]; simp
      have hxn : x < n := by
        obtain ⟨_, o, ho, _⟩ := mem_ready.1 hx
        have := (List.getElem?_eq_some_iff.1 (show (l.take n)[x]? = some o by simpa using ho)).1
        simp at this
        omega
      have hxun : L.getD x false = false := by
        have := (mem_ready.1 hx).1
        have hs : x < L.size := by omega
        simp [Array.getD, hs] at this ⊢
        exact this
      rw [Nat.add_right_comm]
      refine ⟨fun hn => ?_, fun i hi => ?_⟩
      · have := (ready_left (R := Array.replicate (l.length - n) false) hB hL hxn).2 hx
        rw [hn] at this
        cases this
      · rcases Nat.lt_or_ge i n with hin | hin
        · have hi' := (ready_left hB hL hin).1 hi
          refine wpOp_mono (fun a' w' h' => ?_) (op_turn hB hin (h.2 i hi'))
          have hset : (L ++ Array.replicate (l.length - n) false).setIfInBounds i true = L.setIfInBounds i true ++ Array.replicate (l.length - n) false := Array.setIfInBounds_append_left (by omega)
          have hS' : Shut md l (L.setIfInBounds i true ++ Array.replicate (l.length - n) false) := by
            rw [← hset]
            have mono : ∀ j, (L ++ Array.replicate (l.length - n) false).getD j false = true → ((L ++ Array.replicate (l.length - n) false).setIfInBounds i true).getD j false = true := by
              intro j hj
              by_cases hji : i = j
              · subst hji
                have hlt : i < (L ++ Array.replicate (l.length - n) false).size := by simp; omega
                rw [Array.getD, dif_pos (by simpa using hlt)]
                simp
              · rw [getD_set_ne false hji]; exact hj
            intro k o ho hk e he hb
            refine mono _ ?_
            by_cases hki : i = k
            · subst hki
              obtain ⟨_, o', ho', ha⟩ := mem_ready.1 hi
              have : o' = o := by
                have h1 : l[i]? = some o' := by simpa using ho'
                rw [ho] at h1
                exact (Option.some.inj h1).symm
              subst this
              exact ha e he hb
            · rw [getD_set_ne false hki] at hk
              exact hS k o ho hk e he hb
          have := ih (L.setIfInBounds i true) a' w' (by simpa using hL) hS' h'
          rwa [← hset] at this
        · exact absurd hi (ready_right hB hS hL hin hxn hxun)

/-- The region: its first n operations in whatever order, S behind each of them; then the others. -/
theorem wp_region_split {id : Nat} {a : Act} {w : World} {l : List Oper} (n : Nat) (S : World → Prop) (hm : P.follows .mixedOrders = true) (hB : splitB .any n l = true) (hn : (l.take n).length = n)
    (h : wpAnyH P .any (l.take n).toArray (Tail P .any n l Q) S n (Array.replicate n false) a w.drew) : (Code.region id l.toArray true).wp P Q a w := by
  refine wp_region_any hm ?_
  have hle : n ≤ l.length := by simp at hn; omega
  have := split_go (Q := Q) hB n (Array.replicate n false) a w.drew (by simp) (by
    intro i o _ hi
    rw [Array.replicate_append_replicate] at hi
    simp [Array.getD] at hi) (wpAny_of_held _ _ _ _ h)
  rw [Nat.add_sub_of_le hle, Array.replicate_append_replicate, Nat.add_sub_of_le hle] at this
  simpa using this
end
end Go.Proofs.Ytmikhkmdcpgkfaa
