/- What NetworkCuts and NetworkMoveSpec need of the links that are cut: they are in order, and each stands once. -/
import Derived.Test.YtmikhkmdcpgkfaaZ
namespace Go.Proofs.Ytmikhkmdcpgkfaa
open Go.RowKit
open Go.Lib (hid)

def lkAh (x y : Int × Int) : Bool := ahead (lkv x) (lkv y)
theorem apOk_of {ls : List (Int × Int)} (h1 : ∀ x ∈ ls, lkOk x.1 x.2 = true) (h2 : ls.Pairwise (fun x y => lkAh x y = true)) : ApOk ls := by
  intro i hi
  refine ⟨h1 _ (List.getElem_mem hi), fun h0 => ?_⟩
  exact List.pairwise_iff_getElem.1 h2 (i - 1) i (by omega) hi (by omega)
def pairB : List (Int × Int) → Bool
  | [] => true
  | x :: l => l.all (fun y => lkAh x y) && pairB l
theorem pairB_is : ∀ {l : List (Int × Int)}, pairB l = true → l.Pairwise (fun x y => lkAh x y = true)
  | [], _ => List.Pairwise.nil
  | x :: l, h => by
    rw [pairB, Bool.and_eq_true] at h
    exact List.Pairwise.cons (fun y hy => List.all_eq_true.1 h.1 y hy) (pairB_is h.2)
theorem links_pair : (linksTo 16).Pairwise (fun x y => lkAh x y = true) := pairB_is (by decide +kernel)
theorem links_ok : ∀ x ∈ linksTo 16, lkOk x.1 x.2 = true := List.all_eq_true.1 (by decide +kernel)
theorem links_in {a b : Int} (h : lkOk a b = true) : (a, b) ∈ linksTo 16 := by
  have hall : ∀ i : Fin 16, ∀ j : Fin 16, i.1 < j.1 → ((i.1 : Int), (j.1 : Int)) ∈ linksTo 16 := by decide +kernel
  simp only [lkOk, decide_eq_true_eq] at h
  have := hall ⟨a.toNat, by omega⟩ ⟨b.toNat, by omega⟩ (by simp; omega)
  simpa [show (a.toNat : Int) = a by omega, show (b.toNat : Int) = b by omega] using this
theorem lkAh_irr (x : Int × Int) : lkAh x x = false := by simp [lkAh, ahead, lkv]
theorem links_nodup : (linksTo 16).Nodup := links_pair.imp fun {x y} h e => by rw [e, lkAh_irr] at h; cases h
theorem cutsOf_ok (ls : List (Int × Int)) (c : Int × Int) (on : Bool) : ApOk (cutsOf ls c on) :=
  apOk_of (fun x hx => links_ok x (List.mem_filter.1 hx).1) (links_pair.filter _)
theorem cutsOf_has {ls : List (Int × Int)} {c x : Int × Int} {on : Bool} (hx : x ∈ linksTo 16) : (cutsOf ls c on).contains x = keepCut ls c on x := by
  rw [Bool.eq_iff_iff, List.contains_iff_mem, cutsOf, List.mem_filter]
  exact ⟨fun h => h.2, fun h => ⟨hx, h⟩⟩
theorem cutsOf_twice (ls : List (Int × Int)) (c : Int × Int) (on on2 : Bool) : cutsOf (cutsOf ls c on) c on2 = cutsOf ls c on2 := by
  refine List.filter_congr fun x hx => ?_
  show (if x = c then on2 else (cutsOf ls c on).contains x) = (if x = c then on2 else ls.contains x)
  split
  · rfl
  · rename_i hne
    rw [cutsOf_has hx, keepCut, if_neg hne]
theorem count_filter {α : Type} [DecidableEq α] {l : List α} {c : α} {p q : α → Bool} (hd : l.Nodup) (hc : c ∈ l) (hp : p c = true) (hq : q c = false) (h : ∀ x ∈ l, x ≠ c → p x = q x) : (l.filter p).length = (l.filter q).length + 1 := by
  induction l with
  | nil => cases hc
  | cons x l ih =>
    rw [List.nodup_cons] at hd
    by_cases hx : x = c
    · subst hx
      rw [List.filter_cons, List.filter_cons, hp, hq]
      have : l.filter p = l.filter q := List.filter_congr fun y hy => h y (List.mem_cons_of_mem _ hy) (fun e => hd.1 (e ▸ hy))
      simp [this]
    · have hcl : c ∈ l := by rcases List.mem_cons.1 hc with e | e; exact absurd e.symm hx; exact e
      have i := ih hd.2 hcl fun y hy hne => h y (List.mem_cons_of_mem _ hy) hne
      rw [List.filter_cons, List.filter_cons, h x List.mem_cons_self hx]
      cases q x <;> simp [i]
theorem cutsOf_len {ls : List (Int × Int)} {a b : Int} (h : lkOk a b = true) : (cutsOf ls (a, b) true).length = (cutsOf ls (a, b) false).length + 1 :=
  count_filter links_nodup (links_in h) (by simp [keepCut]) (by simp [keepCut]) fun x _ hne => by simp [keepCut, hne]
theorem cutsOf_le (ls : List (Int × Int)) (c : Int × Int) (on : Bool) : (cutsOf ls c on).length ≤ 256 :=
  Nat.le_trans (List.length_filter_le _ _) (linksTo_len 16)
theorem cut_no {ps : List Pk} {ls : List (Int × Int)} {a b : Int} (hc : chk ps ls = 0) (h : lkOk (min a b) (max a b) = false) : cutE ps ls a b = 1 := by simp [cutE, hc, h]
theorem cut_yes {ps : List Pk} {ls : List (Int × Int)} {a b : Int} (hc : chk ps ls = 0) (h : lkOk (min a b) (max a b) = true) : cutE ps ls a b = 0 := by simp [cutE, hc, h]
theorem chk_parts {ps : List Pk} {ls : List (Int × Int)} (h : chk ps ls = 0) : ps.all pkOk = true ∧ ApOk ls := by
  unfold chk at h
  split at h
  · assumption
  · simp at h
theorem cuts_plain {ps : List Pk} {ls : List (Int × Int)} {a b : Int} (hc : chk ps ls = 0) (h : lkOk (min a b) (max a b) = true) : ∃ A K : List (Int × Int),
    cutE ps ls a b = 0 ∧ cutQ ps ls a b = ps ∧ cutL ps ls a b true = A ∧ cutE ps ls b a = 0 ∧ cutQ ps ls b a = ps ∧ cutL ps ls b a true = A ∧
    cutE ps A a b = 0 ∧ cutQ ps A a b = ps ∧ cutL ps A a b true = A ∧ cutE ps A b a = 0 ∧ cutQ ps A b a = ps ∧ cutL ps A b a false = K ∧ cutQ ps ls a b = ps ∧ cutL ps ls a b false = K ∧
    A.length = K.length + 1 ∧ A.length ≤ 256 ∧ K.length ≤ 256 ∧
    ∀ j, j < ps.length → ∃ p q, delP ps A j = p ∧ delP ps K j = q ∧ ask ps A j = 0 ∧ ask ps K j = 0 ∧ leftL ps A j = A ∧ leftL ps K j = K ∧ leftQ ps A j = ps.take j ++ ps.drop (j + 1) ∧ leftQ ps K j = ps.take j ++ ps.drop (j + 1) ∧
      (p ∈ ps ∨ p = Pk.zero) ∧ (q ∈ ps ∨ q = Pk.zero) ∧
      (((q.fr = a ∧ q.to = b ∨ q.fr = b ∧ q.to = a) ∧ p = Pk.zero) ∨ (¬ (q.fr = a ∧ q.to = b ∨ q.fr = b ∧ q.to = a) ∧ p = q)) := by
  have hm : min b a = min a b := Int.min_comm b a
  have hM : max b a = max a b := Int.max_comm b a
  have h' : lkOk (min b a) (max b a) = true := by rw [hm, hM]; exact h
  have hA : chk ps (cutsOf ls (min a b, max a b) true) = 0 := chk_ok (chk_parts hc).1 (cutsOf_ok _ _ _)
  have hK : chk ps (cutsOf ls (min a b, max a b) false) = 0 := chk_ok (chk_parts hc).1 (cutsOf_ok _ _ _)
  refine ⟨cutsOf ls (min a b, max a b) true, cutsOf ls (min a b, max a b) false, cut_yes hc h, by rw [cutQ, if_pos (cut_yes hc h)], by rw [cutL, if_pos (cut_yes hc h)], cut_yes hc h', by rw [cutQ, if_pos (cut_yes hc h')], by rw [cutL, if_pos (cut_yes hc h'), hm, hM],
    cut_yes hA h, by rw [cutQ, if_pos (cut_yes hA h)], by rw [cutL, if_pos (cut_yes hA h), cutsOf_twice], cut_yes hA h', by rw [cutQ, if_pos (cut_yes hA h')], by rw [cutL, if_pos (cut_yes hA h'), hm, hM, cutsOf_twice], by rw [cutQ, if_pos (cut_yes hc h)], by rw [cutL, if_pos (cut_yes hc h)],
    cutsOf_len h, cutsOf_le _ _ _, cutsOf_le _ _ _, fun j hj => ?_⟩
  have ka : ∀ {l}, chk ps l = 0 → ask ps l j = 0 := fun hk => by rw [ask, if_pos hk, if_pos ⟨by omega, by omega⟩]
  have hat : atP ps j = ps[j] := by simp [atP, hj]
  have hpk : pkOk ps[j] = true := List.all_eq_true.1 (chk_parts hc).1 _ (List.getElem_mem hj)
  have hl : lkOk (min ps[j].fr ps[j].to) (max ps[j].fr ps[j].to) = true := by
    rw [pkOk, Bool.and_eq_true] at hpk
    exact hpk.1
  have hin := links_in hl
  refine ⟨_, _, rfl, rfl, ka hA, ka hK, by rw [leftL, if_pos (ka hA)], by rw [leftL, if_pos (ka hK)], by rw [leftQ, if_pos (ka hA)]; simp, by rw [leftQ, if_pos (ka hK)]; simp, ?_, ?_, ?_⟩
  · rw [delP, if_pos (ka hA), hat]
    split
    · exact .inr rfl
    · exact .inl (List.getElem_mem hj)
  · rw [delP, if_pos (ka hK), hat]
    split
    · exact .inr rfl
    · exact .inl (List.getElem_mem hj)
  · rw [delP, delP, if_pos (ka hA), if_pos (ka hK), hat, cutIn, cutIn, cutsOf_has hin, cutsOf_has hin, keepCut, keepCut]
    simp only [lkOk, decide_eq_true_eq] at hl h
    by_cases he : (min ps[j].fr ps[j].to, max ps[j].fr ps[j].to) = (min a b, max a b)
    · rw [if_pos he, if_pos he]
      simp only [Prod.mk.injEq] at he
      left
      simp only [Bool.false_eq_true, if_false, if_true, and_true]
      omega
    · rw [if_neg he, if_neg he]
      simp only [Prod.mk.injEq] at he
      right
      refine ⟨?_, rfl⟩
      split
      · simp only [Pk.zero]
        omega
      · omega
theorem btw_cases {x y a b : Int} (_hne : a ≠ b) (h : x = a ∧ y = b ∨ x = b ∧ y = a) : ((x == a) = true ∧ (y == b) = true) ∨ ((x == a) = false ∧ (x == b) = true ∧ (y == a) = true) := by
  simp only [beq_iff_eq, beq_eq_false_iff_ne]
  omega
theorem nbtw_cases {x y a b : Int} (hne : a ≠ b) (h : ¬ (x = a ∧ y = b ∨ x = b ∧ y = a)) : ((x == a) = false ∧ (x == b) = false) ∨ ((x == a) = false ∧ (x == b) = true ∧ (y == a) = false) ∨ ((x == a) = true ∧ (y == b) = false ∧ (x == b) = false) := by
  simp only [beq_iff_eq, beq_eq_false_iff_ne]
  omega
end Go.Proofs.Ytmikhkmdcpgkfaa
