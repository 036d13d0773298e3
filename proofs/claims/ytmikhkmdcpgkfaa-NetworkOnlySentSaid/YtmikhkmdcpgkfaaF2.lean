/- The answers of Send and Repeat in one form; the reference's New. -/
import Derived.Test.YtmikhkmdcpgkfaaN
namespace Go.Proofs.Ytmikhkmdcpgkfaa
open Go.RowKit
open Go.Lib (hid)

open Classical in
noncomputable def sendX (ps : List Pk) (ls : List (Int × Int)) (p : Pk) : Int := if chk ps ls = 0 ∧ pkOk p = true then 0 else 60
open Classical in
noncomputable def sendQ (ps : List Pk) (ls : List (Int × Int)) (p : Pk) : List Pk := if chk ps ls = 0 ∧ pkOk p = true then ps ++ [p] else []
open Classical in
noncomputable def sendL (ps : List Pk) (ls : List (Int × Int)) (p : Pk) : List (Int × Int) := if chk ps ls = 0 ∧ pkOk p = true then ls else []
theorem SendTo.one {ok : Nat → Prop} {ps : List Pk} {ls : List (Int × Int)} {p : Pk} {w w' : World} {e : Ending} (h : SendTo ok ps ls p w w' e) :
    ∃ v, e = .returned (.tuple #[v, .int .i64 (sendX ps ls p)]) ∧ NetIs (fun g => ok g ∨ w.heap.size ≤ g) w' v (sendQ ps ls p) (sendL ps ls p) ∧ Below w.heap.size w w' := by
  obtain ⟨x, ⟨v, rfl, hx⟩, hB⟩ := h
  by_cases hc : chk ps ls = 0 ∧ pkOk p = true
  · rw [if_pos hc] at hx
    obtain ⟨rfl, hn⟩ := hx
    exact ⟨v, by rw [sendX, if_pos hc], by rw [sendQ, sendL, if_pos hc, if_pos hc]; exact hn, hB⟩
  · rw [if_neg hc] at hx
    obtain ⟨rfl, hn⟩ := hx
    exact ⟨v, by rw [sendX, if_neg hc], by rw [sendQ, sendL, if_neg hc, if_neg hc]; exact hn, hB⟩
theorem sendQ_len (ps : List Pk) (ls : List (Int × Int)) (p : Pk) : (sendQ ps ls p).length ≤ ps.length + 1 := by
  unfold sendQ
  split <;> simp
theorem sendL_len (ps : List Pk) (ls : List (Int × Int)) (p : Pk) : (sendL ps ls p).length ≤ ls.length := by
  unfold sendL
  split <;> simp
theorem sendQ_mem {ps : List Pk} {ls : List (Int × Int)} {p q : Pk} (h : q ∈ sendQ ps ls p) : q ∈ ps ∨ q = p := by
  unfold sendQ at h
  split at h
  · simpa using h
  · simp at h
noncomputable def repX (ps : List Pk) (ls : List (Int × Int)) (i : Int) : Int := if ask ps ls i = 0 then (if pkOk (atP ps i) = true then 0 else 60) else ask ps ls i
noncomputable def repQ (ps : List Pk) (ls : List (Int × Int)) (i : Int) : List Pk := if ask ps ls i = 0 then (if pkOk (atP ps i) = true then ps ++ [atP ps i] else []) else []
noncomputable def repL (ps : List Pk) (ls : List (Int × Int)) (i : Int) : List (Int × Int) := if ask ps ls i = 0 then (if pkOk (atP ps i) = true then ls else []) else []
theorem RepTo.one {ok : Nat → Prop} {ps : List Pk} {ls : List (Int × Int)} {i : Int} {w w' : World} {e : Ending} (h : RepTo ok ps ls i w w' e) :
    ∃ v, e = .returned (.tuple #[v, .int .i64 (repX ps ls i)]) ∧ NetIs (fun g => ok g ∨ w.heap.size ≤ g) w' v (repQ ps ls i) (repL ps ls i) ∧ Below w.heap.size w w' := by
  obtain ⟨x, ⟨v, rfl, hx⟩, hB⟩ := h
  unfold repX repQ repL
  by_cases hc : ask ps ls i = 0
  · rw [if_pos hc] at hx
    rw [if_pos hc, if_pos hc, if_pos hc]
    by_cases hp : pkOk (atP ps i) = true
    · rw [if_pos hp] at hx
      rw [if_pos hp, if_pos hp, if_pos hp]
      obtain ⟨rfl, hn⟩ := hx
      exact ⟨v, rfl, hn, hB⟩
    · rw [if_neg hp] at hx
      rw [if_neg hp, if_neg hp, if_neg hp]
      obtain ⟨rfl, hn⟩ := hx
      exact ⟨v, rfl, hn, hB⟩
  · rw [if_neg hc] at hx
    rw [if_neg hc, if_neg hc, if_neg hc]
    obtain ⟨rfl, hn⟩ := hx
    exact ⟨v, rfl, hn, hB⟩
theorem repQ_len (ps : List Pk) (ls : List (Int × Int)) (i : Int) : (repQ ps ls i).length ≤ ps.length + 1 := by
  unfold repQ
  split
  · split <;> simp
  · simp
theorem repL_len (ps : List Pk) (ls : List (Int × Int)) (i : Int) : (repL ps ls i).length ≤ ls.length := by
  unfold repL
  split
  · split <;> simp
  · simp
theorem atP_mem {ps : List Pk} {i : Int} (h : i.toNat < ps.length) : atP ps i ∈ ps := by
  rw [atP, List.getElem?_eq_getElem h]
  exact List.getElem_mem h
theorem repQ_mem {ps : List Pk} {ls : List (Int × Int)} {i : Int} {q : Pk} (h : q ∈ repQ ps ls i) : q ∈ ps := by
  unfold repQ at h
  split at h
  · rename_i hc
    split at h
    · rcases List.mem_append.1 h with h | h
      · exact h
      · rw [List.mem_singleton.1 h]
        exact atP_mem (ask_in hc).2.1
    · simp at h
  · simp at h
theorem leftQ_len (ps : List Pk) (ls : List (Int × Int)) (i : Int) : (leftQ ps ls i).length ≤ ps.length := by
  unfold leftQ
  split
  · simp; omega
  · simp
theorem leftL_len (ps : List Pk) (ls : List (Int × Int)) (i : Int) : (leftL ps ls i).length ≤ ls.length := by
  unfold leftL
  split <;> simp
theorem leftQ_mem {ps : List Pk} {ls : List (Int × Int)} {i : Int} {q : Pk} (h : q ∈ leftQ ps ls i) : q ∈ ps := by
  unfold leftQ at h
  split at h
  · rcases List.mem_append.1 h with h | h
    · exact List.mem_of_mem_take h
    · exact List.mem_of_mem_drop h
  · simp at h
theorem delP_is (ps : List Pk) (ls : List (Int × Int)) (i : Int) : delP ps ls i ∈ ps ∨ delP ps ls i = Pk.zero := by
  unfold delP
  split
  · rename_i hc
    split
    · exact .inr rfl
    · exact .inl (atP_mem (ask_in hc).2.1)
  · exact .inr rfl
theorem rnew_any (w : World) : Calls Try.prog 17 #[] w fun e w' => e = .returned (.agg #[.slice none 0 0, .slice none 0 0]) ∧ Below w.heap.size w w' := by
  go_enter Try.func17, Try.ntmps17
  go_wp2
  exact bodyPost_ret (v := .agg #[.slice none 0 0, .slice none 0 0]) (by simp [results, Try.results17, go_sem]) rfl ⟨rfl, (by repeat (first | exact Below.refl _ _ | assumption | refine b_then ?_ (by assumption) | refine b_alloc ?_ _ | refine b_drewN ?_ _ | refine b_drew ?_ | refine b_set ?_ (by omega) _ | refine b_set ?_ (by simp) _))⟩
theorem rCheck_net {ok : Nat → Prop} {w : World} {v : Value} {ps : List Pk} {ls : List (Int × Int)} (h : NetIs ok w v ps ls) (hp : ps.length ≤ 1000) (hl : ls.length ≤ 1000) :
    Calls Try.prog 14 #[v] w fun e w' => e = .returned (.int .i64 (chk ps ls)) ∧ Below w.heap.size w w' := by
  obtain ⟨qa, aa, qc, ac, rfl, hq, ha, _⟩ := h
  exact rCheck_any ps ls qa aa qc ac w hp hl hq ha
end Go.Proofs.Ytmikhkmdcpgkfaa
