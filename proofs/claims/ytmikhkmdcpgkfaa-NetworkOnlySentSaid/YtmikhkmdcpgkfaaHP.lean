/- What happens to a net, as a relation. -/
import Derived.Test.YtmikhkmdcpgkfaaC5
import Derived.Test.YtmikhkmdcpgkfaaF2
namespace Go.Proofs.Ytmikhkmdcpgkfaa
open Go.RowKit
open Go.Lib (hid)

/-- What a thing of kind k that happens to a net answers; np: the packet that is sent. -/
structure HapOk (k : Int) (ps : List Pk) (ls : List (Int × Int)) (np : Pk) (Q : List Pk) (L : List (Int × Int)) (P : Pk) (E : Int) : Prop where
  bad : ¬ E = 0 → Q = [] ∧ L = []
  good : E = 0 → chk Q L = 0
  sub : ∀ q, q ∈ Q → q ∈ ps ∨ (k = 0 ∧ q = np)
  len : Q.length ≤ ps.length + 1
  len2 : L.length ≤ 256
  none : ¬ k = 4 → ls = [] → L = []
  sent : k = 0 → E = 0 → Q = ps ++ [np]
  got : k = 1 → E = 0 → P ∈ ps ∨ (P = Pk.zero ∧ ¬ ls = [])
theorem all_snoc {ps : List Pk} {p : Pk} (h : ps.all pkOk = true) (hp : pkOk p = true) : (ps ++ [p]).all pkOk = true := by
  rw [List.all_append, h, List.all_cons, hp]; rfl
theorem atP_in {ps : List Pk} {ls : List (Int × Int)} {i : Int} (h : ask ps ls i = 0) : atP ps i ∈ ps := by
  obtain ⟨h0, h1, -⟩ := ask_in h
  unfold atP
  rw [List.getElem?_eq_getElem h1, Option.getD_some]
  exact List.getElem_mem h1
theorem leftQ_chk {ps : List Pk} {ls : List (Int × Int)} {i : Int} (h : ask ps ls i = 0) : chk (leftQ ps ls i) (leftL ps ls i) = 0 := by
  obtain ⟨-, -, hc⟩ := ask_in h
  obtain ⟨hp, hl⟩ := chk_parts hc
  rw [leftQ, if_pos h, leftL, if_pos h]
  refine chk_ok (List.all_eq_true.2 fun q hq => List.all_eq_true.1 hp q ?_) hl
  rcases List.mem_append.1 hq with hq | hq
  · exact List.mem_of_mem_take hq
  · exact List.mem_of_mem_drop hq
theorem leftQ_sub {ps : List Pk} {ls : List (Int × Int)} {i : Int} {q : Pk} (h : q ∈ leftQ ps ls i) : q ∈ ps := by
  unfold leftQ at h
  split at h
  · rcases List.mem_append.1 h with h | h
    · exact List.mem_of_mem_take h
    · exact List.mem_of_mem_drop h
  · cases h
theorem leftQ_short (ps : List Pk) (ls : List (Int × Int)) (i : Int) : (leftQ ps ls i).length ≤ ps.length + 1 := by
  unfold leftQ
  split
  · simp; omega
  · simp
theorem leftL_short {ps : List Pk} {ls : List (Int × Int)} (i : Int) (h : ls.length ≤ 256) : (leftL ps ls i).length ≤ 256 := by
  unfold leftL
  split
  · exact h
  · simp
theorem leftL_none {ps : List Pk} {ls : List (Int × Int)} {i : Int} (h : ls = []) : leftL ps ls i = [] := by
  unfold leftL
  split
  · exact h
  · rfl
theorem hap_send {ps : List Pk} {ls : List (Int × Int)} (np : Pk) (h : ls.length ≤ 256) : HapOk 0 ps ls np (sendQ ps ls np) (sendL ps ls np) Pk.zero (sendX ps ls np) := by
  by_cases hc : chk ps ls = 0 ∧ pkOk np = true
  · rw [sendQ, if_pos hc, sendL, if_pos hc, sendX, if_pos hc]
    obtain ⟨hp, hl⟩ := chk_parts hc.1
    exact ⟨fun h => absurd rfl h, fun _ => chk_ok (all_snoc hp hc.2) hl, fun q hq => by simpa using hq, by simp, h, fun _ h => h, fun _ _ => rfl, fun h => (by cases h)⟩
  · rw [sendQ, if_neg hc, sendL, if_neg hc, sendX, if_neg hc]
    exact ⟨fun _ => ⟨rfl, rfl⟩, fun h => (by cases h), fun q hq => (by cases hq), by simp, by simp, fun _ _ => rfl, fun _ h => (by cases h), fun h => (by cases h)⟩
theorem hap_deliver {ps : List Pk} {ls : List (Int × Int)} (np : Pk) (i : Int) (h : ls.length ≤ 256) : HapOk 1 ps ls np (leftQ ps ls i) (leftL ps ls i) (delP ps ls i) (ask ps ls i) := by
  refine ⟨fun hn => ⟨by rw [leftQ, if_neg hn], by rw [leftL, if_neg hn]⟩, leftQ_chk, fun q hq => .inl (leftQ_sub hq), leftQ_short _ _ _, leftL_short i h, fun _ h => leftL_none h, fun h => (by cases h), fun _ hz => ?_⟩
  rw [delP, if_pos hz]
  split
  · rename_i hcut
    refine .inr ⟨rfl, fun e => ?_⟩
    rw [e] at hcut
    simp [cutIn] at hcut
  · exact .inl (atP_in hz)
theorem hap_lose {ps : List Pk} {ls : List (Int × Int)} (np : Pk) (i : Int) (h : ls.length ≤ 256) : HapOk 2 ps ls np (leftQ ps ls i) (leftL ps ls i) Pk.zero (ask ps ls i) :=
  ⟨fun hn => ⟨by rw [leftQ, if_neg hn], by rw [leftL, if_neg hn]⟩, leftQ_chk, fun q hq => .inl (leftQ_sub hq), leftQ_short _ _ _, leftL_short i h, fun _ h => leftL_none h, fun h => (by cases h), fun h => (by cases h)⟩
theorem hap_repeat {ps : List Pk} {ls : List (Int × Int)} (np : Pk) (i : Int) (h : ls.length ≤ 256) : HapOk 3 ps ls np (repQ ps ls i) (repL ps ls i) Pk.zero (repX ps ls i) := by
  by_cases hz : ask ps ls i = 0
  · by_cases hp : pkOk (atP ps i) = true
    · rw [repQ, if_pos hz, if_pos hp, repL, if_pos hz, if_pos hp, repX, if_pos hz, if_pos hp]
      obtain ⟨-, -, hc⟩ := ask_in hz
      obtain ⟨ha, hl⟩ := chk_parts hc
      refine ⟨fun h => absurd rfl h, fun _ => chk_ok (all_snoc ha hp) hl, fun q hq => ?_, by simp, h, fun _ h => h, fun h => (by cases h), fun h => (by cases h)⟩
      rcases List.mem_append.1 hq with hq | hq
      · exact .inl hq
      · rw [List.mem_singleton.1 hq]; exact .inl (atP_in hz)
    · rw [repQ, if_pos hz, if_neg hp, repL, if_pos hz, if_neg hp, repX, if_pos hz, if_neg hp]
      exact ⟨fun _ => ⟨rfl, rfl⟩, fun h => (by cases h), fun q hq => (by cases hq), by simp, by simp, fun _ _ => rfl, fun h => (by cases h), fun h => (by cases h)⟩
  · rw [repQ, if_neg hz, repL, if_neg hz, repX, if_neg hz]
    exact ⟨fun _ => ⟨rfl, rfl⟩, fun h => absurd h hz, fun q hq => (by cases hq), by simp, by simp, fun _ _ => rfl, fun h => (by cases h), fun h => (by cases h)⟩
theorem hap_cut {ps : List Pk} {ls : List (Int × Int)} (np : Pk) (a b : Int) : HapOk 4 ps ls np (cutQ ps ls a b) (cutL ps ls a b true) Pk.zero (cutE ps ls a b) ∧ HapOk 5 ps ls np (cutQ ps ls a b) (cutL ps ls a b false) Pk.zero (cutE ps ls a b) := by
  by_cases hz : cutE ps ls a b = 0
  · have hc : chk ps ls = 0 := by
      refine Decidable.byContradiction fun hn => ?_
      rw [cutE, if_neg hn] at hz
      cases hz
    obtain ⟨ha, hl⟩ := chk_parts hc
    rw [cutQ, if_pos hz, cutL, if_pos hz, cutL, if_pos hz, hz]
    refine ⟨⟨fun h => absurd rfl h, fun _ => chk_ok ha (cutsOf_ok _ _ _), fun q hq => .inl hq, by omega, cutsOf_le _ _ _, fun h => absurd rfl h, fun h => (by cases h), fun h => (by cases h)⟩, ⟨fun h => absurd rfl h, fun _ => chk_ok ha (cutsOf_ok _ _ _), fun q hq => .inl hq, by omega, cutsOf_le _ _ _, fun _ h => ?_, fun h => (by cases h), fun h => (by cases h)⟩⟩
    subst h
    unfold cutsOf
    rw [List.filter_eq_nil_iff]
    intro x _
    unfold keepCut
    split <;> simp
  · rw [cutQ, if_neg hz, cutL, if_neg hz, cutL, if_neg hz]
    exact ⟨⟨fun _ => ⟨rfl, rfl⟩, fun h => absurd h hz, fun q hq => (by cases hq), by simp, by simp, fun _ _ => rfl, fun h => (by cases h), fun h => (by cases h)⟩, ⟨fun _ => ⟨rfl, rfl⟩, fun h => absurd h hz, fun q hq => (by cases hq), by simp, by simp, fun _ _ => rfl, fun h => (by cases h), fun h => (by cases h)⟩⟩
end Go.Proofs.Ytmikhkmdcpgkfaa
