/- A list of bytes, opened. -/
import Derived.Test.YtdnjpfjiaomlgaaW
namespace Go.Proofs.Ytdnjpfjiaomlgaa
open Go.RowKit Go.ChangeShapes Go.WideShapes Go.ChangeAt Go.Joins Go.Deep
open Go.Lib (hid)

/-- Bytes as cells. -/
def bys (xs : List Int) : List Value := xs.flatMap fun p => [Value.int .u8 p]
theorem bys_len (xs : List Int) : (bys xs).length = xs.length := by
  unfold bys
  rw [flat_len _ 1 (fun _ => rfl), Nat.mul_one]
theorem by_cell {V : World} {b off : Nat} {l : List Int} (h : ∀ v : After V, Rd v.w (some ⟨b, off, none⟩) (bys l)) {j : Nat} {x : Int} (hx : l[j]? = some x) : ∀ v : After V, v.w.cell? ⟨b, off + j, none⟩ = some (.int .u8 x) :=
  after_row h (by
    unfold bys
    have hj := (List.getElem?_eq_some_iff.1 hx).1
    have := flat_at (fun p => [Value.int .u8 p]) 1 (fun _ => rfl) l j hj 0 (by omega)
    rw [Nat.mul_one, Nat.add_zero] at this
    rw [this, (List.getElem?_eq_some_iff.1 hx).2]
    rfl)
section
variable {H : Type} {enc : TypeId × Value → H} {w : World} {base : Nat} {spare : Nat → Bool} {held : Bool} {fuel : Nat} {v : Value} {y : DataW H × List MemPlace}
theorem open_u8s (h : DataW.trod enc Try.prog w base spare held fuel 44 [v] = some y) : ∃ a n c, v = .slice a n c ∧ n ≤ c ∧ c ≤ maxLen ∧ (a = none → n = 0 ∧ c = 0) ∧ (∃ m : List Int, m.length = n ∧ (∀ i, i < n → 0 ≤ m.getD i 0 ∧ m.getD i 0 ≤ 255) ∧ Rd w a (bys m)) := by
  rcases open_slice Try.underlying44 h with ⟨hc, _⟩ | ⟨a, len, cap, m, n, D, Pl, hcs, hb, hl, hm, hmm, hx, hi⟩
  · simp only [List.cons.injEq, and_true] at hc
    exact ⟨none, 0, 0, hc, Nat.le_refl _, Nat.zero_le _, fun _ => ⟨rfl, rfl⟩, ⟨[], rfl, fun i hi => absurd hi (by omega), .inl rfl⟩⟩
  · simp only [List.cons.injEq, and_true] at hcs
    refine ⟨some a, len, cap, hcs, hl, hm, fun h => (by cases h), ?_⟩
    have hC : Try.prog.cellsOf 5 = 1 := by kernel_rfl
    have hcell : ∀ i, i < len → ∃ p : {p : Int // 0 ≤ p ∧ p ≤ 255}, ∀ j, j < 1 → w.cell? (a.add (i * 1 + j)) = ([Value.int .u8 p.1] : List Value)[j]? := fun i hil => by
      obtain ⟨cs', hc, ht'⟩ := hi i (by split at hmm <;> omega)
      rw [hC] at hc
      obtain ⟨_, hcl, hat⟩ := World.cells?_some hc
      match cs', hcl with
      | [c0], _ =>
        obtain ⟨a0, e0, _, hw⟩ := DataW.trod_int Try.underlying5 ht'
        simp at e0
        subst e0
        exact ⟨⟨a0, by simp [Lit.wf, IntKind.min, IntKind.max, IntKind.bits, IntKind.signed] at hw; omega⟩, fun j hj => by rw [← Go.Deep.add_add]; exact hat j hj⟩
    obtain ⟨xs, hxl, hr⟩ := rows_rd (α := {p : Int // 0 ≤ p ∧ p ≤ 255}) (by decide) (fun p => [Value.int .u8 p.1]) (fun _ => rfl) hcell
    refine ⟨xs.map (·.1), by rw [List.length_map, hxl], fun i hi => ?_, ?_⟩
    · have hi2 : i < xs.length := by omega
      have : (xs.map (·.1)).getD i 0 = (xs[i]).1 := by rw [List.getD_eq_getElem?_getD, List.getElem?_map, List.getElem?_eq_getElem hi2]; rfl
      rw [this]
      exact xs[i].2
    · have e : bys (xs.map (·.1)) = xs.flatMap fun p => [Value.int .u8 p.1] := by unfold bys; rw [List.flatMap_map]
      rw [e]
      exact hr
end
end Go.Proofs.Ytdnjpfjiaomlgaa
