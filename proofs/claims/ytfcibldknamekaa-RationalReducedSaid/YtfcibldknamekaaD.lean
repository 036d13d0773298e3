/- Contracts over package rational: need. -/
import Derived.Test.YtfcibldknamekaaC
namespace Go.Proofs.Ytfcibldknamekaa
open Go.RowKit
open Go.Lib (hid)

def NeedPost (ok : Prop) (w : World) (e : Ending) (w' : World) : Prop :=
  ((ok ∧ e = .returned (.tuple #[])) ∨ (¬ ok ∧ e = .panicked [{ v := .iface 53 (.agg #[]), recovered := false }])) ∧ Below w.heap.size w w'

theorem ext_below {p : Nat → Prop} {j : Nat} (h : Hid (∀ i, i < j → p i)) (hj : p j) : Hid (∀ i, i < j + 1 → p i) := by
  intro i hi
  rcases Nat.lt_or_ge i j with h1 | h1
  · exact h.out i h1
  · obtain rfl : i = j := by omega
    exact hj

set_option maxHeartbeats 400000 in
theorem need_any (b n : Nat) (N D : Nat → Int) (w : World) (hn : n ≤ 2) (hb : b < w.heap.size) (hN : ∀ i, i < n → w.cell? ⟨b, i * 2, none⟩ = some (.int .i64 (N i))) (hD : ∀ i, i < n → w.cell? ⟨b, i * 2 + 1, none⟩ = some (.int .i64 (D i))) :
    Calls Try.prog 31 #[.slice (some ⟨b, 0, none⟩) n n] w (NeedPost (∀ i, i < n → Vld (N i) (D i)) w) := by
  have HN := hid hN; clear hN
  have HD := hid hD; clear hD
  go_enter Try.func31, Try.ntmps31
  go_wp2_with fail
  go_loopw [6] (fun i wr => ∃ j : Nat, j ≤ n ∧ i = .int .i64 j ∧ Below w.heap.size w wr ∧ Hid (∀ i, i < j → Vld (N i) (D i))) (fun i _ => n - (intOf i).toNat)
  case atStart => exact ⟨0, by omega, rfl, Below.refl _ _, fun i h => absurd h (by omega)⟩
  case round =>
    obtain ⟨j, hj, rfl, hB, hV⟩ := hrel
    by_cases hlt : j < n
    · have hc0 : wr.cell? ⟨b, j * 2, none⟩ = some (.int .i64 (N j)) := (hB.cell (p := ⟨b, j * 2, none⟩) hb).trans (HN.out j hlt)
      have hc1 : wr.cell? ⟨b, j * 2 + 1, none⟩ = some (.int .i64 (D j)) := (hB.cell (p := ⟨b, j * 2 + 1, none⟩) hb).trans (HD.out j hlt)
      have hz := hB.size
      by_cases hv : Vld (N j) (D j)
      · have Hv := hid (chk_ok hv)
        go_wp2_with fail
        refine (Check_any _ _ _).mono ?_
        rintro e w1 ⟨rfl, hb1⟩
        rw [Hv.out]
        go_wp2_with fail
        go_roundw
        case rel => exact ⟨j + 1, by omega, by go_num, (by repeat (first | exact Below.refl _ _ | assumption | refine b_then ?_ (by assumption) | refine b_alloc ?_ _ | refine b_drewN ?_ _ | refine b_drew ?_ | refine b_set ?_ (by omega) _ | refine b_set ?_ (by simp) _)), ext_below hV hv⟩
        case measure => simp [intOf]; omega
      · have Hv := hid (chk_no hv)
        go_wp2_with fail
        refine (Check_any _ _ _).mono ?_
        rintro e w1 ⟨rfl, hb1⟩
        rw [Hv.out]
        go_wp2_with fail
        exact ⟨rfl, .inr ⟨fun h => hv (h j hlt), rfl⟩, (by repeat (first | exact Below.refl _ _ | assumption | refine b_then ?_ (by assumption) | refine b_alloc ?_ _ | refine b_drewN ?_ _ | refine b_drew ?_ | refine b_set ?_ (by omega) _ | refine b_set ?_ (by simp) _))⟩
    · go_wp2_with fail
      go_end0
      exact ⟨.inl ⟨fun i hi => hV.out i (by omega), rfl⟩, (by repeat (first | exact Below.refl _ _ | assumption | refine b_then ?_ (by assumption) | refine b_alloc ?_ _ | refine b_drewN ?_ _ | refine b_drew ?_ | refine b_set ?_ (by omega) _ | refine b_set ?_ (by simp) _))⟩
end Go.Proofs.Ytfcibldknamekaa
