/- The order of links: cmp.Compare, slices.Compare on rows of two numbers. -/
import Derived.Test.YtmikhkmdcpgkfaaC
namespace Go.Proofs.Ytmikhkmdcpgkfaa
open Go.RowKit
open Go.Lib (hid)

theorem isNaN_any (x : Int) (w : World) : Calls Try.prog 47 #[.int .i64 x] w fun e w' => e = .returned (.bool false) ∧ Below w.heap.size w w' := by
  go_enter Try.func47, Try.ntmps47
  go_wp2_with fail
  exact bodyPost_ret (v := .bool false) (by simp [results, Try.results47, go_sem]) rfl ⟨rfl, (by repeat (first | exact Below.refl _ _ | assumption | refine b_then ?_ (by assumption) | refine b_alloc ?_ _ | refine b_drewN ?_ _ | refine b_drew ?_ | refine b_set ?_ (by omega) _ | refine b_set ?_ (by simp) _))⟩

/-- The sign of a comparison. -/
def sg (x y : Int) : Int := if x < y then -1 else if y < x then 1 else 0
theorem sg_lt {x y : Int} (h : x < y) : sg x y = -1 := by simp [sg, h]
theorem sg_gt {x y : Int} (h : y < x) : sg x y = 1 := by simp [sg, h]; omega
theorem sg_eq (x : Int) : sg x x = 0 := by simp [sg]

theorem cmp_any (x y : Int) (w : World) : Calls Try.prog 44 #[.int .i64 x, .int .i64 y] w fun e w' => e = .returned (.int .i64 (sg x y)) ∧ Below w.heap.size w w' := by
  go_enter Try.func44, Try.ntmps44
  go_wp2_with fail
  refine (isNaN_any x _).mono ?_
  rintro e w1 ⟨rfl, hB1⟩
  go_wp2_with fail
  refine (isNaN_any y _).mono ?_
  rintro e w2 ⟨rfl, hB2⟩
  rcases Int.lt_trichotomy x y with h | h | h
  · go_wp2_with fail
    exact bodyPost_ret (v := .int .i64 (-1)) (by simp [results, Try.results44, go_sem]) rfl ⟨by rw [sg_lt h], (by repeat (first | exact Below.refl _ _ | assumption | refine b_then ?_ (by assumption) | refine b_alloc ?_ _ | refine b_drewN ?_ _ | refine b_drew ?_ | refine b_set ?_ (by omega) _ | refine b_set ?_ (by simp) _))⟩
  · have h1 : ¬ x < y := by omega
    have h2 : ¬ y < x := by omega
    go_wp2_with fail
    exact bodyPost_ret (v := .int .i64 0) (by simp [results, Try.results44, go_sem]) rfl ⟨by subst h; rw [sg_eq], (by repeat (first | exact Below.refl _ _ | assumption | refine b_then ?_ (by assumption) | refine b_alloc ?_ _ | refine b_drewN ?_ _ | refine b_drew ?_ | refine b_set ?_ (by omega) _ | refine b_set ?_ (by simp) _))⟩
  · have h1 : ¬ x < y := by omega
    go_wp2_with fail
    exact bodyPost_ret (v := .int .i64 1) (by simp [results, Try.results44, go_sem]) rfl ⟨by rw [sg_gt h], (by repeat (first | exact Below.refl _ _ | assumption | refine b_then ?_ (by assumption) | refine b_alloc ?_ _ | refine b_drewN ?_ _ | refine b_drew ?_ | refine b_set ?_ (by omega) _ | refine b_set ?_ (by simp) _))⟩

/-- How two rows of two numbers compare. -/
def cmpV (X Y : Nat → Int) : Int := if X 0 = Y 0 then sg (X 1) (Y 1) else sg (X 0) (Y 0)

/-- Does the first row of two numbers lie ahead of the second? -/
def ahead (X Y : Nat → Int) : Bool := decide (X 0 < Y 0 ∨ (X 0 = Y 0 ∧ X 1 < Y 1))

theorem ext_eq {X Y : Nat → Int} {j : Nat} (hV : Hid (∀ i, i < j → X i = Y i)) (he : X j = Y j) : Hid (∀ i, i < j + 1 → X i = Y i) := by
  refine hid fun i h => ?_
  by_cases hi : i = j
  · subst hi; exact he
  · exact hV.out i (by omega)
theorem cmp_said {X Y : Nat → Int} {j : Nat} (hlt : j < 2) (hV : Hid (∀ i, i < j → X i = Y i)) (he : ¬ X j = Y j) : cmpV X Y = sg (X j) (Y j) := by
  have hj : j = 0 ∨ j = 1 := by omega
  rcases hj with rfl | rfl
  · simp [cmpV, he]
  · simp [cmpV, hV.out 0 (by omega)]
theorem cmpV_ahead (X Y : Nat → Int) : decide (0 ≤ cmpV X Y) = !ahead X Y := by
  have : (0 ≤ cmpV X Y) ↔ ¬ (X 0 < Y 0 ∨ (X 0 = Y 0 ∧ X 1 < Y 1)) := by
    unfold cmpV sg
    split <;> split <;> (try split) <;> constructor <;> intro h <;> omega
  rw [ahead, ← decide_not, decide_eq_decide]
  exact this

theorem compare_any (X Y : Nat → Int) (b1 o1 c1 b2 o2 c2 : Nat) (w : World) (hb1 : b1 < w.heap.size) (hb2 : b2 < w.heap.size)
    (hX : ∀ i, i < 2 → w.cell? ⟨b1, o1 + i, none⟩ = some (.int .i64 (X i))) (hY : ∀ i, i < 2 → w.cell? ⟨b2, o2 + i, none⟩ = some (.int .i64 (Y i))) :
    Calls Try.prog 33 #[.slice (some ⟨b1, o1, none⟩) 2 c1, .slice (some ⟨b2, o2, none⟩) 2 c2] w fun e w' => e = .returned (.int .i64 (cmpV X Y)) ∧ Below w.heap.size w w' := by
  have HX := hid hX; clear hX
  have HY := hid hY; clear hY
  go_enter Try.func33, Try.ntmps33
  go_wp2_with fail
  go_loopw [11] (fun i wr => ∃ j : Nat, j ≤ 2 ∧ i = .int .i64 j ∧ Below w.heap.size w wr ∧ Hid (∀ i, i < j → X i = Y i)) (fun i _ => 2 - (intOf i).toNat)
  case atStart => exact ⟨0, by omega, rfl, Below.refl _ _, fun i h => absurd h (by omega)⟩
  case round =>
    obtain ⟨j, hj, rfl, hB, hV⟩ := hrel
    by_cases hlt : j < 2
    · have hcx : wr.cell? ⟨b1, o1 + j, none⟩ = some (.int .i64 (X j)) := (hB.cell (p := ⟨b1, o1 + j, none⟩) hb1).trans (HX.out j hlt)
      have hcy : wr.cell? ⟨b2, o2 + j, none⟩ = some (.int .i64 (Y j)) := (hB.cell (p := ⟨b2, o2 + j, none⟩) hb2).trans (HY.out j hlt)
      go_wp2_with fail
      refine (cmp_any (X j) (Y j) _).mono ?_
      rintro e w1 ⟨rfl, hB1⟩
      by_cases he : X j = Y j
      · rw [he, sg_eq]
        go_wp2_with fail
        go_roundw
        case rel => exact ⟨j + 1, by omega, by go_num, (by repeat (first | exact Below.refl _ _ | assumption | refine b_then ?_ (by assumption) | refine b_alloc ?_ _ | refine b_drewN ?_ _ | refine b_drew ?_ | refine b_set ?_ (by omega) _ | refine b_set ?_ (by simp) _)), ext_eq hV he⟩
        case measure => simp [intOf]; omega
      · have hne : ¬ sg (X j) (Y j) = 0 := by unfold sg; split <;> (try split) <;> omega
        generalize hr : sg (X j) (Y j) = r at hne
        have Hr := hid hr; clear hr
        go_wp2_with fail
        refine bodyPost_ret (v := .int .i64 r) (by simp [results, Try.results33, go_sem]) rfl ⟨by rw [← Hr.out, cmp_said hlt hV he], (by repeat (first | exact Below.refl _ _ | assumption | refine b_then ?_ (by assumption) | refine b_alloc ?_ _ | refine b_drewN ?_ _ | refine b_drew ?_ | refine b_set ?_ (by omega) _ | refine b_set ?_ (by simp) _))⟩
    · obtain rfl : j = 2 := by omega
      go_wp2_with fail
      refine bodyPost_ret (v := .int .i64 0) (by simp [results, Try.results33, go_sem]) rfl ⟨?_, (by repeat (first | exact Below.refl _ _ | assumption | refine b_then ?_ (by assumption) | refine b_alloc ?_ _ | refine b_drewN ?_ _ | refine b_drew ?_ | refine b_set ?_ (by omega) _ | refine b_set ?_ (by simp) _))⟩
      have h0 := hV.out 0 (by omega)
      have h1 := hV.out 1 (by omega)
      simp [cmpV, h0, h1, sg_eq]
end Go.Proofs.Ytmikhkmdcpgkfaa
