/- Search in slices: the first packet that is not valid. -/
import Derived.Test.YtmikhkmdcpgkfaaB
namespace Go.Proofs.Ytmikhkmdcpgkfaa
open Go.RowKit
open Go.Lib (hid)

theorem all_no {ps : List Pk} {j : Nat} (h : j < ps.length) (hx : pkOk ps[j] = false) : ps.all pkOk = false := by
  rw [List.all_eq_false]
  exact ⟨ps[j], List.getElem_mem h, by simp [hx]⟩
theorem all_yes {ps : List Pk} (hx : ∀ i (h : i < ps.length), pkOk ps[i] = true) : ps.all pkOk = true := by
  rw [List.all_eq_true]
  intro p hp
  obtain ⟨i, hi, rfl⟩ := List.getElem_of_mem hp
  exact hx i hi
theorem ext_ok {ps : List Pk} {j : Nat} (hV : Hid (∀ i (h : i < ps.length), i < j → pkOk ps[i] = true)) (hx : ∀ h : j < ps.length, pkOk ps[j] = true) :
    Hid (∀ i (h : i < ps.length), i < j + 1 → pkOk ps[i] = true) := by
  refine hid fun i h hi => ?_
  by_cases he : i = j
  · subst he; exact hx h
  · exact hV.out i h (by omega)

theorem Pk.c3 (p : Pk) : p.c.length = 3 := rfl

theorem indexFunc_any (ps : List Pk) (a : Option Addr) (c : Nat) (w : World) (hn : ps.length ≤ 1000) (hr : Rd w a (ps.flatMap Pk.c)) :
    Calls Try.prog 43 #[.slice a ps.length c, .func (.func 31) #[] #[]] w fun e w' => ∃ r : Int, e = .returned (.int .i64 r) ∧ decide (0 ≤ r) = !ps.all pkOk ∧ Below w.heap.size w w' := by
  have HR := hid hr; clear hr
  go_enter Try.func43, Try.ntmps43
  go_wp2_with fail
  go_loopw [8] (fun i wr => ∃ j : Nat, j ≤ ps.length ∧ i = .int .i64 j ∧ Below w.heap.size w wr ∧ Hid (∀ i (h : i < ps.length), i < j → pkOk ps[i] = true)) (fun i _ => ps.length - (intOf i).toNat)
  case atStart => exact ⟨0, by omega, rfl, Below.refl _ _, fun i _ h => absurd h (by omega)⟩
  case round =>
    obtain ⟨j, hj, rfl, hB, hV⟩ := hrel
    by_cases hlt : j < ps.length
    · obtain ⟨b, off, rfl, hb, hc⟩ := Rd.base HR.out (by rw [flat_len Pk.c 3 Pk.c3]; omega)
      have hc0 : wr.cell? ⟨b, off + j * 3, none⟩ = some (.int .i64 ps[j].fr) := hc wr hB (j * 3) _ (flat_at Pk.c 3 Pk.c3 ps j hlt 0 (by omega))
      have hc1 : wr.cell? ⟨b, off + j * 3 + 1, none⟩ = some (.int .i64 ps[j].to) := by have := hc wr hB (j * 3 + 1) _ (flat_at Pk.c 3 Pk.c3 ps j hlt 1 (by omega)); rwa [← Nat.add_assoc] at this
      have hc2 : wr.cell? ⟨b, off + j * 3 + 2, none⟩ = some (.slice ps[j].da ps[j].dn ps[j].dc) := by have := hc wr hB (j * 3 + 2) _ (flat_at Pk.c 3 Pk.c3 ps j hlt 2 (by omega)); rwa [← Nat.add_assoc] at this
      have Hc := hid hc; clear hc
      generalize hp : ps[j] = p at hc0 hc1 hc2
      go_wp2_with fail
      refine (check1_any p _).mono ?_
      rintro e w1 ⟨rfl, hB1⟩
      rcases ho : pkOk p with _ | _
      · go_wp2_with fail
        refine bodyPost_ret (v := .int .i64 j) (by simp [results, Try.results43, go_sem]) rfl ⟨j, rfl, ?_, (by repeat (first | exact Below.refl _ _ | assumption | refine b_then ?_ (by assumption) | refine b_alloc ?_ _ | refine b_drewN ?_ _ | refine b_drew ?_ | refine b_set ?_ (by omega) _ | refine b_set ?_ (by simp) _))⟩
        rw [all_no hlt (by rw [hp]; exact ho)]
        simp
      · go_wp2_with fail
        go_roundw
        case rel => exact ⟨j + 1, by omega, by go_num, (by repeat (first | exact Below.refl _ _ | assumption | refine b_then ?_ (by assumption) | refine b_alloc ?_ _ | refine b_drewN ?_ _ | refine b_drew ?_ | refine b_set ?_ (by omega) _ | refine b_set ?_ (by simp) _)), ext_ok hV (by intro _; rw [hp]; exact ho)⟩
        case measure => simp [intOf]; omega
    · go_wp2_with fail
      refine bodyPost_ret (v := .int .i64 (-1)) (by simp [results, Try.results43, go_sem]) rfl ⟨-1, rfl, ?_, (by repeat (first | exact Below.refl _ _ | assumption | refine b_then ?_ (by assumption) | refine b_alloc ?_ _ | refine b_drewN ?_ _ | refine b_drew ?_ | refine b_set ?_ (by omega) _ | refine b_set ?_ (by simp) _))⟩
      rw [all_yes (fun i h => hV.out i h (by omega))]
      rfl

theorem containsFunc_any (ps : List Pk) (a : Option Addr) (c : Nat) (w : World) (hn : ps.length ≤ 1000) (hr : Rd w a (ps.flatMap Pk.c)) :
    Calls Try.prog 30 #[.slice a ps.length c, .func (.func 31) #[] #[]] w fun e w' => e = .returned (.bool (!ps.all pkOk)) ∧ Below w.heap.size w w' := by
  have HR := hid hr; clear hr
  go_enter Try.func30, Try.ntmps30
  go_wp2_with fail
  refine (indexFunc_any ps a c _ hn HR.out).mono ?_
  rintro e w1 ⟨r, rfl, hr, hB1⟩
  have Hr := hid hr; clear hr
  go_wp2_with fail
  refine bodyPost_ret (v := .bool (decide (0 ≤ r))) (by simp [results, Try.results30, go_sem]) rfl ⟨by rw [Hr.out], (by repeat (first | exact Below.refl _ _ | assumption | refine b_then ?_ (by assumption) | refine b_alloc ?_ _ | refine b_drewN ?_ _ | refine b_drew ?_ | refine b_set ?_ (by omega) _ | refine b_set ?_ (by simp) _))⟩
end Go.Proofs.Ytmikhkmdcpgkfaa
