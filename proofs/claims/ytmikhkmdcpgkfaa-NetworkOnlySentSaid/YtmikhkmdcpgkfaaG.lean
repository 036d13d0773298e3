/- slices.Index, slices.Contains on links. -/
import Derived.Test.YtmikhkmdcpgkfaaE
namespace Go.Proofs.Ytmikhkmdcpgkfaa
open Go.RowKit
open Go.Lib (hid)

theorem ext_ne {ls : List (Int × Int)} {x y : Int} {j : Nat} (hV : Hid (∀ i (h : i < ls.length), i < j → ¬ (x = ls[i].1 ∧ y = ls[i].2))) (hx : ∀ h : j < ls.length, ¬ (x = ls[j].1 ∧ y = ls[j].2)) :
    Hid (∀ i (h : i < ls.length), i < j + 1 → ¬ (x = ls[i].1 ∧ y = ls[i].2)) := by
  refine hid fun i h hi => ?_
  by_cases he : i = j
  · subst he; exact hx h
  · exact hV.out i h (by omega)
theorem has_no {ls : List (Int × Int)} {x y : Int} (hV : ∀ i (h : i < ls.length), ¬ (x = ls[i].1 ∧ y = ls[i].2)) : ls.contains (x, y) = false := by
  rw [← Bool.not_eq_true, List.contains_iff_mem]
  intro hm
  obtain ⟨i, hi, he⟩ := List.getElem_of_mem hm
  exact hV i hi (by rw [he]; exact ⟨rfl, rfl⟩)
theorem has_yes {ls : List (Int × Int)} {x y : Int} {j : Nat} (h : j < ls.length) (he : x = ls[j].1 ∧ y = ls[j].2) : ls.contains (x, y) = true := by
  rw [List.contains_iff_mem]
  have : (x, y) = ls[j] := by rw [he.1, he.2]
  rw [this]
  exact List.getElem_mem h

theorem und55 : Try.prog.underlying 55 = some (.array 2 3) := by kernel_rfl
theorem und3 : Try.prog.underlying 3 = some (.int .i64) := by kernel_rfl
theorem mix55 : Try.prog.eqGuardType Try.prog.depth 55 = false := by kernel_rfl
/-- Rows of two numbers are equal if both numbers are. -/
theorem eq55 (a b c d : Int) (w : World) : (Op.equalIn 10000 55 (.agg #[.int .i64 a, .int .i64 b]) (.agg #[.int .i64 c, .int .i64 d])).run Try.prog w = .ok (decide (a = c ∧ b = d)) w := by
  show (Op.equalIn (9998 + 1 + 1) _ _ _).run _ _ = _
  rw [Op.equalIn]
  simp [run_underlying und55, run_underlying und3, go_sem, part, isAgg, show List.range' 0 2 = [0, 1] from rfl, run_equalIn_int w 9998 3 .i64 .i64 b d und3]
  by_cases h1 : a = c <;> by_cases h2 : b = d <;> simp [h1, h2]

set_option maxHeartbeats 400000 in
theorem index_any (ls : List (Int × Int)) (x y : Int) (a : Option Addr) (c : Nat) (w : World) (hn : ls.length ≤ 1000) (hr : Rd w a (ls.flatMap lkc)) :
    Calls Try.prog 45 #[.slice a ls.length c, .agg #[.int .i64 x, .int .i64 y]] w fun e w' => ∃ r : Int, e = .returned (.int .i64 r) ∧ decide (0 ≤ r) = ls.contains (x, y) ∧ Below w.heap.size w w' := by
  have HR := hid hr; clear hr
  have q0 := mix55
  have q1 := eq55
  go_enter Try.func45, Try.ntmps45
  go_wp2_with fail
  go_loopw [8] (fun i wr => ∃ j : Nat, j ≤ ls.length ∧ i = .int .i64 j ∧ Below (w.alloc (.cells #[.int .i64 x, .int .i64 y] 55)).heap.size (w.alloc (.cells #[.int .i64 x, .int .i64 y] 55)) wr ∧ Hid (∀ i (h : i < ls.length), i < j → ¬ (x = ls[i].1 ∧ y = ls[i].2))) (fun i _ => ls.length - (intOf i).toNat)
  case atStart => exact ⟨0, by omega, rfl, Below.refl _ _, fun i _ h => absurd h (by omega)⟩
  case round =>
    obtain ⟨j, hj, rfl, hB, hV⟩ := hrel
    have hBw : Below w.heap.size w wr := b_alloc_then hB
    by_cases hlt : j < ls.length
    · obtain ⟨b, off, rfl, hb, hc⟩ := Rd.base HR.out (by rw [flat_len lkc 2 lkc2]; omega)
      have hc0 : wr.cell? ⟨b, off + j * 2, none⟩ = some (.int .i64 ls[j].1) := hc wr hBw (j * 2) _ (flat_at lkc 2 lkc2 ls j hlt 0 (by omega))
      have hc1 : wr.cell? ⟨b, off + j * 2 + 1, none⟩ = some (.int .i64 ls[j].2) := by have := hc wr hBw (j * 2 + 1) _ (flat_at lkc 2 lkc2 ls j hlt 1 (by omega)); rwa [← Nat.add_assoc] at this
      have Hc := hid hc; clear hc
      have d0 : wr.cell? ⟨w.heap.size, 0, none⟩ = some (.int .i64 x) := bb hB (by first | (simp; done) | omega | (simp; omega)) (by repeat (first | assumption | exact bn (by first | (simp; done) | omega | (simp; omega)) rfl | refine bo (by first | (simp; done) | omega | (simp; omega)) ?_ | refine bb (by assumption) (by first | (simp; done) | omega | (simp; omega)) ?_))
      have d1 : wr.cell? ⟨w.heap.size, 1, none⟩ = some (.int .i64 y) := bb hB (by first | (simp; done) | omega | (simp; omega)) (by repeat (first | assumption | exact bn (by first | (simp; done) | omega | (simp; omega)) rfl | refine bo (by first | (simp; done) | omega | (simp; omega)) ?_ | refine bb (by assumption) (by first | (simp; done) | omega | (simp; omega)) ?_))
      go_wp2_with fail
      go_quiet (fail)
      by_cases he : x = ls[j].1 ∧ y = ls[j].2
      · have he1 := he.1
        have he2 := he.2
        go_wp2_with fail
        refine bodyPost_ret (v := .int .i64 j) (by simp [results, Try.results45, go_sem]) rfl ⟨j, rfl, ?_, (by repeat (first | exact Below.refl _ _ | assumption | refine b_then ?_ (by assumption) | refine b_alloc ?_ _ | refine b_drewN ?_ _ | refine b_drew ?_ | refine b_set ?_ (by omega) _ | refine b_set ?_ (by simp) _))⟩
        rw [has_yes hlt he]
        simp
      · have hf : (decide (x = ls[j].1) && decide (y = ls[j].2)) = false := by
          rw [← Bool.not_eq_true]; simpa using he
        rw [hf]
        go_wp2_with fail
        go_roundw
        case rel => exact ⟨j + 1, by omega, by go_num, (by repeat (first | exact Below.refl _ _ | assumption | refine b_then ?_ (by assumption) | refine b_alloc ?_ _ | refine b_drewN ?_ _ | refine b_drew ?_ | refine b_set ?_ (by omega) _ | refine b_set ?_ (by simp) _)), ext_ne hV (fun _ => he)⟩
        case measure => simp [intOf]; omega
    · go_wp2_with fail
      refine bodyPost_ret (v := .int .i64 (-1)) (by simp [results, Try.results45, go_sem]) rfl ⟨-1, rfl, ?_, (by repeat (first | exact Below.refl _ _ | assumption | refine b_then ?_ (by assumption) | refine b_alloc ?_ _ | refine b_drewN ?_ _ | refine b_drew ?_ | refine b_set ?_ (by omega) _ | refine b_set ?_ (by simp) _))⟩
      rw [has_no (fun i h => hV.out i h (by omega))]
      rfl

theorem contains_any (ls : List (Int × Int)) (x y : Int) (a : Option Addr) (c : Nat) (w : World) (hn : ls.length ≤ 1000) (hr : Rd w a (ls.flatMap lkc)) :
    Calls Try.prog 36 #[.slice a ls.length c, .agg #[.int .i64 x, .int .i64 y]] w fun e w' => e = .returned (.bool (ls.contains (x, y))) ∧ Below w.heap.size w w' := by
  have HR := hid hr; clear hr
  go_enter Try.func36, Try.ntmps36
  go_wp2_with fail
  refine (index_any ls x y a c _ hn (HR.out.below (by repeat (first | exact Below.refl _ _ | assumption | refine b_then ?_ (by assumption) | refine b_alloc ?_ _ | refine b_drewN ?_ _ | refine b_drew ?_ | refine b_set ?_ (by omega) _ | refine b_set ?_ (by simp) _)))).mono ?_
  rintro e w1 ⟨r, rfl, hr, hB1⟩
  have Hr := hid hr; clear hr
  go_wp2_with fail
  refine bodyPost_ret (v := .bool (decide (0 ≤ r))) (by simp [results, Try.results36, go_sem]) rfl ⟨by rw [Hr.out], (by repeat (first | exact Below.refl _ _ | assumption | refine b_then ?_ (by assumption) | refine b_alloc ?_ _ | refine b_drewN ?_ _ | refine b_drew ?_ | refine b_set ?_ (by omega) _ | refine b_set ?_ (by simp) _))⟩
end Go.Proofs.Ytmikhkmdcpgkfaa
