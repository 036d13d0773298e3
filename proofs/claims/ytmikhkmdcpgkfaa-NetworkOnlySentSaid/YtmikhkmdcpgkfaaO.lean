/- The reference's asked, IsCut, New; New, Few. -/
import Derived.Test.YtmikhkmdcpgkfaaM
import Derived.Test.YtmikhkmdcpgkfaaV
import Derived.Test.YtmikhkmdcpgkfaaK
namespace Go.Proofs.Ytmikhkmdcpgkfaa
open Go.RowKit
open Go.Lib (hid)

theorem asked_any (ok : Nat → Prop) (ps : List Pk) (ls : List (Int × Int)) (i : Int) (v : Value) (w : World) (hp : ps.length ≤ 1000) (hl : ls.length ≤ 1000) (hv : NetIs ok w v ps ls) :
    Calls Try.prog 41 #[v, .int .i64 i] w fun e w' => e = .returned (.int .i64 (ask ps ls i)) ∧ Below w.heap.size w w' := by
  obtain ⟨qa, aa, qc, ac, rfl, hq, ha, -⟩ := hv
  have HQ := hid hq; clear hq
  have HA := hid ha; clear ha
  unfold netV
  go_enter Try.func41, Try.ntmps41
  go_wp2_with fail
  obtain ⟨V, hV⟩ : ∃ V, V = w.alloc (.cells #[.slice qa ps.length qc, .slice aa ls.length ac] 25) := ⟨_, rfl⟩
  have hwV : Below w.heap.size w V := by rw [hV]; exact b_alloc (Below.refl _ _) _
  have c0 : ∀ v : After V, v.w.cell? ⟨w.heap.size, 0, none⟩ = some (.slice qa ps.length qc) := new_cell hV rfl rfl
  rw [← hV]
  clear hV
  refine (met0 (rCheck_any ps ls qa aa qc ac _ hp hl (HQ.out.below hwV) (HA.out.below hwV))).mono ?_
  rintro e _ ⟨rfl, u, rfl⟩
  have W0 := hid (after_below hwV u)
  by_cases hc : chk ps ls = 0
  · rw [hc]
    have Hc := hid hc; clear hc
    by_cases h1 : 0 ≤ i
    · have h1' : decide (i < 0) = false := by simpa using h1
      by_cases h2 : i < (ps.length : Int)
      · have h2' : decide ((ps.length : Int) ≤ i) = false := by simpa using h2
        have ha0 := hid (show ask ps ls i = 0 by simp [ask, Hc.out, h1, h2])
        go_wp2_with fail
        exact bodyPost_ret (v := .int .i64 0) (by simp [results, Try.results41, go_sem]) rfl ⟨by rw [ha0.out], W0.out⟩
      · have h2' : decide ((ps.length : Int) ≤ i) = true := by simp; omega
        have ha0 := hid (show ask ps ls i = 1 by simp [ask, Hc.out]; omega)
        go_wp2_with fail
        exact bodyPost_ret (v := .int .i64 1) (by simp [results, Try.results41, go_sem]) rfl ⟨by rw [ha0.out], W0.out⟩
    · have h1' : decide (i < 0) = true := by simp; omega
      have ha0 := hid (show ask ps ls i = 1 by simp [ask, Hc.out]; omega)
      go_wp2_with fail
      exact bodyPost_ret (v := .int .i64 1) (by simp [results, Try.results41, go_sem]) rfl ⟨by rw [ha0.out], W0.out⟩
  · have ha0 := hid (show ask ps ls i = 60 by simp [ask, hc])
    rw [chk_60 hc]
    clear hc
    go_wp2_with fail
    exact bodyPost_ret (v := .int .i64 60) (by simp [results, Try.results41, go_sem]) rfl ⟨by rw [ha0.out], W0.out⟩

theorem isCut_gt (ok : Nat → Prop) (ps : List Pk) (ls : List (Int × Int)) (a b : Int) (hab : b < a) (_hba : ¬ a < b) (v : Value) (w : World) (hl : ls.length ≤ 1000) (hv : NetIs ok w v ps ls) :
    Calls Try.prog 40 #[v, .int .i64 a, .int .i64 b] w fun e w' => e = .returned (.bool (ls.contains (b, a))) ∧ Below w.heap.size w w' := by
  obtain ⟨qa, aa, qc, ac, rfl, hq, ha, -⟩ := hv
  clear hq
  have HA := hid ha; clear ha
  unfold netV
  go_enter Try.func40, Try.ntmps40
  go_wp2_with fail
  obtain ⟨V, hV⟩ : ∃ V, V = w.alloc (.cells #[.slice qa ps.length qc, .slice aa ls.length ac] 25) := ⟨_, rfl⟩
  have hwV : Below w.heap.size w V := by rw [hV]; exact b_alloc (Below.refl _ _) _
  have c1 : ∀ v : After V, v.w.cell? ⟨w.heap.size, 1, none⟩ = some (.slice aa ls.length ac) := new_cell hV rfl rfl
  have RA := hid (after_rd (HA.out.below hwV))
  have W0 := hid (after_below hwV)
  rw [← hV]
  clear hV
  go_loopw [7] (fun i wr => ∃ (j : Nat) (u : After V), j ≤ ls.length ∧ i = .int .i64 j ∧ wr = u.w ∧ Hid (∀ i (h : i < ls.length), i < j → ¬ (b = ls[i].1 ∧ a = ls[i].2))) (fun i _ => ls.length - (intOf i).toNat)
  case atStart => exact ⟨0, After.here V, by omega, rfl, rfl, hid fun i _ h => absurd h (by omega)⟩
  case round =>
    obtain ⟨j, u, hj, rfl, rfl, hX⟩ := hrel
    by_cases hlt : j < ls.length
    · obtain ⟨b', off, rfl, hb⟩ := (RA.out u).addr (by rw [flat_len lkc 2 lkc2]; omega)
      have k0 : ∀ v : After V, v.w.cell? ⟨b', off + j * 2, none⟩ = some (.int .i64 ls[j].1) := row_cell lkc2 RA.out hlt 0 (by decide) rfl rfl
      have k1 : ∀ v : After V, v.w.cell? ⟨b', off + j * 2 + 1, none⟩ = some (.int .i64 ls[j].2) := row_cell lkc2 RA.out hlt 1 (by decide) rfl rfl
      by_cases h1 : ls[j].1 = b
      · have h1' : (ls[j].1 == b) = true := by simpa using h1
        by_cases h2 : ls[j].2 = a
        · have h2' : (ls[j].2 == a) = true := by simpa using h2
          have hy := hid (has_yes (x := b) (y := a) hlt ⟨h1.symm, h2.symm⟩)
          clear h1 h2
          go_wp2_with fail
          exact bodyPost_ret (v := .bool true) (by simp [results, Try.results40, go_sem]) rfl ⟨by rw [hy.out], W0.out _⟩
        · have h2' : (ls[j].2 == a) = false := by simpa using h2
          have hn := hid (ext_ne hX (fun _ h => h2 h.2.symm))
          clear h1 h2
          go_wp2_with fail
          go_roundw
          case rel => exact ⟨j + 1, _, by omega, by go_num, rfl, hn.out⟩
          case measure => simp [intOf]; omega
      · have h1' : (ls[j].1 == b) = false := by simpa using h1
        have hn := hid (ext_ne hX (fun _ h => h1 h.1.symm))
        clear h1
        go_wp2_with fail
        go_roundw
        case rel => exact ⟨j + 1, _, by omega, by go_num, rfl, hn.out⟩
        case measure => simp [intOf]; omega
    · have hn := hid (has_no (fun i h => hX.out i h (by omega)))
      go_wp2_with fail
      exact bodyPost_ret (v := .bool false) (by simp [results, Try.results40, go_sem]) rfl ⟨by rw [hn.out], W0.out _⟩

theorem isCut_lt (ok : Nat → Prop) (ps : List Pk) (ls : List (Int × Int)) (a b : Int) (hab : a < b) (_hba : ¬ b < a) (v : Value) (w : World) (hl : ls.length ≤ 1000) (hv : NetIs ok w v ps ls) :
    Calls Try.prog 40 #[v, .int .i64 a, .int .i64 b] w fun e w' => e = .returned (.bool (ls.contains (a, b))) ∧ Below w.heap.size w w' := by
  obtain ⟨qa, aa, qc, ac, rfl, hq, ha, -⟩ := hv
  clear hq
  have HA := hid ha; clear ha
  unfold netV
  go_enter Try.func40, Try.ntmps40
  go_wp2_with fail
  obtain ⟨V, hV⟩ : ∃ V, V = w.alloc (.cells #[.slice qa ps.length qc, .slice aa ls.length ac] 25) := ⟨_, rfl⟩
  have hwV : Below w.heap.size w V := by rw [hV]; exact b_alloc (Below.refl _ _) _
  have c1 : ∀ v : After V, v.w.cell? ⟨w.heap.size, 1, none⟩ = some (.slice aa ls.length ac) := new_cell hV rfl rfl
  have RA := hid (after_rd (HA.out.below hwV))
  have W0 := hid (after_below hwV)
  rw [← hV]
  clear hV
  go_loopw [7] (fun i wr => ∃ (j : Nat) (u : After V), j ≤ ls.length ∧ i = .int .i64 j ∧ wr = u.w ∧ Hid (∀ i (h : i < ls.length), i < j → ¬ (a = ls[i].1 ∧ b = ls[i].2))) (fun i _ => ls.length - (intOf i).toNat)
  case atStart => exact ⟨0, After.here V, by omega, rfl, rfl, hid fun i _ h => absurd h (by omega)⟩
  case round =>
    obtain ⟨j, u, hj, rfl, rfl, hX⟩ := hrel
    by_cases hlt : j < ls.length
    · obtain ⟨b', off, rfl, hb⟩ := (RA.out u).addr (by rw [flat_len lkc 2 lkc2]; omega)
      have k0 : ∀ v : After V, v.w.cell? ⟨b', off + j * 2, none⟩ = some (.int .i64 ls[j].1) := row_cell lkc2 RA.out hlt 0 (by decide) rfl rfl
      have k1 : ∀ v : After V, v.w.cell? ⟨b', off + j * 2 + 1, none⟩ = some (.int .i64 ls[j].2) := row_cell lkc2 RA.out hlt 1 (by decide) rfl rfl
      by_cases h1 : ls[j].1 = a
      · have h1' : (ls[j].1 == a) = true := by simpa using h1
        by_cases h2 : ls[j].2 = b
        · have h2' : (ls[j].2 == b) = true := by simpa using h2
          have hy := hid (has_yes (x := a) (y := b) hlt ⟨h1.symm, h2.symm⟩)
          clear h1 h2
          go_wp2_with fail
          exact bodyPost_ret (v := .bool true) (by simp [results, Try.results40, go_sem]) rfl ⟨by rw [hy.out], W0.out _⟩
        · have h2' : (ls[j].2 == b) = false := by simpa using h2
          have hn := hid (ext_ne hX (fun _ h => h2 h.2.symm))
          clear h1 h2
          go_wp2_with fail
          go_roundw
          case rel => exact ⟨j + 1, _, by omega, by go_num, rfl, hn.out⟩
          case measure => simp [intOf]; omega
      · have h1' : (ls[j].1 == a) = false := by simpa using h1
        have hn := hid (ext_ne hX (fun _ h => h1 h.1.symm))
        clear h1
        go_wp2_with fail
        go_roundw
        case rel => exact ⟨j + 1, _, by omega, by go_num, rfl, hn.out⟩
        case measure => simp [intOf]; omega
    · have hn := hid (has_no (fun i h => hX.out i h (by omega)))
      go_wp2_with fail
      exact bodyPost_ret (v := .bool false) (by simp [results, Try.results40, go_sem]) rfl ⟨by rw [hn.out], W0.out _⟩

theorem isCut_eq (ok : Nat → Prop) (ps : List Pk) (ls : List (Int × Int)) (a : Int)  (v : Value) (w : World) (hl : ls.length ≤ 1000) (hv : NetIs ok w v ps ls) :
    Calls Try.prog 40 #[v, .int .i64 a, .int .i64 a] w fun e w' => e = .returned (.bool (ls.contains (a, a))) ∧ Below w.heap.size w w' := by
  obtain ⟨qa, aa, qc, ac, rfl, hq, ha, -⟩ := hv
  clear hq
  have HA := hid ha; clear ha
  unfold netV
  go_enter Try.func40, Try.ntmps40
  go_wp2_with fail
  obtain ⟨V, hV⟩ : ∃ V, V = w.alloc (.cells #[.slice qa ps.length qc, .slice aa ls.length ac] 25) := ⟨_, rfl⟩
  have hwV : Below w.heap.size w V := by rw [hV]; exact b_alloc (Below.refl _ _) _
  have c1 : ∀ v : After V, v.w.cell? ⟨w.heap.size, 1, none⟩ = some (.slice aa ls.length ac) := new_cell hV rfl rfl
  have RA := hid (after_rd (HA.out.below hwV))
  have W0 := hid (after_below hwV)
  rw [← hV]
  clear hV
  go_loopw [7] (fun i wr => ∃ (j : Nat) (u : After V), j ≤ ls.length ∧ i = .int .i64 j ∧ wr = u.w ∧ Hid (∀ i (h : i < ls.length), i < j → ¬ (a = ls[i].1 ∧ a = ls[i].2))) (fun i _ => ls.length - (intOf i).toNat)
  case atStart => exact ⟨0, After.here V, by omega, rfl, rfl, hid fun i _ h => absurd h (by omega)⟩
  case round =>
    obtain ⟨j, u, hj, rfl, rfl, hX⟩ := hrel
    by_cases hlt : j < ls.length
    · obtain ⟨b', off, rfl, hb⟩ := (RA.out u).addr (by rw [flat_len lkc 2 lkc2]; omega)
      have k0 : ∀ v : After V, v.w.cell? ⟨b', off + j * 2, none⟩ = some (.int .i64 ls[j].1) := row_cell lkc2 RA.out hlt 0 (by decide) rfl rfl
      have k1 : ∀ v : After V, v.w.cell? ⟨b', off + j * 2 + 1, none⟩ = some (.int .i64 ls[j].2) := row_cell lkc2 RA.out hlt 1 (by decide) rfl rfl
      by_cases h1 : ls[j].1 = a
      · have h1' : (ls[j].1 == a) = true := by simpa using h1
        by_cases h2 : ls[j].2 = a
        · have h2' : (ls[j].2 == a) = true := by simpa using h2
          have hy := hid (has_yes (x := a) (y := a) hlt ⟨h1.symm, h2.symm⟩)
          clear h1 h2
          go_wp2_with fail
          exact bodyPost_ret (v := .bool true) (by simp [results, Try.results40, go_sem]) rfl ⟨by rw [hy.out], W0.out _⟩
        · have h2' : (ls[j].2 == a) = false := by simpa using h2
          have hn := hid (ext_ne hX (fun _ h => h2 h.2.symm))
          clear h1 h2
          go_wp2_with fail
          go_roundw
          case rel => exact ⟨j + 1, _, by omega, by go_num, rfl, hn.out⟩
          case measure => simp [intOf]; omega
      · have h1' : (ls[j].1 == a) = false := by simpa using h1
        have hn := hid (ext_ne hX (fun _ h => h1 h.1.symm))
        clear h1
        go_wp2_with fail
        go_roundw
        case rel => exact ⟨j + 1, _, by omega, by go_num, rfl, hn.out⟩
        case measure => simp [intOf]; omega
    · have hn := hid (has_no (fun i h => hX.out i h (by omega)))
      go_wp2_with fail
      exact bodyPost_ret (v := .bool false) (by simp [results, Try.results40, go_sem]) rfl ⟨by rw [hn.out], W0.out _⟩

theorem isCut_any (ok : Nat → Prop) (ps : List Pk) (ls : List (Int × Int)) (a b : Int) (v : Value) (w : World) (hl : ls.length ≤ 1000) (hv : NetIs ok w v ps ls) :
    Calls Try.prog 40 #[v, .int .i64 a, .int .i64 b] w fun e w' => e = .returned (.bool (ls.contains (min a b, max a b))) ∧ Below w.heap.size w w' := by
  by_cases h1 : b < a
  · rw [show min a b = b by omega, show max a b = a by omega]
    exact isCut_gt ok ps ls a b h1 (by omega) v w hl hv
  · by_cases h2 : a < b
    · rw [show min a b = a by omega, show max a b = b by omega]
      exact isCut_lt ok ps ls a b h2 h1 v w hl hv
    · obtain rfl : a = b := by omega
      rw [Int.min_self, Int.max_self]
      exact isCut_eq ok ps ls a v w hl hv

theorem few_any (ok : Nat → Prop) (ps : List Pk) (ls : List (Int × Int)) (v : Value) (w : World) (hv : NetIs ok w v ps ls) :
    Calls Try.prog 10 #[v] w fun e w' => e = .returned (.bool (decide (ps.length ≤ 40) && decide (ls.length ≤ 40))) ∧ Below w.heap.size w w' := by
  obtain ⟨qa, aa, qc, ac, rfl, -⟩ := hv
  unfold netV
  go_enter Try.func10, Try.ntmps10
  by_cases h1 : ps.length ≤ 40
  · have h1' : decide ((ps.length : Int) ≤ 40) = true := by simp; omega
    by_cases h2 : ls.length ≤ 40
    · have h2' : decide ((ls.length : Int) ≤ 40) = true := by simp; omega
      go_wp2_with fail
      exact bodyPost_ret (v := .bool true) (by simp [results, Try.results10, go_sem]) rfl ⟨by simp [h1, h2], (by repeat (first | exact Below.refl _ _ | assumption | refine b_then ?_ (by assumption) | refine b_alloc ?_ _ | refine b_drewN ?_ _ | refine b_drew ?_ | refine b_set ?_ (by omega) _ | refine b_set ?_ (by simp) _))⟩
    · have h2' : decide ((ls.length : Int) ≤ 40) = false := by simp; omega
      go_wp2_with fail
      exact bodyPost_ret (v := .bool false) (by simp [results, Try.results10, go_sem]) rfl ⟨by simp [h2], (by repeat (first | exact Below.refl _ _ | assumption | refine b_then ?_ (by assumption) | refine b_alloc ?_ _ | refine b_drewN ?_ _ | refine b_drew ?_ | refine b_set ?_ (by omega) _ | refine b_set ?_ (by simp) _))⟩
  · have h1' : decide ((ps.length : Int) ≤ 40) = false := by simp; omega
    go_wp2_with fail
    exact bodyPost_ret (v := .bool false) (by simp [results, Try.results10, go_sem]) rfl ⟨by simp [h1], (by repeat (first | exact Below.refl _ _ | assumption | refine b_then ?_ (by assumption) | refine b_alloc ?_ _ | refine b_drewN ?_ _ | refine b_drew ?_ | refine b_set ?_ (by omega) _ | refine b_set ?_ (by simp) _))⟩
end Go.Proofs.Ytmikhkmdcpgkfaa
