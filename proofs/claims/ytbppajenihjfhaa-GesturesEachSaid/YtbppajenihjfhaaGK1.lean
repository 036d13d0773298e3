/- Several texts in one. -/
import Derived.Test.YtbppajenihjfhaaC10
import Derived.IntWalk
import Derived.Test.YtbppajenihjfhaaC6
import Derived.Test.YtbppajenihjfhaaC2
import Derived.Test.YtbppajenihjfhaaC9
import Derived.Test.YtbppajenihjfhaaCB
/- Gestures: sums that stop at the ends. -/
namespace Go.Proofs.Ytbppajenihjfhaa
open Go.RowKit
open Go.Lib (hid)

theorem clip_hi {x : Int} (h : 2147483647 < x) : clipT x = 2147483647 := by unfold clipT; rw [if_neg (by omega), if_pos h]
theorem clip_lo {x : Int} (h : x < -2147483648) : clipT x = -2147483648 := by unfold clipT; rw [if_pos h]
set_option maxRecDepth 100000 in
set_option maxHeartbeats 4000000 in
theorem rAdd_any (a b : Int) (ha : -9223372036854775808 ≤ a ∧ a ≤ 9223372036854775807) (hb : -9223372036854775808 ≤ b ∧ b ≤ 9223372036854775807) (w : World) : Calls Try.prog 103 #[.int .i64 a, .int .i64 b] w fun e w' => e = .returned (.int .i64 (clipT (a + b))) ∧ w = w' := by
  obtain ⟨s, hs⟩ : ∃ s, IntKind.i64.wrap (a + b) = s := ⟨_, rfl⟩
  have hs2 := hs
  rw [IntKind.wrap_i64] at hs2
  go_enter Try.func103, Try.ntmps103
  rcases a0 : decide (a < 0) with _ | _
  · rcases a1 : decide (0 < a) with _ | _
    · have hc := hid (show clipT s = clipT (a + b) by congr 1; have := of_decide_eq_false a0; have := of_decide_eq_false a1; omega)
      clear hs2
      go_wp2_with fail
      refine (rClip_any s w).mono ?_
      rintro e _ ⟨rfl, rfl⟩
      rw [hc.out]
      go_wp2_with fail
      exact bodyPost_ret (v := .int .i64 (clipT (a + b))) (by simp [results, Try.results103, go_sem]) rfl ⟨rfl, rfl⟩
    · rcases b1 : decide (0 < b) with _ | _
      · have hc := hid (show clipT s = clipT (a + b) by congr 1; have := of_decide_eq_false a0; have := of_decide_eq_false b1; omega)
        clear hs2
        go_wp2_with fail
        refine (rClip_any s w).mono ?_
        rintro e _ ⟨rfl, rfl⟩
        rw [hc.out]
        go_wp2_with fail
        exact bodyPost_ret (v := .int .i64 (clipT (a + b))) (by simp [results, Try.results103, go_sem]) rfl ⟨rfl, rfl⟩
      · rcases s0 : decide (s < 0) with _ | _
        · have hc := hid (show clipT s = clipT (a + b) by congr 1; have := of_decide_eq_true a1; have := of_decide_eq_true b1; have := of_decide_eq_false s0; omega)
          clear hs2
          go_wp2_with fail
          refine (rClip_any s w).mono ?_
          rintro e _ ⟨rfl, rfl⟩
          rw [hc.out]
          go_wp2_with fail
          exact bodyPost_ret (v := .int .i64 (clipT (a + b))) (by simp [results, Try.results103, go_sem]) rfl ⟨rfl, rfl⟩
        · have hc := hid (show clipT (a + b) = 2147483647 from clip_hi (by have := of_decide_eq_true s0; have := of_decide_eq_true a1; have := of_decide_eq_true b1; omega))
          clear hs2
          go_wp2_with fail
          exact bodyPost_ret (v := .int .i64 2147483647) (by simp [results, Try.results103, go_sem]) rfl ⟨by rw [hc.out], rfl⟩
  · have a1 : decide (0 < a) = false := decide_eq_false (by have := of_decide_eq_true a0; omega)
    rcases b0 : decide (b < 0) with _ | _
    · have hc := hid (show clipT s = clipT (a + b) by congr 1; have := of_decide_eq_true a0; have := of_decide_eq_false b0; omega)
      clear hs2
      go_wp2_with fail
      refine (rClip_any s w).mono ?_
      rintro e _ ⟨rfl, rfl⟩
      rw [hc.out]
      go_wp2_with fail
      exact bodyPost_ret (v := .int .i64 (clipT (a + b))) (by simp [results, Try.results103, go_sem]) rfl ⟨rfl, rfl⟩
    · rcases s0 : decide (0 ≤ s) with _ | _
      · have hc := hid (show clipT s = clipT (a + b) by congr 1; have := of_decide_eq_true a0; have := of_decide_eq_true b0; have := of_decide_eq_false s0; omega)
        clear hs2
        go_wp2_with fail
        refine (rClip_any s w).mono ?_
        rintro e _ ⟨rfl, rfl⟩
        rw [hc.out]
        go_wp2_with fail
        exact bodyPost_ret (v := .int .i64 (clipT (a + b))) (by simp [results, Try.results103, go_sem]) rfl ⟨rfl, rfl⟩
      · have hc := hid (show clipT (a + b) = -2147483648 from clip_lo (by have := of_decide_eq_true s0; have := of_decide_eq_true a0; have := of_decide_eq_true b0; omega))
        clear hs2
        go_wp2_with fail
        exact bodyPost_ret (v := .int .i64 (-2147483648)) (by simp [results, Try.results103, go_sem]) rfl ⟨by rw [hc.out], rfl⟩
end Go.Proofs.Ytbppajenihjfhaa
/- Gestures: the sum of two. -/
namespace Go.Proofs.Ytbppajenihjfhaa
open Go.RowKit
open Go.Lib (hid)

def SML (a b : Int) (w : World) (s i : Value) (wr : World) : Prop := ∃ j : Nat, j ≤ 2 ∧ i = .int .i64 j ∧ s = .int .i64 (if j = 0 then 0 else if j = 1 then a else a + b) ∧ wr = w
set_option maxRecDepth 100000 in
set_option maxHeartbeats 4000000 in
theorem sum2_any (a b : Int) (ha : -9223372036854775808 ≤ a ∧ a ≤ 9223372036854775807) (hs : -9223372036854775808 ≤ a + b ∧ a + b ≤ 9223372036854775807) (g c : Nat) (w : World)
    (h0 : w.cell? ⟨g, 0, none⟩ = some (.int .i64 a)) (h1 : w.cell? ⟨g, 1, none⟩ = some (.int .i64 b)) :
    Calls Try.prog 112 #[.slice (some ⟨g, 0, none⟩) 2 c] w fun e w' => e = .returned (.int .i64 (a + b)) ∧ w = w' := by
  obtain ⟨S, hS⟩ : ∃ S, a + b = S := ⟨_, rfl⟩
  have wa : IntKind.i64.wrap a = a := IntWalk.i64_in _ ha
  have wS : IntKind.i64.wrap S = S := IntWalk.i64_in _ (by omega)
  go_enter Try.func112, Try.ntmps112
  go_wp2_with fail
  go_loopw [2, 7] (fun s i wr => SML a b w s i wr) (fun _ i _ => 2 - (intOf i).toNat)
  case atStart => exact ⟨0, by omega, rfl, rfl, rfl⟩
  case round =>
    obtain ⟨j, hj, rfl, rfl, rfl⟩ := hrel
    have hj3 : j = 0 ∨ j = 1 ∨ j = 2 := by omega
    rcases hj3 with rfl | rfl | rfl
    · have z0 : 0 + a = a := by omega
      go_wp2_with fail
      go_roundw
      case rel => exact ⟨1, by omega, by go_num, by simp, rfl⟩
      case measure => first | (simp [intOf]; done) | (simp [intOf]; omega)
    · go_wp2_with fail
      go_roundw
      case rel => exact ⟨2, by omega, by go_num, by simp [hS], rfl⟩
      case measure => first | (simp [intOf]; done) | (simp [intOf]; omega)
    · go_wp2_with fail
      exact bodyPost_ret (v := .int .i64 (a + b)) (by simp [results, Try.results112, go_sem]) rfl ⟨by rw [hS], rfl⟩
end Go.Proofs.Ytbppajenihjfhaa
/- Gestures: fixed.Add. -/
namespace Go.Proofs.Ytbppajenihjfhaa
open Go.RowKit
open Go.Lib (hid)

set_option maxRecDepth 100000 in
set_option maxHeartbeats 4000000 in
theorem Add_any (a b : Int) (ha : -9223372036854775808 ≤ a ∧ a ≤ 9223372036854775807) (hb : -9223372036854775808 ≤ b ∧ b ≤ 9223372036854775807) (w : World) : Calls Try.prog 102 #[.int .i64 a, .int .i64 b] w fun e w' => e = .returned (.int .i64 (clipT (a + b))) ∧ Below w.heap.size w w' := by
  go_enter Try.func102, Try.ntmps102
  by_cases qap : 0 < a
  · have dap : decide (0 < a) = true := decide_eq_true qap
    by_cases qbH : 4611686018427387904 ≤ b
    · have dbH : decide (4611686018427387904 ≤ b) = true := decide_eq_true qbH
      have hc := hid (show clipT (a + b) = 2147483647 from clip_hi (by omega))
      go_wp2_with fail
      exact bodyPost_ret (v := .int .i64 (2147483647)) (by simp [results, Try.results102, go_sem]) rfl ⟨by rw [hc.out], Below.refl _ _⟩
    · have dbH : decide (4611686018427387904 ≤ b) = false := decide_eq_false qbH
      have dan : decide (a < 0) = false := decide_eq_false (by omega)
      by_cases qbp : 0 < b
      · have dbp : decide (0 < b) = true := decide_eq_true qbp
        by_cases qaH : 4611686018427387904 ≤ a
        · have daH : decide (4611686018427387904 ≤ a) = true := decide_eq_true qaH
          have hc := hid (show clipT (a + b) = 2147483647 from clip_hi (by omega))
          go_wp2_with fail
          exact bodyPost_ret (v := .int .i64 (2147483647)) (by simp [results, Try.results102, go_sem]) rfl ⟨by rw [hc.out], Below.refl _ _⟩
        · have daH : decide (4611686018427387904 ≤ a) = false := decide_eq_false qaH
          have dbn : decide (b < 0) = false := decide_eq_false (by omega)
          have hr : -9223372036854775808 ≤ a + b ∧ a + b ≤ 9223372036854775807 := by omega
          have ef := enters_of Try.func112 (by kernel_rfl) rfl
          go_wp2_with fail
          refine (sum2_any a b ha hr w.heap.size 2 (w.alloc (.cells #[.int .i64 a, .int .i64 b] 3)) (bn rfl rfl) (bn rfl rfl)).mono ?_
          rintro e _ ⟨rfl, rfl⟩
          obtain ⟨S, hS⟩ : ∃ S, a + b = S := ⟨_, rfl⟩
          rw [hS]
          have HS := hid hS
          clear hS hr
          go_wp2_with fail
          refine (Clip_any S _).mono ?_
          rintro e _ ⟨rfl, rfl⟩
          obtain ⟨T, hT⟩ : ∃ T, clipT S = T := ⟨_, rfl⟩
          rw [hT]
          have HT := hid hT
          clear hT
          go_wp2_with fail
          exact bodyPost_ret (v := .int .i64 T) (by simp [results, Try.results102, go_sem]) rfl ⟨by rw [HS.out, HT.out], b_alloc (Below.refl _ _) _⟩
      · have dbp : decide (0 < b) = false := decide_eq_false qbp
        by_cases qbn : b < 0
        · have dbn : decide (b < 0) = true := decide_eq_true qbn
          have daL : decide (a ≤ -4611686018427387904) = false := decide_eq_false (by omega)
          have hr : -9223372036854775808 ≤ a + b ∧ a + b ≤ 9223372036854775807 := by omega
          have ef := enters_of Try.func112 (by kernel_rfl) rfl
          go_wp2_with fail
          refine (sum2_any a b ha hr w.heap.size 2 (w.alloc (.cells #[.int .i64 a, .int .i64 b] 3)) (bn rfl rfl) (bn rfl rfl)).mono ?_
          rintro e _ ⟨rfl, rfl⟩
          obtain ⟨S, hS⟩ : ∃ S, a + b = S := ⟨_, rfl⟩
          rw [hS]
          have HS := hid hS
          clear hS hr
          go_wp2_with fail
          refine (Clip_any S _).mono ?_
          rintro e _ ⟨rfl, rfl⟩
          obtain ⟨T, hT⟩ : ∃ T, clipT S = T := ⟨_, rfl⟩
          rw [hT]
          have HT := hid hT
          clear hT
          go_wp2_with fail
          exact bodyPost_ret (v := .int .i64 T) (by simp [results, Try.results102, go_sem]) rfl ⟨by rw [HS.out, HT.out], b_alloc (Below.refl _ _) _⟩
        · have dbn : decide (b < 0) = false := decide_eq_false qbn
          have hr : -9223372036854775808 ≤ a + b ∧ a + b ≤ 9223372036854775807 := by omega
          have ef := enters_of Try.func112 (by kernel_rfl) rfl
          go_wp2_with fail
          refine (sum2_any a b ha hr w.heap.size 2 (w.alloc (.cells #[.int .i64 a, .int .i64 b] 3)) (bn rfl rfl) (bn rfl rfl)).mono ?_
          rintro e _ ⟨rfl, rfl⟩
          obtain ⟨S, hS⟩ : ∃ S, a + b = S := ⟨_, rfl⟩
          rw [hS]
          have HS := hid hS
          clear hS hr
          go_wp2_with fail
          refine (Clip_any S _).mono ?_
          rintro e _ ⟨rfl, rfl⟩
          obtain ⟨T, hT⟩ : ∃ T, clipT S = T := ⟨_, rfl⟩
          rw [hT]
          have HT := hid hT
          clear hT
          go_wp2_with fail
          exact bodyPost_ret (v := .int .i64 T) (by simp [results, Try.results102, go_sem]) rfl ⟨by rw [HS.out, HT.out], b_alloc (Below.refl _ _) _⟩
  · have dap : decide (0 < a) = false := decide_eq_false qap
    by_cases qbp : 0 < b
    · have dbp : decide (0 < b) = true := decide_eq_true qbp
      have daH : decide (4611686018427387904 ≤ a) = false := decide_eq_false (by omega)
      have dbn : decide (b < 0) = false := decide_eq_false (by omega)
      by_cases qan : a < 0
      · have dan : decide (a < 0) = true := decide_eq_true qan
        have dbL : decide (b ≤ -4611686018427387904) = false := decide_eq_false (by omega)
        have hr : -9223372036854775808 ≤ a + b ∧ a + b ≤ 9223372036854775807 := by omega
        have ef := enters_of Try.func112 (by kernel_rfl) rfl
        go_wp2_with fail
        refine (sum2_any a b ha hr w.heap.size 2 (w.alloc (.cells #[.int .i64 a, .int .i64 b] 3)) (bn rfl rfl) (bn rfl rfl)).mono ?_
        rintro e _ ⟨rfl, rfl⟩
        obtain ⟨S, hS⟩ : ∃ S, a + b = S := ⟨_, rfl⟩
        rw [hS]
        have HS := hid hS
        clear hS hr
        go_wp2_with fail
        refine (Clip_any S _).mono ?_
        rintro e _ ⟨rfl, rfl⟩
        obtain ⟨T, hT⟩ : ∃ T, clipT S = T := ⟨_, rfl⟩
        rw [hT]
        have HT := hid hT
        clear hT
        go_wp2_with fail
        exact bodyPost_ret (v := .int .i64 T) (by simp [results, Try.results102, go_sem]) rfl ⟨by rw [HS.out, HT.out], b_alloc (Below.refl _ _) _⟩
      · have dan : decide (a < 0) = false := decide_eq_false qan
        have hr : -9223372036854775808 ≤ a + b ∧ a + b ≤ 9223372036854775807 := by omega
        have ef := enters_of Try.func112 (by kernel_rfl) rfl
        go_wp2_with fail
        refine (sum2_any a b ha hr w.heap.size 2 (w.alloc (.cells #[.int .i64 a, .int .i64 b] 3)) (bn rfl rfl) (bn rfl rfl)).mono ?_
        rintro e _ ⟨rfl, rfl⟩
        obtain ⟨S, hS⟩ : ∃ S, a + b = S := ⟨_, rfl⟩
        rw [hS]
        have HS := hid hS
        clear hS hr
        go_wp2_with fail
        refine (Clip_any S _).mono ?_
        rintro e _ ⟨rfl, rfl⟩
        obtain ⟨T, hT⟩ : ∃ T, clipT S = T := ⟨_, rfl⟩
        rw [hT]
        have HT := hid hT
        clear hT
        go_wp2_with fail
        exact bodyPost_ret (v := .int .i64 T) (by simp [results, Try.results102, go_sem]) rfl ⟨by rw [HS.out, HT.out], b_alloc (Below.refl _ _) _⟩
    · have dbp : decide (0 < b) = false := decide_eq_false qbp
      by_cases qan : a < 0
      · have dan : decide (a < 0) = true := decide_eq_true qan
        by_cases qbL : b ≤ -4611686018427387904
        · have dbL : decide (b ≤ -4611686018427387904) = true := decide_eq_true qbL
          have hc := hid (show clipT (a + b) = -2147483648 from clip_lo (by omega))
          go_wp2_with fail
          exact bodyPost_ret (v := .int .i64 (-2147483648)) (by simp [results, Try.results102, go_sem]) rfl ⟨by rw [hc.out], Below.refl _ _⟩
        · have dbL : decide (b ≤ -4611686018427387904) = false := decide_eq_false qbL
          by_cases qbn : b < 0
          · have dbn : decide (b < 0) = true := decide_eq_true qbn
            by_cases qaL : a ≤ -4611686018427387904
            · have daL : decide (a ≤ -4611686018427387904) = true := decide_eq_true qaL
              have hc := hid (show clipT (a + b) = -2147483648 from clip_lo (by omega))
              go_wp2_with fail
              exact bodyPost_ret (v := .int .i64 (-2147483648)) (by simp [results, Try.results102, go_sem]) rfl ⟨by rw [hc.out], Below.refl _ _⟩
            · have daL : decide (a ≤ -4611686018427387904) = false := decide_eq_false qaL
              have hr : -9223372036854775808 ≤ a + b ∧ a + b ≤ 9223372036854775807 := by omega
              have ef := enters_of Try.func112 (by kernel_rfl) rfl
              go_wp2_with fail
              refine (sum2_any a b ha hr w.heap.size 2 (w.alloc (.cells #[.int .i64 a, .int .i64 b] 3)) (bn rfl rfl) (bn rfl rfl)).mono ?_
              rintro e _ ⟨rfl, rfl⟩
              obtain ⟨S, hS⟩ : ∃ S, a + b = S := ⟨_, rfl⟩
              rw [hS]
              have HS := hid hS
              clear hS hr
              go_wp2_with fail
              refine (Clip_any S _).mono ?_
              rintro e _ ⟨rfl, rfl⟩
              obtain ⟨T, hT⟩ : ∃ T, clipT S = T := ⟨_, rfl⟩
              rw [hT]
              have HT := hid hT
              clear hT
              go_wp2_with fail
              exact bodyPost_ret (v := .int .i64 T) (by simp [results, Try.results102, go_sem]) rfl ⟨by rw [HS.out, HT.out], b_alloc (Below.refl _ _) _⟩
          · have dbn : decide (b < 0) = false := decide_eq_false qbn
            have hr : -9223372036854775808 ≤ a + b ∧ a + b ≤ 9223372036854775807 := by omega
            have ef := enters_of Try.func112 (by kernel_rfl) rfl
            go_wp2_with fail
            refine (sum2_any a b ha hr w.heap.size 2 (w.alloc (.cells #[.int .i64 a, .int .i64 b] 3)) (bn rfl rfl) (bn rfl rfl)).mono ?_
            rintro e _ ⟨rfl, rfl⟩
            obtain ⟨S, hS⟩ : ∃ S, a + b = S := ⟨_, rfl⟩
            rw [hS]
            have HS := hid hS
            clear hS hr
            go_wp2_with fail
            refine (Clip_any S _).mono ?_
            rintro e _ ⟨rfl, rfl⟩
            obtain ⟨T, hT⟩ : ∃ T, clipT S = T := ⟨_, rfl⟩
            rw [hT]
            have HT := hid hT
            clear hT
            go_wp2_with fail
            exact bodyPost_ret (v := .int .i64 T) (by simp [results, Try.results102, go_sem]) rfl ⟨by rw [HS.out, HT.out], b_alloc (Below.refl _ _) _⟩
      · have dan : decide (a < 0) = false := decide_eq_false qan
        by_cases qbn : b < 0
        · have dbn : decide (b < 0) = true := decide_eq_true qbn
          have daL : decide (a ≤ -4611686018427387904) = false := decide_eq_false (by omega)
          have hr : -9223372036854775808 ≤ a + b ∧ a + b ≤ 9223372036854775807 := by omega
          have ef := enters_of Try.func112 (by kernel_rfl) rfl
          go_wp2_with fail
          refine (sum2_any a b ha hr w.heap.size 2 (w.alloc (.cells #[.int .i64 a, .int .i64 b] 3)) (bn rfl rfl) (bn rfl rfl)).mono ?_
          rintro e _ ⟨rfl, rfl⟩
          obtain ⟨S, hS⟩ : ∃ S, a + b = S := ⟨_, rfl⟩
          rw [hS]
          have HS := hid hS
          clear hS hr
          go_wp2_with fail
          refine (Clip_any S _).mono ?_
          rintro e _ ⟨rfl, rfl⟩
          obtain ⟨T, hT⟩ : ∃ T, clipT S = T := ⟨_, rfl⟩
          rw [hT]
          have HT := hid hT
          clear hT
          go_wp2_with fail
          exact bodyPost_ret (v := .int .i64 T) (by simp [results, Try.results102, go_sem]) rfl ⟨by rw [HS.out, HT.out], b_alloc (Below.refl _ _) _⟩
        · have dbn : decide (b < 0) = false := decide_eq_false qbn
          have hr : -9223372036854775808 ≤ a + b ∧ a + b ≤ 9223372036854775807 := by omega
          have ef := enters_of Try.func112 (by kernel_rfl) rfl
          go_wp2_with fail
          refine (sum2_any a b ha hr w.heap.size 2 (w.alloc (.cells #[.int .i64 a, .int .i64 b] 3)) (bn rfl rfl) (bn rfl rfl)).mono ?_
          rintro e _ ⟨rfl, rfl⟩
          obtain ⟨S, hS⟩ : ∃ S, a + b = S := ⟨_, rfl⟩
          rw [hS]
          have HS := hid hS
          clear hS hr
          go_wp2_with fail
          refine (Clip_any S _).mono ?_
          rintro e _ ⟨rfl, rfl⟩
          obtain ⟨T, hT⟩ : ∃ T, clipT S = T := ⟨_, rfl⟩
          rw [hT]
          have HT := hid hT
          clear hT
          go_wp2_with fail
          exact bodyPost_ret (v := .int .i64 T) (by simp [results, Try.results102, go_sem]) rfl ⟨by rw [HS.out, HT.out], b_alloc (Below.refl _ _) _⟩
end Go.Proofs.Ytbppajenihjfhaa
/- Curves: a value lies within 32 bits. -/
namespace Go.Proofs.Ytbppajenihjfhaa
open Go.RowKit
open Go.Lib (hid)

theorem shp_rng {x y : Kn} (hx : ShOk x) {num den : Int} (hd : 0 < den) (h0 : 0 ≤ num) (h1 : num ≤ den) (x1 : -2147483648 ≤ x.v) (x2 : x.v ≤ 2147483647) (y1 : -2147483648 ≤ y.v) (y2 : y.v ≤ 2147483647) : -2147483648 ≤ shp x y num den ∧ shp x y num den ≤ 2147483647 := by
  by_cases hs : x.s = 1
  · unfold shp; rw [if_pos hs]; exact ⟨x1, x2⟩
  have z := shp_zero (x := x) (y := y) (den := den) hd (fun h => (hx.2 h).1) hx.1
  have f := shp_full (y := y) hx hs hd
  have m1 := shp_mono (y := y) hx hd (Int.le_refl 0) h0 h1
  have m2 := shp_mono (y := y) hx hd h0 h1 (Int.le_refl den)
  rw [z] at m1
  rw [f] at m2
  rcases Int.le_total x.v y.v with h | h
  · have a := m1.1 h
    have b := m2.1 h
    omega
  · have a := m1.2 h
    have b := m2.2 h
    omega
theorem ofK_rng {most : Int} {l : List Kn} (hv : valB most l = true) (p : Int) : -2147483648 ≤ ofK l p ∧ ofK l p ≤ 2147483647 := by
  have hc := ex_cnt hv p
  obtain ⟨n, hn⟩ : ∃ n, cntK l p = n := ⟨_, rfl⟩
  rw [hn] at hc
  have h1 := hc.1
  unfold ofK
  rw [hn]
  by_cases h0 : l.length = 0
  · rw [if_pos h0]; omega
  rw [if_neg h0]
  by_cases hz : n = 0
  · rw [if_pos hz]
    have := kn_at hv (show 0 < l.length by omega)
    exact ⟨this.2.2.1, this.2.2.2.1⟩
  rw [if_neg hz]
  by_cases he : n = l.length
  · rw [if_pos he]
    have := kn_at hv (show l.length - 1 < l.length by omega)
    exact ⟨this.2.2.1, this.2.2.2.1⟩
  rw [if_neg he]
  have a := kn_at hv (show n - 1 < l.length by omega)
  have b := kn_at hv (show n < l.length by omega)
  have hlt := kn_lt hv (show n - 1 < n by omega) (by omega)
  have c1 := hc.2.1 (n - 1) (by omega)
  have c2 := hc.2.2 n (Nat.le_refl _) (by omega)
  exact shp_rng (kn_sh hv (by omega)) (by omega) (by omega) (by omega) a.2.2.1 a.2.2.2.1 b.2.2.1 b.2.2.2.1
theorem kvV_rng (l : List Kn) (p : Int) : -2147483648 ≤ kvV l p ∧ kvV l p ≤ 2147483647 := by
  unfold kvV
  split
  · rename_i h
    exact ofK_rng ((crvB_iff l).1 (chkK_good h)).1 p
  · omega
end Go.Proofs.Ytbppajenihjfhaa
/- Gestures: what a gesture makes. -/
namespace Go.Proofs.Ytbppajenihjfhaa
open Go.RowKit
open Go.Lib (hid)

/-- A gesture: its mode, from, to, end, and the curve behind a slice. -/
structure Ge where
  m : Int
  f : Int
  t : Int
  e : Int
  a : Option Addr
  n : Nat
  c : Nat
  l : List Kn
def Ge.cs (g : Ge) : List Value := [.int .i64 g.m, .int .i64 g.f, .int .i64 g.t, .int .i64 g.e, .slice g.a g.n g.c]
/-- The curve lies in the world. -/
structure Ge.At (g : Ge) (w : World) : Prop where
  len : g.l.length = g.n
  le : g.n ≤ 9223372036854775807
  rd : Rd w g.a (g.l.flatMap Kn.c)
/-- What a valid gesture's numbers are. -/
def Ge.Ok (g : Ge) : Prop := 0 ≤ g.f ∧ g.f < g.t ∧ g.t ≤ g.e ∧ g.e ≤ 1099511627776 ∧ (g.m = 1 ∨ g.m = 2 ∨ g.m = 3)
/-- What a gesture makes of a value. -/
def madeV (v : Int) (g : Ge) (at_ : Int) : Int := if at_ < g.f ∨ g.e ≤ at_ then v else if g.m = 3 then clipT (v + kvV g.l (if at_ < g.t - 1 then at_ else g.t - 1)) else kvV g.l (if at_ < g.t - 1 then at_ else g.t - 1)
set_option maxRecDepth 100000 in
set_option maxHeartbeats 4000000 in
theorem rMade_any (v at_ : Int) (hv : -9223372036854775808 ≤ v ∧ v ≤ 9223372036854775807) (g : Ge) (w : World) (hg : g.At w) (ho : g.Ok) :
    Calls Try.prog 82 #[.int .i64 v, .agg #[.int .i64 g.m, .int .i64 g.f, .int .i64 g.t, .int .i64 g.e, .slice g.a g.n g.c], .int .i64 at_] w fun e w' => e = .returned (.int .i64 (madeV v g at_)) ∧ Below w.heap.size w w' := by
  obtain ⟨gm, gf, gt, ge, ga, gn, gc, gl⟩ := g
  obtain ⟨hl, hn, hr⟩ := hg
  dsimp only at hl hn hr
  obtain ⟨o0, o1, o2, o3, o4⟩ := ho
  dsimp only at o0 o1 o2 o3 o4
  have HN := hid hl; have HR := hid (after_rd hr)
  clear hl hr
  go_enter Try.func82, Try.ntmps82
  go_upto_region 1 with (fail)
  obtain ⟨V, hV⟩ : ∃ V, V = (w.alloc (.cells #[.int .i64 gm, .int .i64 gf, .int .i64 gt, .int .i64 ge, .slice ga gn gc] 38)) := ⟨_, rfl⟩
  have g0 : ∀ v : After V, v.w.cell? ⟨w.heap.size, 0, none⟩ = some (.int .i64 gm) := after_cell (by rw [hV]; first | (simp; done) | omega | (simp; omega)) (by rw [hV]; (repeat (first | with_reducible assumption | exact bn (by first | (simp; done) | omega | (simp; omega)) rfl | refine bo (by first | (simp; done) | omega | (simp; omega)) ?_)))
  have fg0 : ∀ v : After V, v.w.frozen? ⟨w.heap.size, 0, none⟩ = false := after_frozen (by rw [hV]; first | (simp; done) | omega | (simp; omega)) (by rw [hV]; (repeat (first | exact fn (by first | (simp; done) | omega | (simp; omega)) | refine fo (by first | (simp; done) | omega | (simp; omega)) ?_)))
  have g1 : ∀ v : After V, v.w.cell? ⟨w.heap.size, 1, none⟩ = some (.int .i64 gf) := after_cell (by rw [hV]; first | (simp; done) | omega | (simp; omega)) (by rw [hV]; (repeat (first | with_reducible assumption | exact bn (by first | (simp; done) | omega | (simp; omega)) rfl | refine bo (by first | (simp; done) | omega | (simp; omega)) ?_)))
  have fg1 : ∀ v : After V, v.w.frozen? ⟨w.heap.size, 1, none⟩ = false := after_frozen (by rw [hV]; first | (simp; done) | omega | (simp; omega)) (by rw [hV]; (repeat (first | exact fn (by first | (simp; done) | omega | (simp; omega)) | refine fo (by first | (simp; done) | omega | (simp; omega)) ?_)))
  have g2 : ∀ v : After V, v.w.cell? ⟨w.heap.size, 2, none⟩ = some (.int .i64 gt) := after_cell (by rw [hV]; first | (simp; done) | omega | (simp; omega)) (by rw [hV]; (repeat (first | with_reducible assumption | exact bn (by first | (simp; done) | omega | (simp; omega)) rfl | refine bo (by first | (simp; done) | omega | (simp; omega)) ?_)))
  have fg2 : ∀ v : After V, v.w.frozen? ⟨w.heap.size, 2, none⟩ = false := after_frozen (by rw [hV]; first | (simp; done) | omega | (simp; omega)) (by rw [hV]; (repeat (first | exact fn (by first | (simp; done) | omega | (simp; omega)) | refine fo (by first | (simp; done) | omega | (simp; omega)) ?_)))
  have g3 : ∀ v : After V, v.w.cell? ⟨w.heap.size, 3, none⟩ = some (.int .i64 ge) := after_cell (by rw [hV]; first | (simp; done) | omega | (simp; omega)) (by rw [hV]; (repeat (first | with_reducible assumption | exact bn (by first | (simp; done) | omega | (simp; omega)) rfl | refine bo (by first | (simp; done) | omega | (simp; omega)) ?_)))
  have fg3 : ∀ v : After V, v.w.frozen? ⟨w.heap.size, 3, none⟩ = false := after_frozen (by rw [hV]; first | (simp; done) | omega | (simp; omega)) (by rw [hV]; (repeat (first | exact fn (by first | (simp; done) | omega | (simp; omega)) | refine fo (by first | (simp; done) | omega | (simp; omega)) ?_)))
  have g4 : ∀ v : After V, v.w.cell? ⟨w.heap.size, 4, none⟩ = some (.slice ga gn gc) := after_cell (by rw [hV]; first | (simp; done) | omega | (simp; omega)) (by rw [hV]; (repeat (first | with_reducible assumption | exact bn (by first | (simp; done) | omega | (simp; omega)) rfl | refine bo (by first | (simp; done) | omega | (simp; omega)) ?_)))
  have fg4 : ∀ v : After V, v.w.frozen? ⟨w.heap.size, 4, none⟩ = false := after_frozen (by rw [hV]; first | (simp; done) | omega | (simp; omega)) (by rw [hV]; (repeat (first | exact fn (by first | (simp; done) | omega | (simp; omega)) | refine fo (by first | (simp; done) | omega | (simp; omega)) ?_)))
  have zg : ∀ v : After V, w.heap.size < v.w.heap.size := after_size (by rw [hV]; first | (simp; done) | omega | (simp; omega))
  have hwV : Below w.heap.size w V := by rw [hV]; exact (by repeat (first | exact Below.refl _ _ | assumption | refine b_then ?_ (by assumption) | refine b_alloc ?_ _ | refine b_drewN ?_ _ | refine b_drew ?_ | refine b_set ?_ (by omega) _ | refine b_set ?_ (by simp) _))
  have WV := hid (after_below hwV)
  rw [← hV]
  obtain ⟨u0, hu⟩ : ∃ u : After V, u.w = V := ⟨After.here V, rfl⟩
  rw [← hu]
  clear hu hV
  have RV := hid (upr hwV HR.out)
  have k0 := g0 u0
  have k1 := g1 u0
  have k2 := g2 u0
  have k3 := g3 u0
  have k4 := g4 u0
  by_cases h1 : at_ < gf
  · have d1 : decide (at_ < gf) = true := decide_eq_true h1
    have hm := hid (show madeV v ⟨gm, gf, gt, ge, ga, gn, gc, gl⟩ at_ = v from if_pos (.inl h1))
    go_wp2_with fail
    exact bodyPost_ret (v := .int .i64 v) (by simp [results, Try.results82, go_sem]) rfl ⟨by rw [hm.out], WV.out u0⟩
  have d1 : decide (at_ < gf) = false := decide_eq_false h1
  by_cases h2 : ge ≤ at_
  · have d2 : decide (ge ≤ at_) = true := decide_eq_true h2
    have hm := hid (show madeV v ⟨gm, gf, gt, ge, ga, gn, gc, gl⟩ at_ = v from if_pos (.inr h2))
    go_wp2_with fail
    exact bodyPost_ret (v := .int .i64 v) (by simp [results, Try.results82, go_sem]) rfl ⟨by rw [hm.out], WV.out u0⟩
  have d2 : decide (ge ≤ at_) = false := decide_eq_false h2
  obtain ⟨q, hq⟩ : ∃ q, (if at_ < gt - 1 then at_ else gt - 1) = q := ⟨_, rfl⟩
  have hm0 : madeV v ⟨gm, gf, gt, ge, ga, gn, gc, gl⟩ at_ = if gm = 3 then clipT (v + kvV gl q) else kvV gl q := by
    unfold madeV
    rw [if_neg (by dsimp only; omega)]
    dsimp only
    rw [hq]
  have HM := hid hm0
  obtain ⟨T1, hT1⟩ : ∃ y, gt - 1 = y := ⟨_, rfl⟩
  have hmn : (if T1 < at_ then T1 else at_) = q := by rw [← hq, hT1]; split <;> split <;> omega
  have hxr : -9223372036854775808 ≤ kvV gl q ∧ kvV gl q ≤ 9223372036854775807 := by have := kvV_rng gl q; omega
  obtain ⟨X, hX⟩ : ∃ X, kvV gl q = X := ⟨_, rfl⟩
  rw [hX] at hxr
  have HX := hid hX; have HCV := hid hxr
  clear hm0 hq hX hxr h1 h2
  go_wp2_with fail
  refine (met (rValue_any gl gn HN.out ga gc q u0.w hn (RV.out u0))).mono ?_
  rintro e _ ⟨rfl, u1, rfl⟩
  rw [HX.out]
  obtain ⟨K, hK⟩ : ∃ y, chkK gl = y := ⟨_, rfl⟩
  rw [hK]
  clear hK k0 k1 k2 k3 k4
  have k0 := g0 u1
  by_cases h3 : gm = 3
  · subst h3
    have hmm := hid (show madeV v ⟨3, gf, gt, ge, ga, gn, gc, gl⟩ at_ = clipT (v + X) by rw [HM.out, if_pos rfl, HX.out])
    go_wp2_with fail
    refine (rAdd_any v X hv HCV.out u1.w).mono ?_
    rintro e _ ⟨rfl, rfl⟩
    obtain ⟨Y, hY⟩ : ∃ y, clipT (v + X) = y := ⟨_, rfl⟩
    rw [hY]
    have HY := hid hY
    clear hY
    go_wp2_with fail
    exact bodyPost_ret (v := .int .i64 Y) (by simp [results, Try.results82, go_sem]) rfl ⟨by rw [hmm.out, HY.out], WV.out u1⟩
  · have d3 : (gm == 3) = false := beq_eq_false_iff_ne.2 h3
    have hmm := hid (show madeV v ⟨gm, gf, gt, ge, ga, gn, gc, gl⟩ at_ = X by rw [HM.out, if_neg h3, HX.out])
    go_wp2_with fail
    exact bodyPost_ret (v := .int .i64 X) (by simp [results, Try.results82, go_sem]) rfl ⟨by rw [hmm.out], WV.out u1⟩
end Go.Proofs.Ytbppajenihjfhaa
/- Gestures: lists of gestures, plainly. -/
namespace Go.Proofs.Ytbppajenihjfhaa
open Go.RowKit
open Go.Lib (hid)

def Ge.zero : Ge := ⟨0, 0, 0, 0, none, 0, 0, []⟩
def Ge.v' (g : Ge) : Value := .agg #[.int .i64 g.m, .int .i64 g.f, .int .i64 g.t, .int .i64 g.e, .slice g.a g.n g.c]
theorem Ge.c5 (g : Ge) : g.cs.length = 5 := rfl
/-- The i-th gesture. -/
def ge (l : List Ge) (i : Nat) : Ge := l.getD i Ge.zero
theorem ge_eq {l : List Ge} {i : Nat} (h : i < l.length) : l[i] = ge l i := by simp [ge, h]
theorem ge_mem {l : List Ge} {i : Nat} (h : i < l.length) : ge l i ∈ l := by rw [← ge_eq h]; exact List.getElem_mem h
theorem Ge.At.below {g : Ge} {w w' : World} (h : g.At w) (hB : Below w.heap.size w w') : g.At w' := ⟨h.len, h.le, h.rd.below hB⟩
/-- A list of gestures lies in the world. -/
structure Ges (w : World) (a : Option Addr) (l : List Ge) : Prop where
  rd : Rd w a (l.flatMap Ge.cs)
  at_ : ∀ i, i < l.length → (ge l i).At w
theorem Ges.below {w w' : World} {a : Option Addr} {l : List Ge} (h : Ges w a l) (hB : Below w.heap.size w w') : Ges w' a l := ⟨h.rd.below hB, fun i hi => (h.at_ i hi).below hB⟩
theorem after_ges {w : World} {a : Option Addr} {l : List Ge} (h : Ges w a l) : ∀ v : After w, Ges v.w a l := fun v => h.below v.2
theorem upg {V V2 : World} (hB : Below V.heap.size V V2) {a : Option Addr} {l : List Ge} (h : ∀ v : After V, Ges v.w a l) : ∀ v : After V2, Ges v.w a l := fun v => h (v.up hB)
/-- A cell of a row of gestures. -/
theorem ge_cell {V : World} {b off : Nat} {l : List Ge} (h : ∀ v : After V, Rd v.w (some ⟨b, off, none⟩) (l.flatMap Ge.cs)) {j : Nat} (hj : j < l.length) (i : Nat) (hi : i < 5) {u : Value} (hu : ((ge l j).cs)[i]? = some u)
    {o : Nat} (ho : o = off + (j * 5 + i)) : ∀ v : After V, v.w.cell? ⟨b, o, none⟩ = some u :=
  row_cell Ge.c5 h hj i hi (by rw [ge_eq hj]; exact hu) ho
/-- Is a gesture valid? -/
def geB (g : Ge) : Bool := decide (1 ≤ g.m ∧ g.m ≤ 3 ∧ 0 ≤ g.f ∧ g.f < g.t ∧ g.t ≤ g.e ∧ g.e ≤ 1099511627776 ∧ (g.m = 2 ∨ g.e = g.t) ∧ 0 < g.l.length ∧ chkK g.l = 0)
theorem geB_iff (g : Ge) : geB g = true ↔ 1 ≤ g.m ∧ g.m ≤ 3 ∧ 0 ≤ g.f ∧ g.f < g.t ∧ g.t ≤ g.e ∧ g.e ≤ 1099511627776 ∧ (g.m = 2 ∨ g.e = g.t) ∧ 0 < g.l.length ∧ chkK g.l = 0 := decide_eq_true_iff
theorem geB_not {g : Ge} (h : ¬ (1 ≤ g.m ∧ g.m ≤ 3 ∧ 0 ≤ g.f ∧ g.f < g.t ∧ g.t ≤ g.e ∧ g.e ≤ 1099511627776 ∧ (g.m = 2 ∨ g.e = g.t) ∧ 0 < g.l.length ∧ chkK g.l = 0)) : geB g = false := decide_eq_false h
theorem geB_ok {g : Ge} (h : geB g = true) : g.Ok := by
  have := (geB_iff g).1 h
  unfold Ge.Ok
  omega
def PreG (l : List Ge) (j : Nat) : Prop := ∀ i, i < j → geB (ge l i) = true
theorem PreG.next {l : List Ge} {j : Nat} (h : PreG l j) (h1 : geB (ge l j) = true) : PreG l (j + 1) := fun i hi => by
  by_cases he : i = j
  · subst he; exact h1
  · exact h i (by omega)
def gesB (l : List Ge) : Bool := decide (l.length ≤ 64) && (List.range l.length).all fun i => geB (ge l i)
theorem gesB_iff (l : List Ge) : gesB l = true ↔ l.length ≤ 64 ∧ PreG l l.length := by
  unfold gesB PreG
  simp only [Bool.and_eq_true, decide_eq_true_eq, List.all_eq_true, List.mem_range]
/-- What Check answers. -/
def chkG (l : List Ge) : Int := if gesB l = true then 0 else 120
theorem chkG_ok {l : List Ge} (h : gesB l = true) : chkG l = 0 := if_pos h
theorem chkG_no {l : List Ge} (h : ¬ gesB l = true) : chkG l = 120 := if_neg h
theorem chkG_good {l : List Ge} (h : chkG l = 0) : gesB l = true := by
  unfold chkG at h
  split at h
  · assumption
  · simp at h
theorem chkG_bad {l : List Ge} (h : ¬ chkG l = 0) : chkG l = 120 := chkG_no (fun h2 => h (chkG_ok h2))
theorem not_ges {l : List Ge} {j : Nat} (hj : j < l.length) (h : geB (ge l j) = false) : chkG l = 120 :=
  chkG_no fun hv => by
    have := ((gesB_iff l).1 hv).2 j hj
    rw [h] at this
    cases this
theorem many_ges {l : List Ge} (h : 64 < l.length) : chkG l = 120 :=
  chkG_no fun hv => by
    have := ((gesB_iff l).1 hv).1
    omega
theorem ges_at {l : List Ge} (h : chkG l = 0) {i : Nat} (hi : i < l.length) : geB (ge l i) = true := ((gesB_iff l).1 (chkG_good h)).2 i hi
theorem ges_len {l : List Ge} (h : chkG l = 0) : l.length ≤ 64 := ((gesB_iff l).1 (chkG_good h)).1
/-- What the first j gestures make of a value. -/
def allJ (v : Int) (l : List Ge) (at_ : Int) (j : Nat) : Int := (l.take j).foldl (fun v g => madeV v g at_) v
def allV (v : Int) (l : List Ge) (at_ : Int) : Int := l.foldl (fun v g => madeV v g at_) v
theorem allJ_zero (v : Int) (l : List Ge) (at_ : Int) : allJ v l at_ 0 = v := rfl
theorem allJ_next (v : Int) {l : List Ge} (at_ : Int) {j : Nat} (h : j < l.length) : allJ v l at_ (j + 1) = madeV (allJ v l at_ j) (ge l j) at_ := by
  unfold allJ
  rw [List.take_succ_eq_append_getElem h, List.foldl_append, ge_eq h]
  rfl
theorem allJ_all (v : Int) (l : List Ge) (at_ : Int) : allJ v l at_ l.length = allV v l at_ := by unfold allJ allV; rw [List.take_length]
def R64 (v : Int) : Prop := -9223372036854775808 ≤ v ∧ v ≤ 9223372036854775807
theorem madeV_rng {v : Int} (h : R64 v) (g : Ge) (at_ : Int) : R64 (madeV v g at_) := by
  unfold R64 at *
  unfold madeV
  split
  · exact h
  · split
    · have := clip_rng (v + kvV g.l (if at_ < g.t - 1 then at_ else g.t - 1)); omega
    · have := kvV_rng g.l (if at_ < g.t - 1 then at_ else g.t - 1); omega
theorem allV_rng {v : Int} (h : R64 v) (l : List Ge) (at_ : Int) : R64 (allV v l at_) := by
  unfold allV
  induction l generalizing v with
  | nil => exact h
  | cons g l ih => exact ih (madeV_rng h g at_)
theorem allJ_rng {v : Int} (h : R64 v) (l : List Ge) (at_ : Int) (j : Nat) : R64 (allJ v l at_ j) := allV_rng h (l.take j) at_
end Go.Proofs.Ytbppajenihjfhaa
/- Gestures: All. -/
namespace Go.Proofs.Ytbppajenihjfhaa
open Go.RowKit
open Go.Lib (hid)

theorem Ges.addr {w : World} {a : Option Addr} {l : List Ge} (h : Ges w a l) (hn : 0 < l.length) : ∃ b off, a = some ⟨b, off, none⟩ ∧ b < w.heap.size :=
  h.rd.addr (by rw [flat_len Ge.cs 5 Ge.c5]; omega)
def ALL (l : List Ge) (n : Nat) (V : World) (v0 at_ : Int) (v i : Value) (wr : World) : Prop := ∃ (j : Nat) (z : After V) (x : Int), j ≤ n ∧ i = .int .i64 j ∧ v = .int .i64 x ∧ wr = z.w ∧ Hid (x = allJ v0 l at_ j)
set_option maxRecDepth 100000 in
set_option maxHeartbeats 4000000 in
theorem rAll_any (l : List Ge) (nn : Nat) (hnn : l.length = nn) (a : Option Addr) (c : Nat) (v at_ : Int) (hv : R64 v) (w : World) (hn : nn ≤ 9223372036854775807) (hr : Ges w a l) (hc : chkG l = 0) :
    Calls Try.prog 59 #[.int .i64 v, .slice a nn c, .int .i64 at_] w fun e w' => e = .returned (.int .i64 (allV v l at_)) ∧ Below w.heap.size w w' := by
  have HN := hid hnn; have HR := hid (after_ges hr); have HRD := hid (fun v : After w => (HR.out v).rd)
  clear hnn hr
  have HC := hid hc; have HV := hid hv
  clear hc hv
  go_enter Try.func59, Try.ntmps59
  go_wp2_with fail
  go_loopw [0, 7] (fun x i wr => ALL l nn w v at_ x i wr) (fun _ i _ => nn - (intOf i).toNat)
  case atStart => exact ⟨0, After.here w, v, by omega, rfl, rfl, rfl, hid rfl⟩
  case round =>
    obtain ⟨j, z, x, hj, rfl, rfl, rfl, hx⟩ := hrel
    by_cases hlt' : j < nn
    case neg =>
      have d1 : decide ((j : Int) < (nn : Int)) = false := decide_eq_false (by omega)
      have d1' : decide (j < nn) = false := decide_eq_false (by omega)
      go_wp2_with fail
      exact bodyPost_ret (v := .int .i64 x) (by simp [results, Try.results59, go_sem]) rfl ⟨by rw [hx.out, show j = l.length by rw [HN.out]; omega, allJ_all], z.2⟩
    have hlt : j < l.length := by rw [HN.out]; exact hlt'
    have d1 : decide ((j : Int) < (nn : Int)) = true := decide_eq_true (by omega)
    have d1' : decide (j < nn) = true := decide_eq_true (by omega)
    have hjj : (j : Int) < (nn : Int) := by omega
    obtain ⟨b, off, rfl, hb⟩ := (HR.out z).addr (by omega)
    have hat := (HR.out z).at_ j hlt
    have hok := geB_ok (ges_at HC.out hlt)
    obtain ⟨⟨gm, gf, gt, ge, ga, gn, gc, gl⟩, hg⟩ : ∃ t, ge l j = t := ⟨_, rfl⟩
    have g0 : ∀ v : After w, v.w.cell? ⟨b, off + j * 5, none⟩ = some (.int .i64 gm) := ge_cell HRD.out (j := j) (hlt) 0 (by decide) (by rw [hg]; rfl) rfl
    have g1 : ∀ v : After w, v.w.cell? ⟨b, off + j * 5 + 1, none⟩ = some (.int .i64 gf) := ge_cell HRD.out (j := j) (hlt) 1 (by decide) (by rw [hg]; rfl) (by omega)
    have g2 : ∀ v : After w, v.w.cell? ⟨b, off + j * 5 + 2, none⟩ = some (.int .i64 gt) := ge_cell HRD.out (j := j) (hlt) 2 (by decide) (by rw [hg]; rfl) (by omega)
    have g3 : ∀ v : After w, v.w.cell? ⟨b, off + j * 5 + 3, none⟩ = some (.int .i64 ge) := ge_cell HRD.out (j := j) (hlt) 3 (by decide) (by rw [hg]; rfl) (by omega)
    have g4 : ∀ v : After w, v.w.cell? ⟨b, off + j * 5 + 4, none⟩ = some (.slice ga gn gc) := ge_cell HRD.out (j := j) (hlt) 4 (by decide) (by rw [hg]; rfl) (by omega)
    rw [hg] at hat hok
    have Hg := hid hg; clear hg
    have k0 := g0 z
    have k1 := g1 z
    have k2 := g2 z
    have k3 := g3 z
    have k4 := g4 z
    have hxr : R64 x := by rw [hx.out]; exact allJ_rng HV.out l at_ j
    have HXR := hid hxr; have HAT := hid hat; have HOK := hid hok
    clear hxr hat hok
    go_wp2_with fail
    refine (met (rMade_any x at_ HXR.out ⟨gm, gf, gt, ge, ga, gn, gc, gl⟩ z.w HAT.out HOK.out)).mono ?_
    rintro e _ ⟨rfl, u1, rfl⟩
    obtain ⟨y, hy⟩ : ∃ y, madeV x ⟨gm, gf, gt, ge, ga, gn, gc, gl⟩ at_ = y := ⟨_, rfl⟩
    rw [hy]
    have HY := hid hy
    clear hy k0 k1 k2 k3 k4
    go_wp2_with fail
    go_roundw
    case rel => exact ⟨j + 1, u1, y, by omega, by go_num, rfl, rfl, hid (by rw [allJ_next v at_ hlt, ← hx.out, Hg.out, HY.out])⟩
    case measure => first | (simp [intOf]; done) | (simp [intOf]; omega)
end Go.Proofs.Ytbppajenihjfhaa
/- Gestures: are there few? -/
namespace Go.Proofs.Ytbppajenihjfhaa
open Go.RowKit
open Go.Lib (hid)

/-- How many knots the first j gestures have. -/
def sumK (l : List Ge) : Nat → Int
  | 0 => 0
  | j + 1 => sumK l j + ((ge l j).n : Int)
/-- Are there few knots? -/
def fewB (l : List Ge) : Bool := decide (l.length ≤ 70) && decide (IntKind.i64.wrap (sumK l l.length) ≤ 400)
theorem fewB_no {l : List Ge} (h : ¬ l.length ≤ 70) : fewB l = false := by unfold fewB; rw [decide_eq_false h]; rfl
theorem fewB_yes {l : List Ge} (h : l.length ≤ 70) : fewB l = decide (IntKind.i64.wrap (sumK l l.length) ≤ 400) := by unfold fewB; rw [decide_eq_true h]; rfl
def FWG (l : List Ge) (n : Nat) (V : World) (s i : Value) (wr : World) : Prop := ∃ (j : Nat) (x : Int), j ≤ n ∧ i = .int .i64 j ∧ s = .int .i64 x ∧ wr = V ∧ Hid (x = IntKind.i64.wrap (sumK l j))
theorem wrap_add (x y : Int) : IntKind.i64.wrap (IntKind.i64.wrap x + y) = IntKind.i64.wrap (x + y) := by
  rw [IntKind.wrap_i64, IntKind.wrap_i64, IntKind.wrap_i64]; omega
set_option maxRecDepth 100000 in
set_option maxHeartbeats 4000000 in
theorem gfew_any (l : List Ge) (nn : Nat) (hnn : l.length = nn) (a : Option Addr) (c : Nat) (w : World) (hn : nn ≤ 9223372036854775807) (hr : Ges w a l) :
    Calls Try.prog 26 #[.slice a nn c] w fun e w' => e = .returned (.bool (fewB l)) ∧ w = w' := by
  have HN := hid hnn; have HR := hid (after_ges hr); have HRD := hid (fun v : After w => (HR.out v).rd)
  clear hnn hr
  go_enter Try.func26, Try.ntmps26
  by_cases h70 : nn ≤ 70
  case neg =>
    have d2 : decide ((70 : Int) < (nn : Int)) = true := decide_eq_true (by omega)
    have hm := hid (fewB_no (l := l) (by rw [HN.out]; exact h70))
    go_wp2_with fail
    exact bodyPost_ret (v := .bool false) (by simp [results, Try.results26, go_sem]) rfl ⟨by rw [hm.out], rfl⟩
  have d2 : decide ((70 : Int) < (nn : Int)) = false := decide_eq_false (by omega)
  go_wp2_with fail
  clear d2
  go_loopw [3, 4] (fun s i wr => FWG l nn w s i wr) (fun _ i _ => nn - (intOf i).toNat)
  case atStart => exact ⟨0, 0, by omega, rfl, rfl, rfl, hid (by rw [IntKind.wrap_i64]; rfl)⟩
  case round =>
    obtain ⟨j, x, hj, rfl, rfl, rfl, hx⟩ := hrel
    by_cases hlt' : j < nn
    case neg =>
      have d1 : decide ((j : Int) < (nn : Int)) = false := decide_eq_false (by omega)
      have d1' : decide (j < nn) = false := decide_eq_false (by omega)
      go_wp2_with fail
      exact bodyPost_ret (v := .bool (decide (x ≤ 400))) (by simp [results, Try.results26, go_sem]) rfl ⟨by rw [fewB_yes (by rw [HN.out]; exact h70), hx.out, show j = l.length by rw [HN.out]; omega], rfl⟩
    have hlt : j < l.length := by rw [HN.out]; exact hlt'
    have d1 : decide ((j : Int) < (nn : Int)) = true := decide_eq_true (by omega)
    have d1' : decide (j < nn) = true := decide_eq_true (by omega)
    have hjj : (j : Int) < (nn : Int) := by omega
    obtain ⟨b, off, rfl, hb⟩ := (HR.out (After.here _)).addr (by omega)
    obtain ⟨⟨gm, gf, gt, ge, ga, gn, gc, gl⟩, hg⟩ : ∃ t, ge l j = t := ⟨_, rfl⟩
    have g4 : ∀ v : After wr, v.w.cell? ⟨b, off + j * 5 + 4, none⟩ = some (.slice ga gn gc) := ge_cell HRD.out (j := j) (hlt) 4 (by decide) (by rw [hg]; rfl) (by omega)
    have Hg := hid hg; clear hg
    have k4 : wr.cell? ⟨b, off + j * 5 + 4, none⟩ = some (.slice ga gn gc) := g4 (After.here wr)
    clear g4
    obtain ⟨y, hy⟩ : ∃ y, IntKind.i64.wrap (x + (gn : Int)) = y := ⟨_, rfl⟩
    have HY := hid hy
    go_wp2_with fail
    clear hy k4
    go_roundw
    case rel => exact ⟨j + 1, y, by omega, by go_num, rfl, rfl, hid (by rw [← HY.out, hx.out, wrap_add, sumK, Hg.out])⟩
    case measure => first | (simp [intOf]; done) | (simp [intOf]; omega)
end Go.Proofs.Ytbppajenihjfhaa
/- Gestures: the laws, plainly. -/
namespace Go.Proofs.Ytbppajenihjfhaa
open Go.RowKit
open Go.Lib (hid)

theorem allV_split (v : Int) (l : List Ge) (at_ : Int) (k : Nat) : allV (allV v (l.take k) at_) (l.drop k) at_ = allV v l at_ := by
  unfold allV
  rw [← List.foldl_append, List.take_append_drop]
/-- Does a gesture gHas a sample? -/
def gHas (g : Ge) (at_ : Int) : Bool := decide (g.f ≤ at_) && decide (at_ < g.e)
theorem gHas_iff (g : Ge) (at_ : Int) : gHas g at_ = true ↔ g.f ≤ at_ ∧ at_ < g.e := by
  unfold gHas; rw [Bool.and_eq_true, decide_eq_true_eq, decide_eq_true_eq]
theorem madeV_far {v : Int} {g : Ge} {at_ : Int} (h : gHas g at_ = false) : madeV v g at_ = v := by
  have : ¬ (g.f ≤ at_ ∧ at_ < g.e) := fun h2 => by rw [(gHas_iff _ _).2 h2] at h; cases h
  exact if_pos (by omega)
theorem allJ_far {v : Int} {l : List Ge} {at_ : Int} {j : Nat} (hj : j ≤ l.length) (h : ∀ i, i < j → gHas (ge l i) at_ = false) : allJ v l at_ j = v := by
  induction j with
  | zero => rfl
  | succ j ih => rw [allJ_next v at_ (by omega), ih (by omega) (fun i hi => h i (by omega)), madeV_far (h j (by omega))]
theorem allV_far {v : Int} {l : List Ge} {at_ : Int} (h : ∀ i, i < l.length → gHas (ge l i) at_ = false) : allV v l at_ = v := by
  rw [← allJ_all]; exact allJ_far (Nat.le_refl _) h
/-- Is a sample covered by a touch or a latch among the first j? -/
def covB (g : Ge) (at_ : Int) : Bool := !(g.m == 3) && (decide (g.f ≤ at_) && decide (at_ < g.e))
def covJ (l : List Ge) (at_ : Int) : Nat → Bool
  | 0 => false
  | j + 1 => covJ l at_ j || covB (ge l j) at_
theorem allJ_cov {v w : Int} {l : List Ge} {at_ : Int} {j : Nat} (hj : j ≤ l.length) (h : covJ l at_ j = true) : allJ v l at_ j = allJ w l at_ j := by
  induction j with
  | zero => cases h
  | succ j ih =>
    rw [allJ_next v at_ (by omega), allJ_next w at_ (by omega)]
    by_cases hc : covJ l at_ j = true
    · rw [ih (by omega) hc]
    · have h2 : covB (ge l j) at_ = true := by
        rw [covJ, Bool.or_eq_true] at h
        exact h.resolve_left hc
      unfold covB at h2
      simp only [Bool.and_eq_true, decide_eq_true_eq, Bool.not_eq_true', beq_eq_false_iff_ne] at h2
      have hn : ¬ (at_ < (ge l j).f ∨ (ge l j).e ≤ at_) := by omega
      unfold madeV
      simp only [if_neg hn, if_neg h2.1]
theorem allV_cov {v w : Int} {l : List Ge} {at_ : Int} (h : covJ l at_ l.length = true) : allV v l at_ = allV w l at_ := by
  rw [← allJ_all, ← allJ_all]; exact allJ_cov (Nat.le_refl _) h
theorem ge_take {l : List Ge} {k i : Nat} (h : i < k) : ge (l.take k) i = ge l i := by
  unfold ge; simp [List.getD_eq_getElem?_getD, h]
theorem ge_drop (l : List Ge) (k i : Nat) : ge (l.drop k) i = ge l (k + i) := by
  unfold ge; simp [List.getD_eq_getElem?_getD]
theorem chkG_take {l : List Ge} (h : chkG l = 0) (k : Nat) : chkG (l.take k) = 0 := by
  have := (gesB_iff l).1 (chkG_good h)
  refine chkG_ok ((gesB_iff _).2 ⟨by rw [List.length_take]; omega, fun i hi => ?_⟩)
  rw [List.length_take] at hi
  rw [ge_take (by omega)]
  exact this.2 i (by omega)
theorem chkG_drop {l : List Ge} (h : chkG l = 0) (k : Nat) : chkG (l.drop k) = 0 := by
  have := (gesB_iff l).1 (chkG_good h)
  refine chkG_ok ((gesB_iff _).2 ⟨by rw [List.length_drop]; omega, fun i hi => ?_⟩)
  rw [List.length_drop] at hi
  rw [ge_drop]
  exact this.2 _ (by omega)
/-- A curve of one knot that holds. -/
def kn1 (x v : Int) : List Kn := [⟨x, v, 1, 0, 0⟩]
theorem chk_kn1 {x v : Int} (h0 : 0 ≤ x) (h1 : x ≤ 1099511627776) (h2 : -2147483648 ≤ v) (h3 : v ≤ 2147483647) : chkK (kn1 x v) = 0 := by
  refine chkK_ok ((crvB_iff _).2 ⟨(valB_iff _ _).2 ⟨by simp [kn1], fun i hi => ?_⟩, fun i hi => ?_⟩)
  · have : i = 0 := by simp [kn1] at hi; omega
    subst this
    exact ⟨(knOk_iff _ _).2 (by simp [kn1, kn]; omega), fun h => absurd h (by omega)⟩
  · simp [kn1] at hi
theorem kvV_kn1 {x v : Int} (h0 : 0 ≤ x) (h1 : x ≤ 1099511627776) (h2 : -2147483648 ≤ v) (h3 : v ≤ 2147483647) (p : Int) : kvV (kn1 x v) p = v := by
  have hc := chk_kn1 h0 h1 h2 h3
  have hv := ((crvB_iff _).1 (chkK_good hc)).1
  unfold kvV
  rw [if_pos hc]
  have e := ends hv (show 0 < (kn1 x v).length by simp [kn1]) p
  have ek : (kn (kn1 x v) 0) = ⟨x, v, 1, 0, 0⟩ := rfl
  have el : (kn1 x v).length - 1 = 0 := rfl
  rw [el, ek] at e
  rcases Int.le_total p x with h | h
  · exact e.1 h
  · exact e.2 h
/-- A gesture of one value. -/
def geC (m x y e v : Int) (a : Option Addr) (n c : Nat) : Ge := ⟨m, x, y, e, a, n, c, kn1 x v⟩
theorem geB_geC {m x y e v : Int} {a : Option Addr} {n c : Nat} (hm : 1 ≤ m ∧ m ≤ 3) (h0 : 0 ≤ x) (h1 : x < y) (h2 : y ≤ e) (h3 : e ≤ 1099511627776) (h4 : m = 2 ∨ e = y) (h5 : -2147483648 ≤ v) (h6 : v ≤ 2147483647) : geB (geC m x y e v a n c) = true :=
  (geB_iff _).2 ⟨hm.1, hm.2, h0, h1, h2, h3, h4, by simp [geC, kn1], chk_kn1 h0 (by omega) h5 h6⟩
theorem madeV_geC {m x y e v : Int} {a : Option Addr} {n c : Nat} (h0 : 0 ≤ x) (h1 : x ≤ 1099511627776) (h5 : -2147483648 ≤ v) (h6 : v ≤ 2147483647) (b at_ : Int) :
    madeV b (geC m x y e v a n c) at_ = if at_ < x ∨ e ≤ at_ then b else if m = 3 then clipT (b + v) else v := by
  unfold madeV geC
  dsimp only
  rw [kvV_kn1 h0 h1 h5 h6]
/-- Two trims are one. -/
theorem trims {x y b u v : Int} {a1 a2 a3 : Option Addr} {n1 n2 n3 c1 c2 c3 : Nat} (h0 : 0 ≤ x) (h1 : x ≤ 1099511627776) (hb : -536870912 ≤ b ∧ b ≤ 536870912) (hu : -536870912 ≤ u ∧ u ≤ 536870912) (hv : -536870912 ≤ v ∧ v ≤ 536870912) (at_ : Int) :
    allV b [geC 3 x y y u a1 n1 c1, geC 3 x y y v a2 n2 c2] at_ = (if x ≤ at_ ∧ at_ < y then b + u + v else b) ∧ allV b [geC 3 x y y (u + v) a3 n3 c3] at_ = (if x ≤ at_ ∧ at_ < y then b + u + v else b) := by
  unfold allV
  simp only [List.foldl_cons, List.foldl_nil]
  rw [madeV_geC h0 h1 (by omega) (by omega), madeV_geC h0 h1 (by omega) (by omega), madeV_geC h0 h1 (by omega) (by omega)]
  by_cases h : x ≤ at_ ∧ at_ < y
  · have hn : ¬ (at_ < x ∨ y ≤ at_) := by omega
    simp only [if_pos h, if_neg hn, if_pos]
    rw [clip_in (x := b + u) (by omega) (by omega), clip_in (x := b + u + v) (by omega) (by omega), clip_in (x := b + (u + v)) (by omega) (by omega)]
    omega
  · have hn : at_ < x ∨ y ≤ at_ := by omega
    simp only [if_neg h, if_pos hn, and_self]
/-- What a latch holds. -/
theorem held {g : Ge} (ho : geB g = true) (hm : g.m = 2) (b at_ : Int) : allV b [g] g.e = b ∧ (at_ < g.t - 1 ∨ g.e ≤ at_ ∨ allV b [g] at_ = allV b [g] (g.t - 1)) := by
  have := (geB_iff g).1 ho
  unfold allV
  simp only [List.foldl_cons, List.foldl_nil]
  refine ⟨if_pos (.inr (Int.le_refl _)), ?_⟩
  by_cases h1 : at_ < g.t - 1
  · exact .inl h1
  · by_cases h2 : g.e ≤ at_
    · exact .inr (.inl h2)
    · refine .inr (.inr ?_)
      unfold madeV
      have e1 : (if at_ < g.t - 1 then at_ else g.t - 1) = g.t - 1 := if_neg h1
      have e2 : (if g.t - 1 < g.t - 1 then g.t - 1 else g.t - 1) = g.t - 1 := ite_self _
      rw [e1, e2, if_neg (by omega), if_neg (by omega), if_neg (by omega)]
/-- The sample of the i-th value. -/
def satA (fr : Int) (i : Nat) : Int := if fr + (i : Int) ≤ 9223372036854775807 then fr + (i : Int) else 9223372036854775807
def vgJ (b : List Int) (fr : Int) (l : List Ge) (j : Nat) : List Int := (List.range j).map fun i => allV (b.getD i 0) l (satA fr i)
theorem vgJ_next (b : List Int) (fr : Int) (l : List Ge) (j : Nat) : vgJ b fr l (j + 1) = vgJ b fr l j ++ [allV (b.getD j 0) l (satA fr j)] := by simp [vgJ, List.range_succ]
theorem vgJ_len (b : List Int) (fr : Int) (l : List Ge) (j : Nat) : (vgJ b fr l j).length = j := by simp [vgJ]
def vgE (b : List Int) (l : List Ge) : Int := if ¬ chkG l = 0 then 120 else if 65536 < (b.length : Int) then 2 else 0
def vgV (b : List Int) (fr : Int) (l : List Ge) : List Int := if vgE b l = 0 then vgJ b fr l b.length else []
theorem vgV_no {b : List Int} {fr : Int} {l : List Ge} (h : ¬ vgE b l = 0) : vgV b fr l = [] := if_neg h
theorem vgV_ok {b : List Int} {fr : Int} {l : List Ge} (h : vgE b l = 0) : vgV b fr l = vgJ b fr l b.length := if_pos h
/-- What Value answers. -/
def vgv (b : Int) (l : List Ge) (at_ : Int) : Int := if chkG l = 0 then allV b l at_ else 0
theorem vgv_ok {b : Int} {l : List Ge} {at_ : Int} (h : chkG l = 0) : vgv b l at_ = allV b l at_ := if_pos h
theorem vgv_no {b : Int} {l : List Ge} {at_ : Int} (h : ¬ chkG l = 0) : vgv b l at_ = 0 := if_neg h
end Go.Proofs.Ytbppajenihjfhaa
