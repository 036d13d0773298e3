/- sort.Search. -/
import Derived.Test.YtbppajenihjfhaaJ
import Derived.IntWalk
namespace Go.Proofs.Ytbppajenihjfhaa
open Go.RowKit
open Go.Lib (hid)

def SR (n : Nat) (P : Nat → Bool) (w : World) (a b : Value) (wr : World) : Prop := ∃ (i j : Nat) (z : After w), i ≤ j ∧ j ≤ n ∧ a = .int .i64 i ∧ b = .int .i64 j ∧ wr = z.w ∧ (∀ x, x < i → P x = false) ∧ (∀ x, j ≤ x → x < n → P x = true)

set_option maxRecDepth 100000 in
set_option maxHeartbeats 4000000 in
theorem search_any (n : Nat) (hn : n ≤ 1152921504606846976) (F : Nat) (c1 c2 : Value) (P : Nat → Bool) (hm : ∀ i j, i ≤ j → j < n → P i = true → P j = true) (w : World)
    (hf : ∀ i, i < n → ∀ v : After w, Calls Try.prog F #[.int .i64 (i : Int), c1, c2] v.w fun e w' => e = .returned (.bool (P i)) ∧ Below v.w.heap.size v.w w')
    (ef : ∀ args w, (callFunc F args).run Try.prog w = .ok (.enter F args) w) :
    Calls Try.prog 64 #[.int .i64 n, .func (.func F) #[] #[c1, c2]] w fun e w' => (∃ r : Nat, e = .returned (.int .i64 r) ∧ r ≤ n ∧ (∀ x, x < r → P x = false) ∧ (∀ x, r ≤ x → x < n → P x = true)) ∧ Below w.heap.size w w' := by
  have HF := hid hf; have HM := hid hm; clear hf hm
  go_enter Try.func64, Try.ntmps64
  go_wp2_with fail
  go_loopw [5, 6] (fun a b wr => SR n P w a b wr) (fun a b _ => (intOf b).toNat - (intOf a).toNat)
  case atStart => exact ⟨0, n, After.here w, by omega, by omega, rfl, rfl, rfl, fun x h => absurd h (by omega), fun x h h2 => absurd h (by omega)⟩
  case round =>
    obtain ⟨i, j, z, hij, hj, rfl, rfl, rfl, h1, h2⟩ := hrel
    have H1 := hid h1; have H2 := hid h2; clear h1 h2
    by_cases hlt : i < j
    · have d1 : decide (i < j) = true := decide_eq_true hlt
      go_wp2_with fail
      obtain ⟨k, hk⟩ : ∃ k : Nat, k = (i + j) / 2 := ⟨_, rfl⟩
      have hk' : ((i : Int) + (j : Int)) / 2 = (k : Int) := by rw [hk]; omega
      have hk1 : i ≤ k := by omega
      have hk2 : k < j := by omega
      rw [hk']
      clear hk hk' d1
      refine (HF.out k (by omega) z).mono ?_
      rintro e w9 ⟨rfl, hB9⟩
      rcases hP : P k with _ | _
      · have HP := hid hP; clear hP
        go_wp2_with fail
        go_roundw
        case rel => exact ⟨k + 1, j, ⟨w9, b_then z.2 hB9⟩, by omega, hj, by go_num, rfl, rfl, fun x hx => by
          by_cases h : P x = true
          · have := HM.out x k (by omega) (by omega) h
            rw [HP.out] at this
            cases this
          · simpa using h, H2.out⟩
        case measure => simp [intOf]; omega
      · have HP := hid hP; clear hP
        go_wp2_with fail
        go_roundw
        case rel => exact ⟨i, k, ⟨w9, b_then z.2 hB9⟩, by omega, by omega, rfl, by go_num, rfl, H1.out, fun x hx hn => HM.out k x hx hn HP.out⟩
        case measure => simp [intOf]; omega
    · have d1 : decide (i < j) = false := decide_eq_false hlt
      go_wp2_with fail
      exact bodyPost_ret (v := .int .i64 (i : Int)) (by simp [results, Try.results64, go_sem]) rfl ⟨⟨i, rfl, by omega, H1.out, fun x hx hn => H2.out x (by omega) hn⟩, z.2⟩

set_option maxRecDepth 100000 in
set_option maxHeartbeats 4000000 in
theorem tick1_any (m : List Tp) (nn : Nat) (hnn : m.length = nn) (a : Option Addr) (c : Nat) (t : Nat) (pos : Int) (hg : goodB m = true) (ht : t ≤ 16777216) (b1 b2 : Nat) (w : World) (hr : Rd w a (m.flatMap Tp.c))
    (h1 : w.cell? ⟨b1, 0, none⟩ = some (.slice a nn c)) (h2 : w.cell? ⟨b2, 0, none⟩ = some (.int .i64 pos)) :
    Calls Try.prog 65 #[.int .i64 t, .pointer (some ⟨b1, 0, none⟩), .pointer (some ⟨b2, 0, none⟩)] w fun e w' => e = .returned (.bool (decide (pos < smpT m ((t : Int) + 1)))) ∧ Below w.heap.size w w' := by
  have n1 : ∀ v : After w, v.w.cell? ⟨b1, 0, none⟩ = some (.slice a nn c) := after_cell (cell_lt h1) h1
  have n2 : ∀ v : After w, v.w.cell? ⟨b2, 0, none⟩ = some (.int .i64 pos) := after_cell (cell_lt h2) h2
  have RQ := hid (after_rd hr)
  have g61 : ∀ v : After w, Calls Try.prog 61 #[.slice a nn c, .int .i64 ((t : Int) + 1)] v.w fun e w'' => e = .returned (.int .i64 (smpT m ((t : Int) + 1))) ∧ ∃ u : After w, w'' = u.w := fun v => met (at_smp m nn hnn a c _ (by omega) (by omega) hg v.w (RQ.out v))
  obtain ⟨S, hS⟩ : ∃ x, smpT m ((t : Int) + 1) = x := ⟨_, rfl⟩
  rw [hS] at g61 ⊢
  clear hS hnn hr h1 h2
  have w1 : IntKind.i64.wrap ((t : Int) + 1) = (t : Int) + 1 := IntWalk.i64_in _ (by omega)
  go_enter Try.func65, Try.ntmps65
  go_upto_region 1 with fail
  obtain ⟨u, hu⟩ : ∃ u : After w, u.w = w := ⟨After.here w, rfl⟩
  rw [← hu]
  clear hu
  refine wp_region_since (by kernel_rfl) (by kernel_rfl) ?_
  repeat (go_big_quiet_step ((go_at_call 61; exact g61 _)))
  refine wpQuiet_nil ?_
  intro u7
  go_wp2_with fail
  exact bodyPost_ret (v := .bool (decide (pos < S))) (by simp [results, Try.results65, go_sem]) rfl ⟨rfl, u7.2⟩
end Go.Proofs.Ytbppajenihjfhaa
