/- Tick and the reference's Tick. -/
import Derived.Test.YtbppajenihjfhaaK
import Derived.Test.YtbppajenihjfhaaP4
import Derived.IntWalk
namespace Go.Proofs.Ytbppajenihjfhaa
open Go.RowKit
open Go.Lib (hid)

set_option maxRecDepth 100000 in
set_option maxHeartbeats 4000000 in
theorem Tick_any (m : List Tp) (nn : Nat) (hnn : m.length = nn) (a : Option Addr) (c : Nat) (pos : Int) (hn : nn ≤ 9223372036854775807) (w : World) (hr : Rd w a (m.flatMap Tp.c)) :
    Calls Try.prog 41 #[.slice a nn c, .int .i64 pos] w fun e w' => e = .returned (.tuple #[.int .i64 (tkV m pos), .int .i64 (tkE m pos)]) ∧ Below w.heap.size w w' := by
  have HN := hid hnn
  have HR := hid hr
  clear hr hnn
  go_enter Try.func41, Try.ntmps41
  go_wp2_with fail
  obtain ⟨V, hV⟩ : ∃ V, V = ((w.alloc (.cells #[.slice a nn c] 48)).alloc (.cells #[.int .i64 pos] 3)) := ⟨_, rfl⟩
  have s0 : ∀ v : After V, v.w.cell? ⟨w.heap.size, 0, none⟩ = some (.slice a nn c) := after_cell (by rw [hV]; first | (simp; done) | omega | (simp; omega)) (by rw [hV]; (repeat (first | with_reducible assumption | exact bn (by first | (simp; done) | omega | (simp; omega)) rfl | refine bo (by first | (simp; done) | omega | (simp; omega)) ?_)))
  have fs0 : ∀ v : After V, v.w.frozen? ⟨w.heap.size, 0, none⟩ = false := after_frozen (by rw [hV]; first | (simp; done) | omega | (simp; omega)) (by rw [hV]; (repeat (first | exact fn (by first | (simp; done) | omega | (simp; omega)) | refine fo (by first | (simp; done) | omega | (simp; omega)) ?_)))
  have zs : ∀ v : After V, w.heap.size < v.w.heap.size := after_size (by rw [hV]; first | (simp; done) | omega | (simp; omega))
  have p0 : ∀ v : After V, v.w.cell? ⟨w.heap.size + 1, 0, none⟩ = some (.int .i64 pos) := after_cell (by rw [hV]; first | (simp; done) | omega | (simp; omega)) (by rw [hV]; (repeat (first | with_reducible assumption | exact bn (by first | (simp; done) | omega | (simp; omega)) rfl | refine bo (by first | (simp; done) | omega | (simp; omega)) ?_)))
  have fp0 : ∀ v : After V, v.w.frozen? ⟨w.heap.size + 1, 0, none⟩ = false := after_frozen (by rw [hV]; first | (simp; done) | omega | (simp; omega)) (by rw [hV]; (repeat (first | exact fn (by first | (simp; done) | omega | (simp; omega)) | refine fo (by first | (simp; done) | omega | (simp; omega)) ?_)))
  have zp : ∀ v : After V, w.heap.size + 1 < v.w.heap.size := after_size (by rw [hV]; first | (simp; done) | omega | (simp; omega))
  have hwV : Below w.heap.size w V := by rw [hV]; exact (by repeat (first | exact Below.refl _ _ | assumption | refine b_then ?_ (by assumption) | refine b_alloc ?_ _ | refine b_drewN ?_ _ | refine b_drew ?_ | refine b_set ?_ (by omega) _ | refine b_set ?_ (by simp) _))
  have WV := hid (after_below hwV)
  rw [← hV]
  obtain ⟨u0, hu⟩ : ∃ u : After V, u.w = V := ⟨After.here V, rfl⟩
  rw [← hu]
  clear hu hV
  refine (met (tcheck_any m nn HN.out a c _ hn (HR.out.below (WV.out u0)))).mono ?_
  rintro e _ ⟨rfl, u1, rfl⟩
  by_cases hg : goodB m = true
  case neg =>
    have HE := hid (show tkE m pos = 90 by simp [tkE, hg])
    have HV := hid (show tkV m pos = 0 by simp [tkV, HE.out])
    rw [chkT_90 hg]
    clear hg
    go_wp2_with fail
    exact bodyPost_ret (v := .tuple #[.int .i64 0, .int .i64 90]) (by simp [results, Try.results41, go_sem]) rfl ⟨by rw [HE.out, HV.out], WV.out _⟩
  rw [chkT_ok hg]
  have HG := hid hg; clear hg
  rcases h1 : decide (pos < 0) with _ | _
  case true =>
    have HE := hid (show tkE m pos = 1 by rw [tkE, if_pos HG.out, if_pos (.inl (by simpa using h1))])
    have HV := hid (show tkV m pos = 0 by simp [tkV, HE.out])
    go_wp2_with fail
    exact bodyPost_ret (v := .tuple #[.int .i64 0, .int .i64 1]) (by simp [results, Try.results41, go_sem]) rfl ⟨by rw [HE.out, HV.out], WV.out _⟩
  rcases h2 : decide (1099511627776 < pos) with _ | _
  case true =>
    have HE := hid (show tkE m pos = 1 by rw [tkE, if_pos HG.out, if_pos (.inr (by simpa using h2))])
    have HV := hid (show tkV m pos = 0 by simp [tkV, HE.out])
    go_wp2_with fail
    exact bodyPost_ret (v := .tuple #[.int .i64 0, .int .i64 1]) (by simp [results, Try.results41, go_sem]) rfl ⟨by rw [HE.out, HV.out], WV.out _⟩
  have h1' : 0 ≤ pos := by simpa using h1
  have h2' : pos ≤ 1099511627776 := by simpa using h2
  have HE := hid (show tkE m pos = 0 by rw [tkE, if_pos HG.out, if_neg (by omega)])

  go_wp2_with fail
  refine (search_any 16777216 (by omega) 65 (.pointer (some ⟨w.heap.size, 0, none⟩)) (.pointer (some ⟨w.heap.size + 1, 0, none⟩)) (fun t => decide (pos < smpT m ((t : Int) + 1)))
    (fun i j hij _ h => by have := smp_mono HG.out (a := (i : Int) + 1) (b := (j : Int) + 1) (by omega) (by omega); simp at h ⊢; omega) u1.w
    (fun i hi v => tick1_any m nn HN.out a c i pos HG.out (by omega) w.heap.size (w.heap.size + 1) v.w (HR.out.below (b_then (WV.out u1) v.2)) (s0 (u1.on v.2)) (p0 (u1.on v.2)))
    (enters_of Try.func65 (by kernel_rfl) rfl)).mono ?_
  rintro e w9 ⟨⟨r, rfl, hr1, hr2, hr3⟩, hB9⟩
  have HV := hid (show tkV m pos = r by rw [tkV, if_pos HE.out, tkT_is HG.out (first_tk HG.out h1' hr1 hr2 hr3)])
  clear hr2 hr3
  obtain ⟨u2, rfl⟩ : ∃ y9 : After V, w9 = y9.w := ⟨u1.on hB9, rfl⟩
  go_wp2_with fail
  exact bodyPost_ret (v := .tuple #[.int .i64 (r : Int), .int .i64 0]) (by simp [results, Try.results41, go_sem]) rfl ⟨by rw [HE.out, HV.out], WV.out _⟩

def TR (m : List Tp) (pos : Int) (w : World) (a b : Value) (wr : World) : Prop := ∃ (i j : Nat) (z : After w), i ≤ j ∧ j ≤ 16777216 ∧ a = .int .i64 i ∧ b = .int .i64 j ∧ wr = z.w ∧ smpT m i ≤ pos ∧ (j < 16777216 → pos < smpT m ((j : Int) + 1))
set_option maxRecDepth 100000 in
set_option maxHeartbeats 4000000 in
theorem rTick_any (m : List Tp) (nn : Nat) (hnn : m.length = nn) (a : Option Addr) (c : Nat) (pos : Int) (hn : nn ≤ 9223372036854775807) (w : World) (hr : Rd w a (m.flatMap Tp.c)) :
    Calls Try.prog 42 #[.slice a nn c, .int .i64 pos] w fun e w' => e = .returned (.tuple #[.int .i64 (tkV m pos), .int .i64 (tkE m pos)]) ∧ Below w.heap.size w w' := by
  have HN := hid hnn
  have HR := hid hr
  clear hr hnn
  go_enter Try.func42, Try.ntmps42
  go_wp2_with fail
  refine (rtcheck_any m nn HN.out a c w hn HR.out).mono ?_
  rintro e w1 ⟨rfl, hB1⟩
  by_cases hg : goodB m = true
  case neg =>
    have HE := hid (show tkE m pos = 90 by simp [tkE, hg])
    have HV := hid (show tkV m pos = 0 by simp [tkV, HE.out])
    rw [chkT_90 hg]
    clear hg
    go_wp2_with fail
    exact bodyPost_ret (v := .tuple #[.int .i64 0, .int .i64 90]) (by simp [results, Try.results42, go_sem]) rfl ⟨by rw [HE.out, HV.out], hB1⟩
  rw [chkT_ok hg]
  have HG := hid hg; clear hg
  rcases h1 : decide (pos < 0) with _ | _
  case true =>
    have HE := hid (show tkE m pos = 1 by rw [tkE, if_pos HG.out, if_pos (.inl (by simpa using h1))])
    have HV := hid (show tkV m pos = 0 by simp [tkV, HE.out])
    go_wp2_with fail
    exact bodyPost_ret (v := .tuple #[.int .i64 0, .int .i64 1]) (by simp [results, Try.results42, go_sem]) rfl ⟨by rw [HE.out, HV.out], hB1⟩
  rcases h2 : decide (1099511627776 < pos) with _ | _
  case true =>
    have HE := hid (show tkE m pos = 1 by rw [tkE, if_pos HG.out, if_pos (.inr (by simpa using h2))])
    have HV := hid (show tkV m pos = 0 by simp [tkV, HE.out])
    go_wp2_with fail
    exact bodyPost_ret (v := .tuple #[.int .i64 0, .int .i64 1]) (by simp [results, Try.results42, go_sem]) rfl ⟨by rw [HE.out, HV.out], hB1⟩
  have h1' : 0 ≤ pos := by simpa using h1
  have h2' : pos ≤ 1099511627776 := by simpa using h2
  have HE := hid (show tkE m pos = 0 by rw [tkE, if_pos HG.out, if_neg (by omega)])

  go_wp2_with fail
  go_loopw [6, 7] (fun a b wr => TR m pos w a b wr) (fun a b _ => (intOf b).toNat - (intOf a).toNat)
  case atStart => exact ⟨0, 16777216, ⟨w1, hB1⟩, by omega, by omega, rfl, rfl, rfl, by rw [show ((0 : Nat) : Int) = 0 from rfl, smp_zero HG.out]; exact h1', fun h => absurd h (by omega)⟩
  case round =>
    obtain ⟨i, j, z, hij, hj, rfl, rfl, rfl, g1, g2⟩ := hrel
    have G1 := hid g1; have G2 := hid g2; clear g1 g2
    by_cases hlt : i < j
    · have d1 : decide (i < j) = true := decide_eq_true hlt
      go_wp2_with fail
      obtain ⟨k, hk⟩ : ∃ k : Nat, k = (i + j + 1) / 2 := ⟨_, rfl⟩
      have hk' : ((i : Int) + (j : Int) + 1) / 2 = (k : Int) := by rw [hk]; omega
      have hk1 : i < k := by omega
      have hk2 : k ≤ j := by omega
      rw [hk']
      clear hk hk' d1
      refine (rAt_any m nn HN.out a c k HG.out (by omega) (by omega) _ (HR.out.below z.2)).mono ?_
      rintro e w9 ⟨rfl, hB9⟩
      obtain ⟨S, hS⟩ : ∃ x, smpT m (k : Int) = x := ⟨_, rfl⟩
      rw [hS]
      have HS := hid hS; clear hS
      by_cases hP : S ≤ pos
      · have d2 : decide (S ≤ pos) = true := decide_eq_true hP
        go_wp2_with fail
        go_roundw
        case rel => exact ⟨k, j, ⟨w9, b_then z.2 hB9⟩, by omega, hj, rfl, rfl, rfl, by rw [HS.out]; exact hP, G2.out⟩
        case measure => simp [intOf]; omega
      · have d2 : decide (S ≤ pos) = false := decide_eq_false hP
        have hw : IntKind.i64.wrap ((k : Int) - 1) = ((k - 1 : Nat) : Int) := by rw [IntWalk.i64_in _ (by omega)]; omega
        have hk3 : (k : Int) - 1 = ((k - 1 : Nat) : Int) := by omega
        go_wp2_with fail
        try rw [hk3]
        go_roundw
        case rel => exact ⟨i, k - 1, ⟨w9, b_then z.2 hB9⟩, by omega, by omega, rfl, by first | rfl | rw [hk3], rfl, G1.out, fun _ => by rw [show ((k - 1 : Nat) : Int) + 1 = k by omega, HS.out]; omega⟩
        case measure => simp [intOf]; omega
    · have d1 : decide (i < j) = false := decide_eq_false hlt
      obtain rfl : i = j := by omega
      have HV := hid (show tkV m pos = i by rw [tkV, if_pos HE.out, tkT_is HG.out ⟨hj, G1.out, G2.out⟩])
      go_wp2_with fail
      exact bodyPost_ret (v := .tuple #[.int .i64 (i : Int), .int .i64 0]) (by simp [results, Try.results42, go_sem]) rfl ⟨by rw [HE.out, HV.out], z.2⟩
end Go.Proofs.Ytbppajenihjfhaa
