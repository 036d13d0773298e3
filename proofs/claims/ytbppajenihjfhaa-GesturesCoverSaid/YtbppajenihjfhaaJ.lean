/- Sample, and the reference's At and Sample. -/
import Derived.Test.YtbppajenihjfhaaI
import Derived.IntWalk
namespace Go.Proofs.Ytbppajenihjfhaa
open Go.RowKit
open Go.Lib (hid)

def RA (m : List Tp) (w : World) (tick : Int) (pos i : Value) (wr : World) : Prop := ∃ (j : Nat) (z : After w), j < m.length ∧ i = .int .i64 j ∧ pos = .int .i64 (posAt m j) ∧ wr = z.w ∧ (tp m j).k ≤ tick

set_option maxRecDepth 100000 in
set_option maxHeartbeats 4000000 in
theorem rAt_any (m : List Tp) (nn : Nat) (hnn : m.length = nn) (a : Option Addr) (c : Nat) (tick : Int) (hg : goodB m = true) (h0 : 0 ≤ tick) (h2 : tick ≤ 33554432) (w : World) (hr : Rd w a (m.flatMap Tp.c)) :
    Calls Try.prog 62 #[.slice a nn c, .int .i64 tick] w fun e w' => e = .returned (.int .i64 (smpT m tick)) ∧ Below w.heap.size w w' := by
  have HN := hid hnn
  have h64 := len_le hg
  have hpos := len_pos hg
  rw [hnn] at h64 hpos
  obtain ⟨b, off, rfl, hb⟩ := hr.addr (by rw [flat_len Tp.c 4 Tp.c4, hnn]; omega)
  have RW := hid (after_rd hr)
  clear hr hnn
  go_enter Try.func62, Try.ntmps62
  go_wp2_with fail
  go_loopw [5, 6] (fun p i wr => RA m w tick p i wr) (fun _ i _ => nn - (intOf i).toNat)
  case atStart => exact ⟨0, After.here w, by rw [HN.out]; exact hpos, rfl, rfl, rfl, by rw [k_zero hg]; exact h0⟩
  case round =>
    obtain ⟨i, z, hi, rfl, rfl, rfl, hki⟩ := hrel
    have hi' : i < nn := by rw [← HN.out]; exact hi
    have hii : ((i : Nat) : Int) < (nn : Int) := by omega
    have RQ := hid (fun v : After z.w => RW.out ⟨v.w, b_then z.2 v.2⟩)
    have HPB := hid (pos_bd hg i hi)
    have HLEG := hid (leg_at hg hi)
    have hk0 := k_nonneg hg hi
    have hwi : IntKind.i64.wrap ((i : Int) + 1) = (i : Int) + 1 := IntWalk.i64_in _ (by omega)
    have c0 : ∀ v : After z.w, v.w.cell? ⟨b, off + i * 4, none⟩ = some (.int .i64 (tp m i).k) := tp_cell RQ.out (j := i) hi 0 (by decide) rfl rfl
    obtain ⟨u0, hu⟩ : ∃ u : After z.w, u.w = z.w := ⟨After.here z.w, rfl⟩
    have HP2 := hid (pt_at hg hi)
    have hend : IsAt m tick i → Calls Try.prog 85 #[.slice (some ⟨b, off, none⟩) nn c, .int .i64 i, .int .i64 (tick - (tp m i).k)] u0.w fun e w' => e = .returned (.int .i64 (smpT m tick - posAt m i)) ∧ Below u0.w.heap.size u0.w w' := fun hI => by
      refine (within_any m nn HN.out _ c i _ hg hi' (by have := hI.2.1; omega) (by omega) (in_leg hg hI) u0.w (RQ.out u0)).mono fun e w' ⟨he, hb⟩ => ⟨?_, hb⟩
      rw [he, ← smp_at hg h0 hI]
      congr 2
      omega
    have HSB := hid (smp_bd hg h0)
    obtain ⟨S, hS⟩ : ∃ x, smpT m tick = x := ⟨_, rfl⟩
    obtain ⟨P, hP⟩ : ∃ x, posAt m i = x := ⟨_, rfl⟩
    obtain ⟨K, hK⟩ : ∃ x, (tp m i).k = x := ⟨_, rfl⟩
    have HEND := hid hend; clear hend
    rw [hS, hP, hK] at HEND
    rw [hK] at c0 hk0 hki
    rw [hS] at HSB
    rw [hP] at HPB ⊢
    have HK := hid hK; have HP := hid hP; have HS := hid hS
    clear hK hP hS
    by_cases hl : i + 1 < nn
    · have hl' : i + 1 < m.length := by rw [HN.out]; exact hl
      have d1 : decide ((i : Int) + 1 < (nn : Int)) = true := decide_eq_true (by omega)
      have hii2 : ((i : Nat) : Int) + 1 < (nn : Int) := by omega
      have hii3 : 0 ≤ ((i : Nat) : Int) + 1 := by omega
      have hj2 : (((i : Nat) : Int) + 1).toNat = i + 1 := rfl
      have y0 : ∀ v : After z.w, v.w.cell? ⟨b, off + (i + 1) * 4, none⟩ = some (.int .i64 (tp m (i + 1)).k) := tp_cell RQ.out (j := i + 1) hl' 0 (by decide) rfl rfl
      have hk1 := st_at hg hl'
      have hk2 := (pt_at hg hl').1
      have HCALL := hid (fun v : After z.w => within_any m nn HN.out (some ⟨b, off, none⟩) c i ((tp m (i + 1)).k - (tp m i).k) hg hi' (by omega) (by rw [HK.out]; omega) (fun _ => by rw [nx_in hl']; exact Int.le_refl _) v.w (RQ.out v))
      have HNX := hid (show posAt m (i + 1) = posAt m i + dur (tp m i) (nx m i) ((tp m (i + 1)).k - (tp m i).k) by rw [posAt, nx_in hl'])
      have HPB2 := hid (pos_bd hg (i + 1) hl')
      rw [HP.out, HK.out] at HNX
      rw [HK.out] at HCALL hk1
      obtain ⟨K2, hK2⟩ : ∃ x, (tp m (i + 1)).k = x := ⟨_, rfl⟩
      obtain ⟨D, hD⟩ : ∃ x, dur (tp m i) (nx m i) (K2 - K) = x := ⟨_, rfl⟩
      rw [hK2] at y0 hk1 hk2 HCALL HNX HPB2
      rw [hD] at HCALL HNX
      have HK2 := hid hK2; clear hK2 hD
      rw [← hu]
      clear hu
      by_cases ht : K2 ≤ tick
      · have d2 : decide (K2 ≤ tick) = true := decide_eq_true ht
        have w1 : IntKind.i64.wrap (K2 - K) = K2 - K := IntWalk.i64_in _ (by omega)
        have w2 : IntKind.i64.wrap (P + D) = P + D := IntWalk.i64_in _ (by have := HPB2.out; rw [HNX.out] at this; omega)
        have g85 : ∀ v : After z.w, Calls Try.prog 85 #[.slice (some ⟨b, off, none⟩) nn c, .int .i64 i, .int .i64 (K2 - K)] v.w fun e w'' => e = .returned (.int .i64 D) ∧ ∃ u : After z.w, w'' = u.w := fun v => met (HCALL.out v)
        have g1 := y0 u0
        go_upto_region 4 with fail
        clear g1
        refine wp_region_since (by kernel_rfl) (by kernel_rfl) ?_
        repeat (go_big_quiet_step ((go_at_call 85; exact g85 _)))
        refine wpQuiet_nil ?_
        intro u7
        go_wp2_with fail
        go_roundw
        case rel => exact ⟨i + 1, ⟨u7.w, b_then z.2 u7.2⟩, hl', by go_num, by rw [HNX.out], rfl, by rw [HK2.out]; exact ht⟩
        case measure => simp [intOf]; omega
      · have d2 : decide (K2 ≤ tick) = false := decide_eq_false ht
        have hIA : IsAt m tick i := ⟨hi, by rw [HK.out]; exact hki, fun _ => by rw [HK2.out]; omega⟩
        have hIA := hid hIA
        have w1 : IntKind.i64.wrap (tick - K) = tick - K := IntWalk.i64_in _ (by omega)
        have g1 := y0 u0
        have g2 := c0 u0
        go_wp2_with fail
        refine (HEND.out hIA.out).mono ?_
        rintro e w9 ⟨rfl, hB9⟩
        have w2 : IntKind.i64.wrap (P + (S - P)) = S := by rw [show P + (S - P) = S by omega]; exact IntWalk.i64_in _ (by have := HSB.out; omega)
        go_wp2_with fail
        exact bodyPost_ret (v := .int .i64 S) (by simp [results, Try.results62, go_sem]) rfl ⟨by rw [HS.out], b_then z.2 (b_then u0.2 hB9)⟩
    · have d1 : decide ((i : Int) + 1 < (nn : Int)) = false := decide_eq_false (by omega)
      have hIA : IsAt m tick i := ⟨hi, by rw [HK.out]; exact hki, fun h => absurd h (by rw [HN.out]; exact hl)⟩
      have hIA := hid hIA
      have w1 : IntKind.i64.wrap (tick - K) = tick - K := IntWalk.i64_in _ (by omega)
      rw [← hu]
      clear hu
      have g2 := c0 u0
      go_wp2_with fail
      refine (HEND.out hIA.out).mono ?_
      rintro e w9 ⟨rfl, hB9⟩
      have w2 : IntKind.i64.wrap (P + (S - P)) = S := by rw [show P + (S - P) = S by omega]; exact IntWalk.i64_in _ (by have := HSB.out; omega)
      go_wp2_with fail
      exact bodyPost_ret (v := .int .i64 S) (by simp [results, Try.results62, go_sem]) rfl ⟨by rw [HS.out], b_then z.2 (b_then u0.2 hB9)⟩

set_option maxRecDepth 100000 in
set_option maxHeartbeats 4000000 in
theorem rSample_any (m : List Tp) (nn : Nat) (hnn : m.length = nn) (a : Option Addr) (c : Nat) (tick : Int) (hn : nn ≤ 9223372036854775807) (w : World) (hr : Rd w a (m.flatMap Tp.c)) :
    Calls Try.prog 38 #[.slice a nn c, .int .i64 tick] w fun e w' => e = .returned (.tuple #[.int .i64 (smV m tick), .int .i64 (smE m tick)]) ∧ Below w.heap.size w w' := by
  have HN := hid hnn
  have HR := hid hr
  clear hr hnn
  go_enter Try.func38, Try.ntmps38
  go_wp2_with fail
  refine (rtcheck_any m nn HN.out a c w hn HR.out).mono ?_
  rintro e w1 ⟨rfl, hB1⟩
  by_cases hg : goodB m = true
  case neg =>
    have HE := hid (show smE m tick = 90 by simp [smE, hg])
    have HV := hid (show smV m tick = 0 by simp [smV, HE.out])
    rw [chkT_90 hg]
    clear hg
    go_wp2_with fail
    exact bodyPost_ret (v := .tuple #[.int .i64 0, .int .i64 90]) (by simp [results, Try.results38, go_sem]) rfl ⟨by rw [HE.out, HV.out], hB1⟩
  rw [chkT_ok hg]
  have HG := hid hg; clear hg
  rcases h1 : decide (tick < 0) with _ | _
  case true =>
    have HE := hid (show smE m tick = 1 by rw [smE, if_pos HG.out, if_pos (.inl (by simpa using h1))])
    have HV := hid (show smV m tick = 0 by simp [smV, HE.out])
    go_wp2_with fail
    exact bodyPost_ret (v := .tuple #[.int .i64 0, .int .i64 1]) (by simp [results, Try.results38, go_sem]) rfl ⟨by rw [HE.out, HV.out], hB1⟩
  rcases h2 : decide (16777216 < tick) with _ | _
  case true =>
    have HE := hid (show smE m tick = 1 by rw [smE, if_pos HG.out, if_pos (.inr (by simpa using h2))])
    have HV := hid (show smV m tick = 0 by simp [smV, HE.out])
    go_wp2_with fail
    exact bodyPost_ret (v := .tuple #[.int .i64 0, .int .i64 1]) (by simp [results, Try.results38, go_sem]) rfl ⟨by rw [HE.out, HV.out], hB1⟩
  have h1' : 0 ≤ tick := by simpa using h1
  have h2' : tick ≤ 16777216 := by simpa using h2
  have hE0 : smE m tick = if 1099511627776 < smpT m tick then 70 else 0 := by rw [smE, if_pos HG.out, if_neg (by omega)]
  have HE0 := hid hE0; clear hE0
  go_wp2_with fail
  refine (rAt_any m nn HN.out a c tick HG.out h1' (by omega) w1 (HR.out.below hB1)).mono ?_
  rintro e w2 ⟨rfl, hB2⟩
  clear h1 h2 h1' h2'
  obtain ⟨S, hS⟩ : ∃ x, smpT m tick = x := ⟨_, rfl⟩
  rw [hS] at HE0 ⊢
  have HS := hid hS; clear hS
  rcases h3 : decide (1099511627776 < S) with _ | _
  · have HE := hid (show smE m tick = 0 by rw [HE0.out, if_neg (by simpa using h3)])
    have HV := hid (show smV m tick = S by simp [smV, HE.out, HS.out])
    go_wp2_with fail
    exact bodyPost_ret (v := .tuple #[.int .i64 S, .int .i64 0]) (by simp [results, Try.results38, go_sem]) rfl ⟨by rw [HE.out, HV.out], b_then hB1 hB2⟩
  · have HE := hid (show smE m tick = 70 by rw [HE0.out, if_pos (by simpa using h3)])
    have HV := hid (show smV m tick = 0 by simp [smV, HE.out])
    go_wp2_with fail
    exact bodyPost_ret (v := .tuple #[.int .i64 0, .int .i64 70]) (by simp [results, Try.results38, go_sem]) rfl ⟨by rw [HE.out, HV.out], b_then hB1 hB2⟩

theorem at_smp (m : List Tp) (nn : Nat) (hnn : m.length = nn) (a : Option Addr) (c : Nat) (tick : Int) (h0 : 0 ≤ tick) (h2 : tick ≤ 33554432) (hg : goodB m = true) (w : World) (hr : Rd w a (m.flatMap Tp.c)) :
    Calls Try.prog 61 #[.slice a nn c, .int .i64 tick] w fun e w' => e = .returned (.int .i64 (smpT m tick)) ∧ Below w.heap.size w w' :=
  at_any m nn hnn a c tick (ixT m tick) (isAt_ix hg h0) h0 h2 hg w hr

set_option maxRecDepth 100000 in
set_option maxHeartbeats 4000000 in
theorem Sample_any (m : List Tp) (nn : Nat) (hnn : m.length = nn) (a : Option Addr) (c : Nat) (tick : Int) (hn : nn ≤ 9223372036854775807) (w : World) (hr : Rd w a (m.flatMap Tp.c)) :
    Calls Try.prog 37 #[.slice a nn c, .int .i64 tick] w fun e w' => e = .returned (.tuple #[.int .i64 (smV m tick), .int .i64 (smE m tick)]) ∧ Below w.heap.size w w' := by
  have HN := hid hnn
  have HR := hid hr
  clear hr hnn
  go_enter Try.func37, Try.ntmps37
  go_wp2_with fail
  refine (tcheck_any m nn HN.out a c w hn HR.out).mono ?_
  rintro e w1 ⟨rfl, hB1⟩
  by_cases hg : goodB m = true
  case neg =>
    have HE := hid (show smE m tick = 90 by simp [smE, hg])
    have HV := hid (show smV m tick = 0 by simp [smV, HE.out])
    rw [chkT_90 hg]
    clear hg
    go_wp2_with fail
    exact bodyPost_ret (v := .tuple #[.int .i64 0, .int .i64 90]) (by simp [results, Try.results37, go_sem]) rfl ⟨by rw [HE.out, HV.out], hB1⟩
  rw [chkT_ok hg]
  have HG := hid hg; clear hg
  rcases h1 : decide (tick < 0) with _ | _
  case true =>
    have HE := hid (show smE m tick = 1 by rw [smE, if_pos HG.out, if_pos (.inl (by simpa using h1))])
    have HV := hid (show smV m tick = 0 by simp [smV, HE.out])
    go_wp2_with fail
    exact bodyPost_ret (v := .tuple #[.int .i64 0, .int .i64 1]) (by simp [results, Try.results37, go_sem]) rfl ⟨by rw [HE.out, HV.out], hB1⟩
  rcases h2 : decide (16777216 < tick) with _ | _
  case true =>
    have HE := hid (show smE m tick = 1 by rw [smE, if_pos HG.out, if_pos (.inr (by simpa using h2))])
    have HV := hid (show smV m tick = 0 by simp [smV, HE.out])
    go_wp2_with fail
    exact bodyPost_ret (v := .tuple #[.int .i64 0, .int .i64 1]) (by simp [results, Try.results37, go_sem]) rfl ⟨by rw [HE.out, HV.out], hB1⟩
  have h1' : 0 ≤ tick := by simpa using h1
  have h2' : tick ≤ 16777216 := by simpa using h2
  have hE0 : smE m tick = if 1099511627776 < smpT m tick then 70 else 0 := by rw [smE, if_pos HG.out, if_neg (by omega)]
  have HE0 := hid hE0; clear hE0
  go_wp2_with fail
  refine (at_smp m nn HN.out a c tick h1' (by omega) HG.out w1 (HR.out.below hB1)).mono ?_
  rintro e w2 ⟨rfl, hB2⟩
  clear h1 h2 h1' h2'
  obtain ⟨S, hS⟩ : ∃ x, smpT m tick = x := ⟨_, rfl⟩
  rw [hS] at HE0 ⊢
  have HS := hid hS; clear hS
  rcases h3 : decide (1099511627776 < S) with _ | _
  · have HE := hid (show smE m tick = 0 by rw [HE0.out, if_neg (by simpa using h3)])
    have HV := hid (show smV m tick = S by simp [smV, HE.out, HS.out])
    go_wp2_with fail
    exact bodyPost_ret (v := .tuple #[.int .i64 S, .int .i64 0]) (by simp [results, Try.results37, go_sem]) rfl ⟨by rw [HE.out, HV.out], b_then hB1 hB2⟩
  · have HE := hid (show smE m tick = 70 by rw [HE0.out, if_pos (by simpa using h3)])
    have HV := hid (show smV m tick = 0 by simp [smV, HE.out])
    go_wp2_with fail
    exact bodyPost_ret (v := .tuple #[.int .i64 0, .int .i64 70]) (by simp [results, Try.results37, go_sem]) rfl ⟨by rw [HE.out, HV.out], b_then hB1 hB2⟩
end Go.Proofs.Ytbppajenihjfhaa
