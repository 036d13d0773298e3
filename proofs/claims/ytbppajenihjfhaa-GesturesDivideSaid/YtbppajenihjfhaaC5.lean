/- The reference's knot, list, Lane, Check (curves). -/
import Derived.Test.YtbppajenihjfhaaC1
import Derived.IntWalk
namespace Go.Proofs.Ytbppajenihjfhaa
open Go.RowKit
open Go.Lib (hid)

theorem rk_no {most k v s wa wb : Int} (h : ¬ (0 ≤ k ∧ k ≤ most ∧ -2147483648 ≤ v ∧ v ≤ 2147483647 ∧ (s = 1 ∨ s = 2 ∨ s = 3) ∧ (s = 3 → 1 ≤ wa ∧ wa ≤ 16 ∧ 1 ≤ wb ∧ wb ≤ 16) ∧ (s ≠ 3 → wa = 0 ∧ wb = 0))) : knOk most ⟨k, v, s, wa, wb⟩ = false :=
  Bool.eq_false_iff.2 fun hk => h ((knOk_iff _ _).1 hk)
theorem rk_yes {most k v s wa wb : Int} (h : 0 ≤ k ∧ k ≤ most ∧ -2147483648 ≤ v ∧ v ≤ 2147483647 ∧ (s = 1 ∨ s = 2 ∨ s = 3) ∧ (s = 3 → 1 ≤ wa ∧ wa ≤ 16 ∧ 1 ≤ wb ∧ wb ≤ 16) ∧ (s ≠ 3 → wa = 0 ∧ wb = 0)) : knOk most ⟨k, v, s, wa, wb⟩ = true :=
  (knOk_iff _ _).2 h
set_option maxRecDepth 100000 in
set_option maxHeartbeats 4000000 in
theorem rknot_any (k v s wa wb most : Int) (w : World) :
    Calls Try.prog 96 #[.agg #[.int .i64 k, .int .i64 v, .int .i64 s, .int .i64 wa, .int .i64 wb], .int .i64 most] w fun e w' => e = .returned (.bool (knOk most ⟨k, v, s, wa, wb⟩)) ∧ Below w.heap.size w w' := by
  go_enter Try.func96, Try.ntmps96
  rcases h0 : decide (k < 0) with _ | _
  · skip
    rcases h1 : decide (most < k) with _ | _
    · skip
      rcases h2 : decide (v < -2147483648) with _ | _
      · skip
        rcases h3 : decide (2147483647 < v) with _ | _
        · skip
          rcases hs : (s == 3) with _ | _
          · skip
            rcases hs1 : (s == 1) with _ | _
            · skip
              rcases hs2 : (s == 2) with _ | _
              · go_wp2_with fail
                exact bodyPost_ret (v := .bool false) (by simp [results, Try.results96, go_sem]) rfl ⟨by rw [rk_no (by first | omega | (simp at hs hs1 hs2; omega))], b_alloc (Below.refl _ _) _⟩
              · obtain rfl : s = 2 := by simpa using hs2
                clear hs hs1 hs2
                rcases w1 : (wa == 0) with _ | _
                · go_wp2_with fail
                  exact bodyPost_ret (v := .bool false) (by simp [results, Try.results96, go_sem]) rfl ⟨by rw [rk_no (by first | omega | (simp at w1; omega))], b_alloc (Below.refl _ _) _⟩
                · skip
                  rcases w2 : (wb == 0) with _ | _
                  · go_wp2_with fail
                    exact bodyPost_ret (v := .bool false) (by simp [results, Try.results96, go_sem]) rfl ⟨by rw [rk_no (by first | omega | (simp at w2; omega))], b_alloc (Below.refl _ _) _⟩
                  · skip
                    go_wp2_with fail
                    exact bodyPost_ret (v := .bool true) (by simp [results, Try.results96, go_sem]) rfl ⟨by rw [rk_yes (by first | omega | (simp at h0 h1 h2 h3 w1 w2; omega))], b_alloc (Below.refl _ _) _⟩
            · obtain rfl : s = 1 := by simpa using hs1
              clear hs hs1
              rcases w1 : (wa == 0) with _ | _
              · go_wp2_with fail
                exact bodyPost_ret (v := .bool false) (by simp [results, Try.results96, go_sem]) rfl ⟨by rw [rk_no (by first | omega | (simp at w1; omega))], b_alloc (Below.refl _ _) _⟩
              · skip
                rcases w2 : (wb == 0) with _ | _
                · go_wp2_with fail
                  exact bodyPost_ret (v := .bool false) (by simp [results, Try.results96, go_sem]) rfl ⟨by rw [rk_no (by first | omega | (simp at w2; omega))], b_alloc (Below.refl _ _) _⟩
                · skip
                  go_wp2_with fail
                  exact bodyPost_ret (v := .bool true) (by simp [results, Try.results96, go_sem]) rfl ⟨by rw [rk_yes (by first | omega | (simp at h0 h1 h2 h3 w1 w2; omega))], b_alloc (Below.refl _ _) _⟩
          · skip
            obtain rfl : s = 3 := by simpa using hs
            clear hs
            rcases w1 : decide (1 ≤ wa) with _ | _
            · go_wp2_with fail
              exact bodyPost_ret (v := .bool false) (by simp [results, Try.results96, go_sem]) rfl ⟨by rw [rk_no (by first | omega | (simp at w1; omega))], b_alloc (Below.refl _ _) _⟩
            · skip
              rcases w2 : decide (wa ≤ 16) with _ | _
              · go_wp2_with fail
                exact bodyPost_ret (v := .bool false) (by simp [results, Try.results96, go_sem]) rfl ⟨by rw [rk_no (by first | omega | (simp at w2; omega))], b_alloc (Below.refl _ _) _⟩
              · skip
                rcases w3 : decide (1 ≤ wb) with _ | _
                · go_wp2_with fail
                  exact bodyPost_ret (v := .bool false) (by simp [results, Try.results96, go_sem]) rfl ⟨by rw [rk_no (by first | omega | (simp at w3; omega))], b_alloc (Below.refl _ _) _⟩
                · skip
                  rcases w4 : decide (wb ≤ 16) with _ | _
                  · go_wp2_with fail
                    exact bodyPost_ret (v := .bool false) (by simp [results, Try.results96, go_sem]) rfl ⟨by rw [rk_no (by first | omega | (simp at w4; omega))], b_alloc (Below.refl _ _) _⟩
                  · skip
                    go_wp2_with fail
                    exact bodyPost_ret (v := .bool true) (by simp [results, Try.results96, go_sem]) rfl ⟨by rw [rk_yes (by first | omega | (simp at h0 h1 h2 h3 w1 w2 w3 w4; omega))], b_alloc (Below.refl _ _) _⟩
        · go_wp2_with fail
          exact bodyPost_ret (v := .bool false) (by simp [results, Try.results96, go_sem]) rfl ⟨by rw [rk_no (by first | omega | (simp at h3; omega))], b_alloc (Below.refl _ _) _⟩
      · go_wp2_with fail
        exact bodyPost_ret (v := .bool false) (by simp [results, Try.results96, go_sem]) rfl ⟨by rw [rk_no (by first | omega | (simp at h2; omega))], b_alloc (Below.refl _ _) _⟩
    · go_wp2_with fail
      exact bodyPost_ret (v := .bool false) (by simp [results, Try.results96, go_sem]) rfl ⟨by rw [rk_no (by first | omega | (simp at h1; omega))], b_alloc (Below.refl _ _) _⟩
  · go_wp2_with fail
    exact bodyPost_ret (v := .bool false) (by simp [results, Try.results96, go_sem]) rfl ⟨by rw [rk_no (by first | omega | (simp at h0; omega))], b_alloc (Below.refl _ _) _⟩

def RLL (most : Int) (l : List Kn) (n : Nat) (V : World) (i : Value) (wr : World) : Prop := ∃ (j : Nat) (z : After V), j ≤ n ∧ j ≤ 1024 ∧ i = .int .i64 j ∧ wr = z.w ∧ Hid (PreK most l j)
set_option maxRecDepth 100000 in
set_option maxHeartbeats 4000000 in
theorem rlist_any (l : List Kn) (nn : Nat) (hnn : l.length = nn) (a : Option Addr) (c : Nat) (most : Int) (w : World) (hn : nn ≤ 9223372036854775807) (hr : Rd w a (l.flatMap Kn.c)) :
    Calls Try.prog 75 #[.slice a nn c, .int .i64 most] w fun e w' => e = .returned (.bool (valB most l)) ∧ Below w.heap.size w w' := by
  have HR := hid (after_rd hr); clear hr
  have HN := hid hnn; clear hnn
  go_enter Try.func75, Try.ntmps75
  go_wp2_with fail
  go_loopw [5] (fun i wr => RLL most l nn w i wr) (fun i _ => nn - (intOf i).toNat)
  case atStart => exact ⟨0, After.here w, by omega, by omega, rfl, rfl, hid (fun i hi => absurd hi (by omega))⟩
  case round =>
    obtain ⟨j, z, hj, hj2, rfl, rfl, hp⟩ := hrel
    by_cases hlt' : j < nn
    case neg =>
      have d1 : decide ((j : Int) < (nn : Int)) = false := decide_eq_false (by omega)
      have d1' : decide (j < nn) = false := decide_eq_false (by omega)
      go_wp2_with fail
      exact bodyPost_ret (v := .bool true) (by simp [results, Try.results75, go_sem]) rfl ⟨by rw [(valB_iff most l).2 ⟨by rw [HN.out]; omega, by rw [HN.out, show nn = j by omega]; exact hp.out⟩], z.2⟩
    have hlt : j < l.length := by rw [HN.out]; exact hlt'
    have d1 : decide ((j : Int) < (nn : Int)) = true := decide_eq_true (by omega)
    have d1' : decide (j < nn) = true := decide_eq_true (by omega)
    have hjj : (j : Int) < (nn : Int) := by omega
    obtain ⟨b, off, rfl, hb⟩ := (HR.out z).addr (by rw [flat_len Kn.c 5 Kn.c5]; omega)
    obtain ⟨⟨k, v, s, wa, wb⟩, ht⟩ : ∃ t, kn l j = t := ⟨_, rfl⟩
    have c0 : ∀ y : After w, y.w.cell? ⟨b, off + j * 5, none⟩ = some (.int .i64 k) := kn_cell HR.out (j := j) hlt 0 (by decide) (by rw [ht]; rfl) rfl
    have c1 : ∀ y : After w, y.w.cell? ⟨b, off + j * 5 + 1, none⟩ = some (.int .i64 v) := kn_cell HR.out (j := j) hlt 1 (by decide) (by rw [ht]; rfl) (by omega)
    have c2 : ∀ y : After w, y.w.cell? ⟨b, off + j * 5 + 2, none⟩ = some (.int .i64 s) := kn_cell HR.out (j := j) hlt 2 (by decide) (by rw [ht]; rfl) (by omega)
    have c3 : ∀ y : After w, y.w.cell? ⟨b, off + j * 5 + 3, none⟩ = some (.int .i64 wa) := kn_cell HR.out (j := j) hlt 3 (by decide) (by rw [ht]; rfl) (by omega)
    have c4 : ∀ y : After w, y.w.cell? ⟨b, off + j * 5 + 4, none⟩ = some (.int .i64 wb) := kn_cell HR.out (j := j) hlt 4 (by decide) (by rw [ht]; rfl) (by omega)
    have HT := hid ht; clear ht
    by_cases h10 : j < 1024
    case neg =>
      have d2 : decide ((1024 : Int) ≤ (j : Int)) = true := decide_eq_true (by omega)
      have hv := hid (show valB most l = false by rw [Bool.eq_false_iff]; intro h; have := len_K h; omega)
      go_wp2_with fail
      refine wp_region_since (by kernel_rfl) (by kernel_rfl) ?_
      repeat (go_big_quiet_step ((fail)))
      refine wpQuiet_nil ?_
      intro u9
      go_wp2_with fail
      exact bodyPost_ret (v := .bool false) (by simp [results, Try.results75, go_sem]) rfl ⟨by rw [hv.out], u9.2⟩
    have d2 : decide ((1024 : Int) ≤ (j : Int)) = false := decide_eq_false (by omega)
    rcases hK : knOk most ⟨k, v, s, wa, wb⟩ with _ | _
    · have hcall : ∀ y : After w, Calls Try.prog 96 #[.agg #[.int .i64 k, .int .i64 v, .int .i64 s, .int .i64 wa, .int .i64 wb], .int .i64 most] y.w fun e w'' => e = .returned (.bool false) ∧ ∃ u : After w, w'' = u.w := fun y => hK ▸ after_call (rknot_any k v s wa wb most y.w)
      have hv := hid (not_val hlt (by rw [HT.out]; exact hK)); clear hK
      go_wp2_with fail
      refine wp_region_since (by kernel_rfl) (by kernel_rfl) ?_
      repeat (go_big_quiet_step ((go_at_call 96; exact hcall _)))
      refine wpQuiet_nil ?_
      intro u9
      go_wp2_with fail
      exact bodyPost_ret (v := .bool false) (by simp [results, Try.results75, go_sem]) rfl ⟨by rw [hv.out], u9.2⟩
    · have hcall : ∀ y : After w, Calls Try.prog 96 #[.agg #[.int .i64 k, .int .i64 v, .int .i64 s, .int .i64 wa, .int .i64 wb], .int .i64 most] y.w fun e w'' => e = .returned (.bool true) ∧ ∃ u : After w, w'' = u.w := fun y => hK ▸ after_call (rknot_any k v s wa wb most y.w)
      have hP := hid (show knOk most (kn l j) = true by rw [HT.out]; exact hK); clear hK
      rcases Nat.eq_zero_or_pos j with rfl | hpos
      · simp only [Nat.zero_mul, Nat.add_zero] at c0 c1 c2 c3 c4
        go_wp2_with fail
        refine wp_region_since (by kernel_rfl) (by kernel_rfl) ?_
        repeat (go_big_quiet_step ((go_at_call 96; exact hcall _)))
        refine wpQuiet_nil ?_
        intro u9
        go_wp2_with fail
        clear hcall
        go_roundw
        case rel => exact ⟨1, u9, by omega, by omega, by go_num, rfl, hid (hp.out.next hP.out (fun h => absurd h (by omega)))⟩
        case measure => first | (simp [intOf]; done) | (simp [intOf]; omega)
      · obtain ⟨i, rfl⟩ : ∃ i, j = i + 1 := ⟨j - 1, by omega⟩
        have d3 : decide ((1024 : Int) ≤ (i : Int) + 1) = false := decide_eq_false (by omega)
        have hjj2 : (i : Int) + 1 < (nn : Int) := by omega
        clear d2 hjj
        obtain ⟨⟨pk, pv, ps, pa, pb⟩, hp⟩ : ∃ t, kn l i = t := ⟨_, rfl⟩
        have p0 : ∀ v : After w, v.w.cell? ⟨b, off + i * 5, none⟩ = some (.int .i64 pk) := kn_cell HR.out (j := i) (by omega) 0 (by decide) (by rw [hp]; rfl) rfl
        have Hp := hid hp; clear hp
        rcases g1 : decide (k ≤ pk) with _ | _
        · have gg := hid g1; clear g1
          have g1 := gg.out
          go_wp2_with fail
          refine wp_region_since (by kernel_rfl) (by kernel_rfl) ?_
          repeat (go_big_quiet_step ((go_at_call 96; exact hcall _)))
          refine wpQuiet_nil ?_
          intro u9
          go_wp2_with fail
          clear g1 hcall
          go_roundw
          case rel => exact ⟨i + 1 + 1, u9, by omega, by omega, by go_num, rfl, hid (hp.out.next hP.out (fun _ => by rw [Nat.add_sub_cancel, Hp.out, HT.out]; simpa using gg.out))⟩
          case measure => first | (simp [intOf]; done) | (simp [intOf]; omega)
        · have gg := hid g1; clear g1
          have g1 := gg.out
          go_wp2_with fail
          refine wp_region_since (by kernel_rfl) (by kernel_rfl) ?_
          repeat (go_big_quiet_step ((go_at_call 96; exact hcall _)))
          refine wpQuiet_nil ?_
          intro u9
          go_wp2_with fail
          exact bodyPost_ret (v := .bool false) (by simp [results, Try.results75, go_sem]) rfl ⟨by rw [not_ord hlt (by omega) (by rw [Nat.add_sub_cancel, Hp.out, HT.out]; simpa using gg.out)], u9.2⟩

set_option maxRecDepth 100000 in
set_option maxHeartbeats 4000000 in
theorem rlane_any (l : List Kn) (nn : Nat) (hnn : l.length = nn) (a : Option Addr) (c : Nat) (w : World) (hn : nn ≤ 9223372036854775807) (hr : Rd w a (l.flatMap Kn.c)) :
    Calls Try.prog 79 #[.slice a nn c] w fun e w' => e = .returned (.bool (valB 16777216 l)) ∧ Below w.heap.size w w' := by
  go_enter Try.func79, Try.ntmps79
  have hcall := rlist_any l nn hnn a c 16777216 w hn hr
  have HC := hid hcall
  clear hcall hr hnn
  go_wp2_with fail
  refine HC.out.mono ?_
  rintro e w9 ⟨rfl, hB9⟩
  obtain ⟨B, hB⟩ : ∃ B, valB 16777216 l = B := ⟨_, rfl⟩
  rw [hB]
  have HB := hid hB; clear hB
  go_wp2_with fail
  exact bodyPost_ret (v := .bool B) (by simp [results, Try.results79, go_sem]) rfl ⟨by rw [HB.out], hB9⟩

def RCL (l : List Kn) (_n : Nat) (V : World) (i : Value) (wr : World) : Prop := ∃ (j : Nat) (z : After V), 1 ≤ j ∧ i = .int .i64 j ∧ wr = z.w ∧ Hid (∀ i, i + 1 < j → i + 1 < l.length → segOk l i = true)
set_option maxRecDepth 100000 in
set_option maxHeartbeats 4000000 in
theorem rkcheck_any (l : List Kn) (nn : Nat) (hnn : l.length = nn) (a : Option Addr) (c : Nat) (w : World) (hn : nn ≤ 9223372036854775807) (hr : Rd w a (l.flatMap Kn.c)) :
    Calls Try.prog 51 #[.slice a nn c] w fun e w' => e = .returned (.int .i64 (chkK l)) ∧ Below w.heap.size w w' := by
  have HR := hid (after_rd hr); clear hr
  have HN := hid hnn; clear hnn
  go_enter Try.func51, Try.ntmps51
  go_wp2_with fail
  refine (met0 (rlist_any l nn HN.out a c 1099511627776 w hn (HR.out (After.here w)))).mono ?_
  rintro e _ ⟨rfl, u1, rfl⟩
  rcases hv : valB 1099511627776 l with _ | _
  · have hc := chkK_no (l := l) (fun h => by have := ((crvB_iff l).1 h).1; rw [hv] at this; cases this)
    have HC := hid hc; clear hc hv
    go_wp2_with fail
    exact bodyPost_ret (v := .int .i64 110) (by simp [results, Try.results51, go_sem]) rfl ⟨by rw [HC.out], u1.2⟩
  have HV := hid hv; clear hv
  go_wp2_with fail
  have hl1024 := len_K HV.out
  rw [HN.out] at hl1024
  go_loopw [3] (fun i wr => RCL l nn w i wr) (fun i _ => nn - (intOf i).toNat)
  case atStart => exact ⟨1, u1, by omega, rfl, rfl, hid (fun i hi => absurd hi (by omega))⟩
  case round =>
    obtain ⟨j, z, hj1, rfl, rfl, hp⟩ := hrel
    by_cases hlt' : j < nn
    case neg =>
      have d1 : decide ((j : Int) < (nn : Int)) = false := decide_eq_false (by omega)
      have d1' : decide (j < nn) = false := decide_eq_false (by omega)
      go_wp2_with fail
      exact bodyPost_ret (v := .int .i64 0) (by simp [results, Try.results51, go_sem]) rfl ⟨by rw [chkK_ok ((crvB_iff l).2 ⟨HV.out, fun i hi => hp.out i (by rw [HN.out] at hi; omega) hi⟩)], z.2⟩
    obtain ⟨i, rfl⟩ : ∃ i, j = i + 1 := ⟨j - 1, by omega⟩
    have hlt : i + 1 < l.length := by rw [HN.out]; exact hlt'
    have hlti : i < l.length := by omega
    have d1 : decide (((i : Int) + 1) < (nn : Int)) = true := decide_eq_true (by omega)
    have d1' : decide (i + 1 < nn) = true := decide_eq_true (by omega)
    have hjj : ((i : Int) + 1) < (nn : Int) := by omega
    have hii : (i : Int) < (nn : Int) := by omega
    obtain ⟨b, off, rfl, hb⟩ := (HR.out z).addr (by rw [flat_len Kn.c 5 Kn.c5]; omega)
    have bx := kn_at HV.out hlti
    have bq := kn_at HV.out hlt
    obtain ⟨⟨xk, xv, xs, xa, xb⟩, hx⟩ : ∃ t, kn l i = t := ⟨_, rfl⟩
    have x0 : ∀ v : After w, v.w.cell? ⟨b, off + i * 5, none⟩ = some (.int .i64 xk) := kn_cell HR.out (j := i) (hlti) 0 (by decide) (by rw [hx]; rfl) rfl
    have x2 : ∀ v : After w, v.w.cell? ⟨b, off + i * 5 + 2, none⟩ = some (.int .i64 xs) := kn_cell HR.out (j := i) (hlti) 2 (by decide) (by rw [hx]; rfl) (by omega)
    rw [hx] at bx; dsimp only at bx
    have Hx := hid hx; clear hx
    obtain ⟨⟨qk, qv, qs, qa, qb⟩, hq⟩ : ∃ t, kn l (i + 1) = t := ⟨_, rfl⟩
    have q0 : ∀ v : After w, v.w.cell? ⟨b, off + (i + 1) * 5, none⟩ = some (.int .i64 qk) := kn_cell HR.out (j := (i + 1)) (hlt) 0 (by decide) (by rw [hq]; rfl) rfl
    rw [hq] at bq; dsimp only at bq
    have Hq := hid hq; clear hq
    have w2 : IntKind.i64.wrap (qk - xk) = qk - xk := IntWalk.i64_in _ (by omega)
    clear bx bq
    go_wp2_with fail
    rcases hs : (xs != 1) with _ | _
    · have hsg := hid (show segOk l i = true by rw [segOk_iff]; intro h; rw [Hx.out] at h; exact absurd (by simpa using hs) h)
      refine wp_region_since (by kernel_rfl) (by kernel_rfl) ?_
      repeat (go_big_quiet_step (fail))
      refine wpQuiet_nil ?_
      intro u9
      go_wp2_with fail
      go_roundw
      case rel => exact ⟨i + 1 + 1, u9, by omega, by go_num, rfl, hid (fun y hy hl => by
        by_cases he : y = i
        · rw [he]; exact hsg.out
        · exact hp.out y (by omega) hl)⟩
      case measure => first | (simp [intOf]; done) | (simp [intOf]; omega)
    · rcases hd : decide (16777216 < qk - xk) with _ | _
      · have hsg := hid (show segOk l i = true by rw [segOk_iff]; intro _; rw [Hx.out, Hq.out]; simpa using hd)
        refine wp_region_since (by kernel_rfl) (by kernel_rfl) ?_
        repeat (go_big_quiet_step (fail))
        refine wpQuiet_nil ?_
        intro u9
        go_wp2_with fail
        clear w2
        go_roundw
        case rel => exact ⟨i + 1 + 1, u9, by omega, by go_num, rfl, hid (fun y hy hl => by
          by_cases he : y = i
          · rw [he]; exact hsg.out
          · exact hp.out y (by omega) hl)⟩
        case measure => first | (simp [intOf]; done) | (simp [intOf]; omega)
      · have hc := chkK_no (l := l) (fun h => by
          have h1 := (segOk_iff l i).1 (((crvB_iff l).1 h).2 i hlt)
          rw [Hx.out, Hq.out] at h1
          have h2 := h1 (by simpa using hs)
          simp at hd h2
          omega)
        have HC := hid hc; clear hc
        refine wp_region_since (by kernel_rfl) (by kernel_rfl) ?_
        repeat (go_big_quiet_step (fail))
        refine wpQuiet_nil ?_
        intro u9
        go_wp2_with fail
        exact bodyPost_ret (v := .int .i64 110) (by simp [results, Try.results51, go_sem]) rfl ⟨by rw [HC.out], u9.2⟩
end Go.Proofs.Ytbppajenihjfhaa
