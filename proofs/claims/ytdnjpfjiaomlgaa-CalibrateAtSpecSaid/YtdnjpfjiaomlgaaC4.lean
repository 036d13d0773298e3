/- Check of records. -/
import Derived.Test.YtdnjpfjiaomlgaaC2
import Derived.Test.YtdnjpfjiaomlgaaC3
import Derived.IntWalk
namespace Go.Proofs.Ytdnjpfjiaomlgaa
open Go.RowKit
open Go.Lib (hid)

def CLL (l : List Rc) (n : Nat) (V : World) (i : Value) (wr : World) : Prop := ∃ (j : Nat) (z : After V), j ≤ n ∧ i = .int .i64 j ∧ wr = z.w ∧ Hid (PreR l j)
theorem cmp3_ge {l : List Rc} {i j : Nat} {pd pf pk pi_ po xd xf xk xi xo : Int} (hp : rc l i = ⟨pd, pf, pk, pi_, po⟩) (hx : rc l j = ⟨xd, xf, xk, xi, xo⟩) : decide (0 ≤ cmp3 pd pf pk xd xf xk) = !decide (RLt (rc l i) (rc l j)) := by
  rw [hp, hx, ← decide_not]
  refine decide_eq_decide.2 ?_
  have h := cmpR_lt ⟨pd, pf, pk, pi_, po⟩ ⟨xd, xf, xk, xi, xo⟩
  have e : cmp3 pd pf pk xd xf xk = cmpR ⟨pd, pf, pk, pi_, po⟩ ⟨xd, xf, xk, xi, xo⟩ := rfl
  rw [e, ← h]
  omega

set_option maxRecDepth 100000 in
set_option maxHeartbeats 4000000 in
theorem check_any (l : List Rc) (nn : Nat) (hnn : l.length = nn) (a : Option Addr) (c : Nat) (w : World) (hn : nn ≤ 9223372036854775807) (hr : Rd w a (l.flatMap Rc.cs)) :
    Calls Try.prog 12 #[.slice a nn c] w fun e w' => e = .returned (.int .i64 (chkR l)) ∧ Below w.heap.size w w' := by
  have HR := hid (after_rd hr); clear hr
  have HN := hid hnn; clear hnn
  go_enter Try.func12, Try.ntmps12
  by_cases h256 : nn ≤ 256
  case neg =>
    have d0 : decide (256 < (nn : Int)) = true := decide_eq_true (by omega)
    have d0' : decide (256 < nn) = true := decide_eq_true (by omega)
    go_wp2_with fail
    exact bodyPost_ret (v := .int .i64 2) (by simp [results, Try.results12, go_sem]) rfl ⟨by rw [chkR_long (by rw [HN.out]; omega)], Below.refl _ _⟩
  have d0 : decide (256 < (nn : Int)) = false := decide_eq_false (by omega)
  have d0' : decide (256 < nn) = false := decide_eq_false (by omega)
  go_wp2_with fail
  clear d0 d0'
  go_loopw [10] (fun i wr => CLL l nn w i wr) (fun i _ => nn - (intOf i).toNat)
  case atStart => exact ⟨0, After.here w, by omega, rfl, rfl, hid (fun i hi => absurd hi (by omega))⟩
  case round =>
    obtain ⟨j, z, hj, rfl, rfl, hp⟩ := hrel
    by_cases hlt' : j < nn
    case neg =>
      have d1 : decide ((j : Int) < (nn : Int)) = false := decide_eq_false (by omega)
      have d1' : decide (j < nn) = false := decide_eq_false (by omega)
      go_wp2_with fail
      exact bodyPost_ret (v := .int .i64 0) (by simp [results, Try.results12, go_sem]) rfl ⟨by rw [chkR_ok (by rw [HN.out]; omega) ((goodR_iff l).2 (by rw [HN.out, show nn = j by omega]; exact hp.out))], z.2⟩
    have hlt : j < l.length := by rw [HN.out]; exact hlt'
    have d1 : decide ((j : Int) < (nn : Int)) = true := decide_eq_true (by omega)
    have d1' : decide (j < nn) = true := decide_eq_true (by omega)
    have hjj : (j : Int) < (nn : Int) := by omega
    obtain ⟨b, off, rfl, hb⟩ := (HR.out z).addr (by rw [flat_len Rc.cs 5 Rc.c5]; omega)
    have RZ := hid (fun v : After z.w => HR.out (z.on v.2))
    obtain ⟨⟨xd, xf, xk, xi, xo⟩, hx⟩ : ∃ t, rc l j = t := ⟨_, rfl⟩
    have x0 : z.w.cell? ⟨b, off + j * 5, none⟩ = some (.int .i64 xd) := rc_cell RZ.out (j := j) (hlt) 0 (by decide) (by rw [hx]; rfl) rfl (After.here _)
    have x1 : z.w.cell? ⟨b, off + j * 5 + 1, none⟩ = some (.int .i64 xf) := rc_cell RZ.out (j := j) (hlt) 1 (by decide) (by rw [hx]; rfl) (by omega) (After.here _)
    have x2 : z.w.cell? ⟨b, off + j * 5 + 2, none⟩ = some (.int .i64 xk) := rc_cell RZ.out (j := j) (hlt) 2 (by decide) (by rw [hx]; rfl) (by omega) (After.here _)
    have x3 : z.w.cell? ⟨b, off + j * 5 + 3, none⟩ = some (.int .i64 xi) := rc_cell RZ.out (j := j) (hlt) 3 (by decide) (by rw [hx]; rfl) (by omega) (After.here _)
    have x4 : z.w.cell? ⟨b, off + j * 5 + 4, none⟩ = some (.int .i64 xo) := rc_cell RZ.out (j := j) (hlt) 4 (by decide) (by rw [hx]; rfl) (by omega) (After.here _)
    have Hx := hid hx; clear hx
    go_upto_region 6 with (fail)
    obtain ⟨V, hV⟩ : ∃ V, V = z.w.alloc (.cells #[.int .i64 xd, .int .i64 xf, .int .i64 xk, .int .i64 xi, .int .i64 xo] 24) := ⟨_, rfl⟩
    have hBV : Below w.heap.size w V := by rw [hV]; exact b_alloc z.2 _
    have y0 : ∀ v : After V, v.w.cell? ⟨z.w.heap.size, 0, none⟩ = some (.int .i64 xd) := new_cell hV rfl rfl
    have y1 : ∀ v : After V, v.w.cell? ⟨z.w.heap.size, 1, none⟩ = some (.int .i64 xf) := new_cell hV rfl rfl
    have y2 : ∀ v : After V, v.w.cell? ⟨z.w.heap.size, 2, none⟩ = some (.int .i64 xk) := new_cell hV rfl rfl
    have y3 : ∀ v : After V, v.w.cell? ⟨z.w.heap.size, 3, none⟩ = some (.int .i64 xi) := new_cell hV rfl rfl
    have y4 : ∀ v : After V, v.w.cell? ⟨z.w.heap.size, 4, none⟩ = some (.int .i64 xo) := new_cell hV rfl rfl
    rw [← hV]
    obtain ⟨u, hu⟩ : ∃ u : After V, u.w = V := ⟨After.here V, rfl⟩
    rw [← hu]
    clear hu hV x0 x1 x2 x3 x4
    have HV := hid hBV
    have RV := hid (fun v : After V => HR.out (v.up hBV))
    rcases hv : rcOk ⟨xd, xf, xk, xi, xo⟩ with _ | _
    · have k21 : ∀ y : After V, Calls Try.prog 21 #[.agg #[.int .i64 xd, .int .i64 xf, .int .i64 xk, .int .i64 xi, .int .i64 xo]] y.w fun e w'' => e = .returned (.bool false) ∧ ∃ u : After V, w'' = u.w := fun y => hv ▸ met (valid_any xd xf xk xi xo y.w)
      have HB := hid (chkR_bad (l := l) (by rw [HN.out]; omega) (not_goodR hlt (by rw [Hx.out]; exact hv)))
      clear hv
      refine wp_region_since (by kernel_rfl) (by kernel_rfl) ?_
      repeat (go_big_quiet_step ((go_at_call 21; exact k21 _)))
      refine wpQuiet_nil ?_
      intro u9
      go_wp2_with fail
      exact bodyPost_ret (v := .int .i64 420) (by simp [results, Try.results12, go_sem]) rfl ⟨by rw [HB.out], b_then HV.out u9.2⟩
    · have k21 : ∀ y : After V, Calls Try.prog 21 #[.agg #[.int .i64 xd, .int .i64 xf, .int .i64 xk, .int .i64 xi, .int .i64 xo]] y.w fun e w'' => e = .returned (.bool true) ∧ ∃ u : After V, w'' = u.w := fun y => hv ▸ met (valid_any xd xf xk xi xo y.w)
      have HP := hid (show rcOk (rc l j) = true by rw [Hx.out]; exact hv)
      clear hv
      rcases Nat.eq_zero_or_pos j with rfl | hpos
      · skip
        refine wp_region_since (by kernel_rfl) (by kernel_rfl) ?_
        repeat (go_big_quiet_step ((go_at_call 21; exact k21 _)))
        refine wpQuiet_nil ?_
        intro u9
        go_wp2_with fail
        clear k21
        go_roundw
        case rel => exact ⟨1, ⟨u9.w, b_then HV.out u9.2⟩, by omega, by go_num, rfl, hid (hp.out.next HP.out (fun h => absurd h (by omega)))⟩
        case measure => first | (simp [intOf]; done) | (simp [intOf]; omega)
      · obtain ⟨i, rfl⟩ : ∃ i, j = i + 1 := ⟨j - 1, by omega⟩
        obtain ⟨⟨pd, pf, pk, pi_, po⟩, hp⟩ : ∃ t, rc l i = t := ⟨_, rfl⟩
        have p0 : ∀ v : After V, v.w.cell? ⟨b, off + i * 5, none⟩ = some (.int .i64 pd) := rc_cell RV.out (j := i) (by omega) 0 (by decide) (by rw [hp]; rfl) rfl
        have p1 : ∀ v : After V, v.w.cell? ⟨b, off + i * 5 + 1, none⟩ = some (.int .i64 pf) := rc_cell RV.out (j := i) (by omega) 1 (by decide) (by rw [hp]; rfl) (by omega)
        have p2 : ∀ v : After V, v.w.cell? ⟨b, off + i * 5 + 2, none⟩ = some (.int .i64 pk) := rc_cell RV.out (j := i) (by omega) 2 (by decide) (by rw [hp]; rfl) (by omega)
        have p3 : ∀ v : After V, v.w.cell? ⟨b, off + i * 5 + 3, none⟩ = some (.int .i64 pi_) := rc_cell RV.out (j := i) (by omega) 3 (by decide) (by rw [hp]; rfl) (by omega)
        have p4 : ∀ v : After V, v.w.cell? ⟨b, off + i * 5 + 4, none⟩ = some (.int .i64 po) := rc_cell RV.out (j := i) (by omega) 4 (by decide) (by rw [hp]; rfl) (by omega)
        have Hp := hid hp; clear hp
        obtain ⟨C, hC⟩ : ∃ C, cmp3 pd pf pk xd xf xk = C := ⟨_, rfl⟩
        have k23 : ∀ (d f k i o : Int) (y : After V), Calls Try.prog 23 #[.agg #[.int .i64 d, .int .i64 f, .int .i64 k, .int .i64 i, .int .i64 o]] y.w fun e w'' => e = .returned (.agg #[.int .i64 d, .int .i64 f, .int .i64 k]) ∧ ∃ u : After V, w'' = u.w := fun d f k i o y => met (keyOf_any d f k i o y.w)
        have k26 : ∀ y : After V, Calls Try.prog 26 #[.agg #[.int .i64 pd, .int .i64 pf, .int .i64 pk], .agg #[.int .i64 xd, .int .i64 xf, .int .i64 xk]] y.w fun e w'' => e = .returned (.int .i64 C) ∧ ∃ u : After V, w'' = u.w := fun y => hC ▸ met (keycmp_any pd pf pk xd xf xk y.w)
        have hge := cmp3_ge Hp.out Hx.out
        rw [hC] at hge
        clear hC
        rcases g1 : decide (RLt (rc l i) (rc l (i + 1))) with _ | _
        · have g2 : decide (0 ≤ C) = true := by rw [hge, g1]; rfl
          have HB := hid (chkR_bad (l := l) (by rw [HN.out]; omega) (not_ordR hlt (by omega) (by rw [Nat.add_sub_cancel]; simpa using g1)))
          clear g1 hge
          refine wp_region_since (by kernel_rfl) (by kernel_rfl) ?_
          repeat (go_big_quiet_step ((first | (go_at_call 21; exact k21 _) | (go_at_call 23; exact k23 _ _ _ _ _ _) | (go_at_call 26; exact k26 _))))
          refine wpQuiet_nil ?_
          intro u9
          go_wp2_with fail
          exact bodyPost_ret (v := .int .i64 420) (by simp [results, Try.results12, go_sem]) rfl ⟨by rw [HB.out], b_then HV.out u9.2⟩
        · have g2 : decide (0 ≤ C) = false := by rw [hge, g1]; rfl
          have HO := hid (show RLt (rc l i) (rc l (i + 1)) by simpa using g1)
          clear g1 hge
          refine wp_region_since (by kernel_rfl) (by kernel_rfl) ?_
          repeat (go_big_quiet_step ((first | (go_at_call 21; exact k21 _) | (go_at_call 23; exact k23 _ _ _ _ _ _) | (go_at_call 26; exact k26 _))))
          refine wpQuiet_nil ?_
          intro u9
          go_wp2_with fail
          clear g2 k21 k23 k26
          go_roundw
          case rel => exact ⟨i + 1 + 1, ⟨u9.w, b_then HV.out u9.2⟩, by omega, by go_num, rfl, hid (hp.out.next HP.out (fun _ => by rw [Nat.add_sub_cancel]; exact HO.out))⟩
          case measure => first | (simp [intOf]; done) | (simp [intOf]; omega)

def RCLL (l : List Rc) (n : Nat) (V : World) (i : Value) (wr : World) : Prop := ∃ (j : Nat) (z : After V), j ≤ n ∧ i = .int .i64 j ∧ wr = z.w ∧ Hid (PreR l j)
set_option maxRecDepth 100000 in
set_option maxHeartbeats 4000000 in
theorem rcheck_any (l : List Rc) (nn : Nat) (hnn : l.length = nn) (a : Option Addr) (c : Nat) (w : World) (hn : nn ≤ 9223372036854775807) (hr : Rd w a (l.flatMap Rc.cs)) :
    Calls Try.prog 13 #[.slice a nn c] w fun e w' => e = .returned (.int .i64 (chkR l)) ∧ Below w.heap.size w w' := by
  have HR := hid (after_rd hr); clear hr
  have HN := hid hnn; clear hnn
  go_enter Try.func13, Try.ntmps13
  by_cases h256 : nn ≤ 256
  case neg =>
    have d0 : decide (256 < (nn : Int)) = true := decide_eq_true (by omega)
    have d0' : decide (256 < nn) = true := decide_eq_true (by omega)
    go_wp2_with fail
    exact bodyPost_ret (v := .int .i64 2) (by simp [results, Try.results13, go_sem]) rfl ⟨by rw [chkR_long (by rw [HN.out]; omega)], Below.refl _ _⟩
  have d0 : decide (256 < (nn : Int)) = false := decide_eq_false (by omega)
  have d0' : decide (256 < nn) = false := decide_eq_false (by omega)
  go_wp2_with fail
  clear d0 d0'
  go_loopw [3] (fun i wr => RCLL l nn w i wr) (fun i _ => nn - (intOf i).toNat)
  case atStart => exact ⟨0, After.here w, by omega, rfl, rfl, hid (fun i hi => absurd hi (by omega))⟩
  case round =>
    obtain ⟨j, z, hj, rfl, rfl, hp⟩ := hrel
    by_cases hlt' : j < nn
    case neg =>
      have d1 : decide ((j : Int) < (nn : Int)) = false := decide_eq_false (by omega)
      have d1' : decide (j < nn) = false := decide_eq_false (by omega)
      go_wp2_with fail
      exact bodyPost_ret (v := .int .i64 0) (by simp [results, Try.results13, go_sem]) rfl ⟨by rw [chkR_ok (by rw [HN.out]; omega) ((goodR_iff l).2 (by rw [HN.out, show nn = j by omega]; exact hp.out))], z.2⟩
    have hlt : j < l.length := by rw [HN.out]; exact hlt'
    have d1 : decide ((j : Int) < (nn : Int)) = true := decide_eq_true (by omega)
    have d1' : decide (j < nn) = true := decide_eq_true (by omega)
    have hjj : (j : Int) < (nn : Int) := by omega
    obtain ⟨b, off, rfl, hb⟩ := (HR.out z).addr (by rw [flat_len Rc.cs 5 Rc.c5]; omega)
    obtain ⟨⟨xd, xf, xk, xi, xo⟩, hx⟩ : ∃ t, rc l j = t := ⟨_, rfl⟩
    have x0 : ∀ v : After w, v.w.cell? ⟨b, off + j * 5, none⟩ = some (.int .i64 xd) := rc_cell HR.out (j := j) (hlt) 0 (by decide) (by rw [hx]; rfl) rfl
    have x1 : ∀ v : After w, v.w.cell? ⟨b, off + j * 5 + 1, none⟩ = some (.int .i64 xf) := rc_cell HR.out (j := j) (hlt) 1 (by decide) (by rw [hx]; rfl) (by omega)
    have x2 : ∀ v : After w, v.w.cell? ⟨b, off + j * 5 + 2, none⟩ = some (.int .i64 xk) := rc_cell HR.out (j := j) (hlt) 2 (by decide) (by rw [hx]; rfl) (by omega)
    have x3 : ∀ v : After w, v.w.cell? ⟨b, off + j * 5 + 3, none⟩ = some (.int .i64 xi) := rc_cell HR.out (j := j) (hlt) 3 (by decide) (by rw [hx]; rfl) (by omega)
    have x4 : ∀ v : After w, v.w.cell? ⟨b, off + j * 5 + 4, none⟩ = some (.int .i64 xo) := rc_cell HR.out (j := j) (hlt) 4 (by decide) (by rw [hx]; rfl) (by omega)
    have Hx := hid hx; clear hx
    rcases hv : rcOk ⟨xd, xf, xk, xi, xo⟩ with _ | _
    · have k24 : ∀ y : After w, Calls Try.prog 24 #[.agg #[.int .i64 xd, .int .i64 xf, .int .i64 xk, .int .i64 xi, .int .i64 xo]] y.w fun e w'' => e = .returned (.bool false) ∧ ∃ u : After w, w'' = u.w := fun y => hv ▸ met (rvalid_any xd xf xk xi xo y.w)
      have HB := hid (chkR_bad (l := l) (by rw [HN.out]; omega) (not_goodR hlt (by rw [Hx.out]; exact hv)))
      clear hv
      go_wp2_with fail
      refine wp_region_since (by kernel_rfl) (by kernel_rfl) ?_
      repeat (go_big_quiet_step ((go_at_call 24; exact k24 _)))
      refine wpQuiet_nil ?_
      intro u9
      go_wp2_with fail
      exact bodyPost_ret (v := .int .i64 420) (by simp [results, Try.results13, go_sem]) rfl ⟨by rw [HB.out], u9.2⟩
    · have k24 : ∀ y : After w, Calls Try.prog 24 #[.agg #[.int .i64 xd, .int .i64 xf, .int .i64 xk, .int .i64 xi, .int .i64 xo]] y.w fun e w'' => e = .returned (.bool true) ∧ ∃ u : After w, w'' = u.w := fun y => hv ▸ met (rvalid_any xd xf xk xi xo y.w)
      have HP := hid (show rcOk (rc l j) = true by rw [Hx.out]; exact hv)
      clear hv
      rcases Nat.eq_zero_or_pos j with rfl | hpos
      · simp only [Nat.zero_mul, Nat.add_zero] at x0 x1 x2 x3 x4
        go_wp2_with fail
        refine wp_region_since (by kernel_rfl) (by kernel_rfl) ?_
        repeat (go_big_quiet_step ((go_at_call 24; exact k24 _)))
        refine wpQuiet_nil ?_
        intro u9
        go_wp2_with fail
        clear k24
        go_roundw
        case rel => exact ⟨1, u9, by omega, by go_num, rfl, hid (hp.out.next HP.out (fun h => absurd h (by omega)))⟩
        case measure => first | (simp [intOf]; done) | (simp [intOf]; omega)
      · obtain ⟨i, rfl⟩ : ∃ i, j = i + 1 := ⟨j - 1, by omega⟩
        have hjj2 : (i : Int) + 1 < (nn : Int) := by omega
        clear hjj
        obtain ⟨⟨pd, pf, pk, pi_, po⟩, hp⟩ : ∃ t, rc l i = t := ⟨_, rfl⟩
        have p0 : ∀ v : After w, v.w.cell? ⟨b, off + i * 5, none⟩ = some (.int .i64 pd) := rc_cell HR.out (j := i) (by omega) 0 (by decide) (by rw [hp]; rfl) rfl
        have p1 : ∀ v : After w, v.w.cell? ⟨b, off + i * 5 + 1, none⟩ = some (.int .i64 pf) := rc_cell HR.out (j := i) (by omega) 1 (by decide) (by rw [hp]; rfl) (by omega)
        have p2 : ∀ v : After w, v.w.cell? ⟨b, off + i * 5 + 2, none⟩ = some (.int .i64 pk) := rc_cell HR.out (j := i) (by omega) 2 (by decide) (by rw [hp]; rfl) (by omega)
        have p3 : ∀ v : After w, v.w.cell? ⟨b, off + i * 5 + 3, none⟩ = some (.int .i64 pi_) := rc_cell HR.out (j := i) (by omega) 3 (by decide) (by rw [hp]; rfl) (by omega)
        have p4 : ∀ v : After w, v.w.cell? ⟨b, off + i * 5 + 4, none⟩ = some (.int .i64 po) := rc_cell HR.out (j := i) (by omega) 4 (by decide) (by rw [hp]; rfl) (by omega)
        have Hp := hid hp; clear hp
        rcases g1 : decide (RLt ⟨pd, pf, pk, pi_, po⟩ ⟨xd, xf, xk, xi, xo⟩) with _ | _
        · have k25 : ∀ y : After w, Calls Try.prog 25 #[.agg #[.int .i64 pd, .int .i64 pf, .int .i64 pk, .int .i64 pi_, .int .i64 po], .agg #[.int .i64 xd, .int .i64 xf, .int .i64 xk, .int .i64 xi, .int .i64 xo]] y.w fun e w'' => e = .returned (.bool false) ∧ ∃ u : After w, w'' = u.w := fun y => g1 ▸ met (less_any pd pf pk pi_ po xd xf xk xi xo y.w)
          have HB := hid (chkR_bad (l := l) (by rw [HN.out]; omega) (not_ordR hlt (by omega) (by rw [Nat.add_sub_cancel, Hp.out, Hx.out]; simpa using g1)))
          clear g1
          go_wp2_with fail
          refine wp_region_since (by kernel_rfl) (by kernel_rfl) ?_
          repeat (go_big_quiet_step ((first | (go_at_call 24; exact k24 _) | (go_at_call 25; exact k25 _))))
          refine wpQuiet_nil ?_
          intro u9
          go_wp2_with fail
          exact bodyPost_ret (v := .int .i64 420) (by simp [results, Try.results13, go_sem]) rfl ⟨by rw [HB.out], u9.2⟩
        · have k25 : ∀ y : After w, Calls Try.prog 25 #[.agg #[.int .i64 pd, .int .i64 pf, .int .i64 pk, .int .i64 pi_, .int .i64 po], .agg #[.int .i64 xd, .int .i64 xf, .int .i64 xk, .int .i64 xi, .int .i64 xo]] y.w fun e w'' => e = .returned (.bool true) ∧ ∃ u : After w, w'' = u.w := fun y => g1 ▸ met (less_any pd pf pk pi_ po xd xf xk xi xo y.w)
          have HO := hid (show RLt (rc l i) (rc l (i + 1)) by rw [Hp.out, Hx.out]; simpa using g1)
          clear g1
          go_wp2_with fail
          refine wp_region_since (by kernel_rfl) (by kernel_rfl) ?_
          repeat (go_big_quiet_step ((first | (go_at_call 24; exact k24 _) | (go_at_call 25; exact k25 _))))
          refine wpQuiet_nil ?_
          intro u9
          go_wp2_with fail
          clear k24 k25
          go_roundw
          case rel => exact ⟨i + 1 + 1, u9, by omega, by go_num, rfl, hid (hp.out.next HP.out (fun _ => by rw [Nat.add_sub_cancel]; exact HO.out))⟩
          case measure => first | (simp [intOf]; done) | (simp [intOf]; omega)
end Go.Proofs.Ytdnjpfjiaomlgaa
