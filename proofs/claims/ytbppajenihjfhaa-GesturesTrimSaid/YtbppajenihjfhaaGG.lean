/- Gestures: the reference checks. -/
import Derived.Test.YtbppajenihjfhaaGK1
namespace Go.Proofs.Ytbppajenihjfhaa
open Go.RowKit
open Go.Lib (hid)

set_option maxRecDepth 100000 in
set_option maxHeartbeats 4000000 in
theorem rvalid_any (g : Ge) (w : World) (hg : g.At w) :
    Calls Try.prog 60 #[.agg #[.int .i64 g.m, .int .i64 g.f, .int .i64 g.t, .int .i64 g.e, .slice g.a g.n g.c]] w fun e w' => e = .returned (.bool (geB g)) ∧ Below w.heap.size w w' := by
  obtain ⟨gm, gf, gt, ge, ga, gn, gc, gl⟩ := g
  obtain ⟨hl, hn, hr⟩ := hg
  dsimp only at hl hn hr
  have HN := hid hl; have HR := hid (after_rd hr)
  clear hl hr
  go_enter Try.func60, Try.ntmps60
  go_upto_region 1 with (fail)
  obtain ⟨V, hV⟩ : ∃ V, V = (w.alloc (.cells #[.int .i64 gm, .int .i64 gf, .int .i64 gt, .int .i64 ge, .slice ga gn gc] 38)) := ⟨_, rfl⟩
  have g0 : ∀ v : After V, v.w.cell? ⟨w.heap.size, 0, none⟩ = some (.int .i64 gm) := after_cell (by rw [hV]; first | (simp; done) | omega | (simp; omega)) (by rw [hV]; (repeat (first | with_reducible assumption | exact bn (by first | (simp; done) | omega | (simp; omega)) rfl | refine bo (by first | (simp; done) | omega | (simp; omega)) ?_)))
  have fg0 : ∀ v : After V, v.w.frozen? ⟨w.heap.size, 0, none⟩ = false := after_frozen (by rw [hV]; first | (simp; done) | omega | (simp; omega)) (by rw [hV]; (repeat (first | exact fn (by first | (simp; done) | omega | (simp; omega)) | refine fo (by first | (simp; done) | omega | (simp; omega)) ?_)))
  have g1 : ∀ v : After V, v.w.cell? ⟨w.heap.size, 1, none⟩ = some (.int .i64 gf) := after_cell (by rw [hV]; first | (simp; done) | omega | (simp; omega)) (by rw [hV]; (repeat (first | with_reducible assumption | exact bn (by first | (simp; done) | omega | (simp; omega)) rfl | refine bo (by first | (simp; done) | omega | (simp; omega)) ?_)))
  have fg1 : ∀ v : After V, v.w.frozen? ⟨w.heap.size, 1, none⟩ = false := after_frozen (by rw [hV]; first | (simp; done) | omega | (simp; omega)) (by rw [hV]; (repeat (first | exact fn (by first | (simp; done) | omega | (simp; omega)) | refine fo (by first | (simp; done) | omega | (simp; omega)) ?_)))
  have g2 : ∀ v : After V, v.w.cell? ⟨w.heap.size, 2, none⟩ = some (.int .i64 gt) := after_cell (by rw [hV]; first | (simp; done) | omega | (simp; omega)) (by rw [hV]; (repeat (first | with_reducible assumption | exact bn (by first | (simp; done) | omega | (simp; omega)) rfl | refine bo (by first | (simp; done) | omega | (simp; omega)) ?_)))
  have fg2 : ∀ v : After V, v.w.frozen? ⟨w.heap.size, 2, none⟩ = false := after_frozen (by rw [hV]; first | (simp; done) | omega | (simp; omega)) (by rw [hV]; (repeat (first | exact fn (by first | (simp; done) | omega | (simp; omega)) | refine fo (by first | (simp; done) | omega | (simp; omega)) ?_)))
  have g3 : ∀ v : After V, v.w.cell? ⟨w.heap.size, 3, none⟩ = some (.int .i64 ge) := after_cell (by rw [hV]; first | (simp; done) | omega | (simp; omega)) (by rw [hV]; (repeat (first | with_reducible assumption | exact bn (by first | (simp; done) | omega | (simp; omega)) rfl | refine bo (by first | (simp; done) | omega | (simp; omega)) ?_)))
  have fg3 : ∀ v : After V, v.w.frozen? ⟨w.heap.size, 3, none⟩ = false := after_frozen (by rw [hV]; first | (simp; done) | omega | (simp; omega)) (by rw [hV]; (repeat (first | exact fn (by first | (simp; done) | omega | (simp; omega)) | refine fo (by first | (simp; done) | omega | (simp; omega)) ?_)))
  have g4 : ∀ v : After V, v.w.cell? ⟨w.heap.size, 4, none⟩ = some (.slice ga gn gc) := after_cell (by rw [hV]; first | (simp; done) | omega | (simp; omega)) (by rw [hV]; (repeat (first | with_reducible assumption | exact bn (by first | (simp; done) | omega | (simp; omega)) rfl | refine bo (by first | (simp; done) | omega | (simp; omega)) ?_)))
  have fg4 : ∀ v : After V, v.w.frozen? ⟨w.heap.size, 4, none⟩ = false := after_frozen (by rw [hV]; first | (simp; done) | omega | (simp; omega)) (by rw [hV]; (repeat (first | exact fn (by first | (simp; done) | omega | (simp; omega)) | refine fo (by first | (simp; done) | omega | (simp; omega)) ?_)))
  have zg : ∀ v : After V, w.heap.size < v.w.heap.size := after_size (by rw [hV]; first | (simp; done) | omega | (simp; omega))
  have hwV : Below w.heap.size w V := by rw [hV]; exact (by repeat (first | exact Below.refl _ _ | assumption | refine b_then ?_ (by assumption) | refine b_alloc ?_ _ | refine b_drewN ?_ _ | refine b_drew ?_ | refine b_set ?_ (by omega) _ | refine b_set ?_ (by simp) _))
  have WV := hid (after_below hwV)
  rw [← hV]
  obtain ⟨u0, hu⟩ : ∃ u : After V, u.w = V := ⟨After.here V, rfl⟩
  rw [← hu]
  clear hu hV
  have RV := hid (upr hwV HR.out)
  have k0 := g0 u0
  have k1 := g1 u0
  have k2 := g2 u0
  have k3 := g3 u0
  have k4 := g4 u0
  by_cases h1 : gm < 1
  · have dh1 : decide (gm < 1) = true := decide_eq_true h1
    have hm := hid (show geB ⟨gm, gf, gt, ge, ga, gn, gc, gl⟩ = false from geB_not (fun h => by dsimp only at h; omega))
    go_wp2_with fail
    exact bodyPost_ret (v := .bool false) (by simp [results, Try.results60, go_sem]) rfl ⟨by rw [hm.out], WV.out u0⟩
  have dh1 : decide (gm < 1) = false := decide_eq_false h1
  by_cases h2 : 3 < gm
  · have dh2 : decide (3 < gm) = true := decide_eq_true h2
    have hm := hid (show geB ⟨gm, gf, gt, ge, ga, gn, gc, gl⟩ = false from geB_not (fun h => by dsimp only at h; omega))
    go_wp2_with fail
    exact bodyPost_ret (v := .bool false) (by simp [results, Try.results60, go_sem]) rfl ⟨by rw [hm.out], WV.out u0⟩
  have dh2 : decide (3 < gm) = false := decide_eq_false h2
  by_cases h3 : gf < 0
  · have dh3 : decide (gf < 0) = true := decide_eq_true h3
    have hm := hid (show geB ⟨gm, gf, gt, ge, ga, gn, gc, gl⟩ = false from geB_not (fun h => by dsimp only at h; omega))
    go_wp2_with fail
    exact bodyPost_ret (v := .bool false) (by simp [results, Try.results60, go_sem]) rfl ⟨by rw [hm.out], WV.out u0⟩
  have dh3 : decide (gf < 0) = false := decide_eq_false h3
  by_cases h4 : gt ≤ gf
  · have dh4 : decide (gt ≤ gf) = true := decide_eq_true h4
    have hm := hid (show geB ⟨gm, gf, gt, ge, ga, gn, gc, gl⟩ = false from geB_not (fun h => by dsimp only at h; omega))
    go_wp2_with fail
    exact bodyPost_ret (v := .bool false) (by simp [results, Try.results60, go_sem]) rfl ⟨by rw [hm.out], WV.out u0⟩
  have dh4 : decide (gt ≤ gf) = false := decide_eq_false h4
  by_cases h5 : ge < gt
  · have dh5 : decide (ge < gt) = true := decide_eq_true h5
    have hm := hid (show geB ⟨gm, gf, gt, ge, ga, gn, gc, gl⟩ = false from geB_not (fun h => by dsimp only at h; omega))
    go_wp2_with fail
    exact bodyPost_ret (v := .bool false) (by simp [results, Try.results60, go_sem]) rfl ⟨by rw [hm.out], WV.out u0⟩
  have dh5 : decide (ge < gt) = false := decide_eq_false h5
  by_cases h6 : 1099511627776 < ge
  · have dh6 : decide (1099511627776 < ge) = true := decide_eq_true h6
    have hm := hid (show geB ⟨gm, gf, gt, ge, ga, gn, gc, gl⟩ = false from geB_not (fun h => by dsimp only at h; omega))
    go_wp2_with fail
    exact bodyPost_ret (v := .bool false) (by simp [results, Try.results60, go_sem]) rfl ⟨by rw [hm.out], WV.out u0⟩
  have dh6 : decide (1099511627776 < ge) = false := decide_eq_false h6
  by_cases h7 : gm = 2 ∨ ge = gt
  case neg =>
    have e1 : (gm == 2) = false := beq_eq_false_iff_ne.2 (by omega)
    have e2 : (ge == gt) = false := beq_eq_false_iff_ne.2 (by omega)
    have hm := hid (show geB ⟨gm, gf, gt, ge, ga, gn, gc, gl⟩ = false from geB_not (fun h => by dsimp only at h; omega))
    go_wp2_with fail
    exact bodyPost_ret (v := .bool false) (by simp [results, Try.results60, go_sem]) rfl ⟨by rw [hm.out], WV.out u0⟩
  have call : 0 < gn → Calls Try.prog 51 #[.slice ga gn gc] u0.w fun e w'' => e = .returned (.int .i64 (chkK gl)) ∧ ∃ v : After V, w'' = v.w := fun _ => met (rkcheck_any gl gn HN.out ga gc u0.w hn (RV.out u0))
  have hB7 : geB ⟨gm, gf, gt, ge, ga, gn, gc, gl⟩ = (decide (0 < gl.length) && decide (chkK gl = 0)) := by
    rw [Bool.eq_iff_iff, geB_iff, Bool.and_eq_true, decide_eq_true_eq, decide_eq_true_eq]
    dsimp only
    omega
  have HB7 := hid hB7
  clear hB7
  rcases hm2 : (gm == 2) with _ | _
  · have e2 : (ge == gt) = true := by rw [beq_iff_eq]; have := beq_eq_false_iff_ne.1 hm2; omega
    clear h7 h1 h2 h3 h4 h5 h6
    by_cases h0 : 0 < gn
    case neg =>
      have d0 : decide (0 < (gn : Int)) = false := decide_eq_false (by omega)
      have d0' : decide (0 < gn) = false := decide_eq_false (by omega)
      go_wp2_with fail
      exact bodyPost_ret (v := .bool false) (by simp [results, Try.results60, go_sem]) rfl ⟨by rw [HB7.out, decide_eq_false (by rw [HN.out]; omega)]; rfl, WV.out u0⟩
    have d0 : decide (0 < (gn : Int)) = true := decide_eq_true (by omega)
    have d0' : decide (0 < gn) = true := decide_eq_true (by omega)
    go_wp2_with fail
    refine (call h0).mono ?_
    rintro e _ ⟨rfl, u1, rfl⟩
    have hfin := hid (show geB ⟨gm, gf, gt, ge, ga, gn, gc, gl⟩ = (chkK gl == 0) by rw [HB7.out, decide_eq_true (show 0 < gl.length by rw [HN.out]; exact h0), Bool.true_and]; by_cases h : chkK gl = 0 <;> simp [h])
    obtain ⟨K, hK⟩ : ∃ K, chkK gl = K := ⟨_, rfl⟩
    rw [hK] at hfin
    rw [hK]
    clear hK HB7
    rcases hk0 : (K == 0) with _ | _
    · go_wp2_with fail
      exact bodyPost_ret (v := .bool false) (by simp [results, Try.results60, go_sem]) rfl ⟨by rw [hfin.out, hk0], WV.out u1⟩
    · go_wp2_with fail
      exact bodyPost_ret (v := .bool true) (by simp [results, Try.results60, go_sem]) rfl ⟨by rw [hfin.out, hk0], WV.out u1⟩
  · clear h7 h1 h2 h3 h4 h5 h6
    by_cases h0 : 0 < gn
    case neg =>
      have d0 : decide (0 < (gn : Int)) = false := decide_eq_false (by omega)
      have d0' : decide (0 < gn) = false := decide_eq_false (by omega)
      go_wp2_with fail
      exact bodyPost_ret (v := .bool false) (by simp [results, Try.results60, go_sem]) rfl ⟨by rw [HB7.out, decide_eq_false (by rw [HN.out]; omega)]; rfl, WV.out u0⟩
    have d0 : decide (0 < (gn : Int)) = true := decide_eq_true (by omega)
    have d0' : decide (0 < gn) = true := decide_eq_true (by omega)
    go_wp2_with fail
    refine (call h0).mono ?_
    rintro e _ ⟨rfl, u1, rfl⟩
    have hfin := hid (show geB ⟨gm, gf, gt, ge, ga, gn, gc, gl⟩ = (chkK gl == 0) by rw [HB7.out, decide_eq_true (show 0 < gl.length by rw [HN.out]; exact h0), Bool.true_and]; by_cases h : chkK gl = 0 <;> simp [h])
    obtain ⟨K, hK⟩ : ∃ K, chkK gl = K := ⟨_, rfl⟩
    rw [hK] at hfin
    rw [hK]
    clear hK HB7
    rcases hk0 : (K == 0) with _ | _
    · go_wp2_with fail
      exact bodyPost_ret (v := .bool false) (by simp [results, Try.results60, go_sem]) rfl ⟨by rw [hfin.out, hk0], WV.out u1⟩
    · go_wp2_with fail
      exact bodyPost_ret (v := .bool true) (by simp [results, Try.results60, go_sem]) rfl ⟨by rw [hfin.out, hk0], WV.out u1⟩
def RCG (l : List Ge) (n : Nat) (V : World) (i : Value) (wr : World) : Prop := ∃ (j : Nat) (z : After V), j ≤ n ∧ j ≤ 64 ∧ i = .int .i64 j ∧ wr = z.w ∧ Hid (PreG l j)
set_option maxRecDepth 100000 in
set_option maxHeartbeats 4000000 in
theorem rgcheck_any (l : List Ge) (nn : Nat) (hnn : l.length = nn) (a : Option Addr) (c : Nat) (w : World) (hn : nn ≤ 9223372036854775807) (hr : Ges w a l) :
    Calls Try.prog 30 #[.slice a nn c] w fun e w' => e = .returned (.int .i64 (chkG l)) ∧ Below w.heap.size w w' := by
  have HN := hid hnn; have HR := hid (after_ges hr); have HRD := hid (fun v : After w => (HR.out v).rd)
  clear hnn hr
  go_enter Try.func30, Try.ntmps30
  go_wp2_with fail
  go_loopw [3] (fun i wr => RCG l nn w i wr) (fun i _ => nn - (intOf i).toNat)
  case atStart => exact ⟨0, After.here w, by omega, by omega, rfl, rfl, hid fun i hi => absurd hi (by omega)⟩
  case round =>
    obtain ⟨j, z, hj, hj64, rfl, rfl, hp⟩ := hrel
    by_cases hlt' : j < nn
    case neg =>
      have d1 : decide ((j : Int) < (nn : Int)) = false := decide_eq_false (by omega)
      have d1' : decide (j < nn) = false := decide_eq_false (by omega)
      go_wp2_with fail
      exact bodyPost_ret (v := .int .i64 0) (by simp [results, Try.results30, go_sem]) rfl ⟨by rw [chkG_ok ((gesB_iff l).2 ⟨by rw [HN.out]; omega, fun i hi => hp.out i (by rw [HN.out] at hi; omega)⟩)], z.2⟩
    have hlt : j < l.length := by rw [HN.out]; exact hlt'
    have d1 : decide ((j : Int) < (nn : Int)) = true := decide_eq_true (by omega)
    have d1' : decide (j < nn) = true := decide_eq_true (by omega)
    by_cases h64 : 64 ≤ j
    · have d2 : decide ((64 : Int) ≤ (j : Int)) = true := decide_eq_true (by omega)
      have hm := hid (many_ges (l := l) (by omega))
      go_wp2_with fail
      exact bodyPost_ret (v := .int .i64 120) (by simp [results, Try.results30, go_sem]) rfl ⟨by rw [hm.out], z.2⟩
    have d2 : decide ((64 : Int) ≤ (j : Int)) = false := decide_eq_false (by omega)
    have hjj : (j : Int) < (nn : Int) := by omega
    obtain ⟨b, off, rfl, hb⟩ := (HR.out z).addr (by omega)
    have hat := (HR.out z).at_ j hlt
    obtain ⟨⟨gm, gf, gt, ge, ga, gn, gc, gl⟩, hg⟩ : ∃ t, ge l j = t := ⟨_, rfl⟩
    have g0 : ∀ v : After w, v.w.cell? ⟨b, off + j * 5, none⟩ = some (.int .i64 gm) := ge_cell HRD.out (j := j) (hlt) 0 (by decide) (by rw [hg]; rfl) rfl
    have g1 : ∀ v : After w, v.w.cell? ⟨b, off + j * 5 + 1, none⟩ = some (.int .i64 gf) := ge_cell HRD.out (j := j) (hlt) 1 (by decide) (by rw [hg]; rfl) (by omega)
    have g2 : ∀ v : After w, v.w.cell? ⟨b, off + j * 5 + 2, none⟩ = some (.int .i64 gt) := ge_cell HRD.out (j := j) (hlt) 2 (by decide) (by rw [hg]; rfl) (by omega)
    have g3 : ∀ v : After w, v.w.cell? ⟨b, off + j * 5 + 3, none⟩ = some (.int .i64 ge) := ge_cell HRD.out (j := j) (hlt) 3 (by decide) (by rw [hg]; rfl) (by omega)
    have g4 : ∀ v : After w, v.w.cell? ⟨b, off + j * 5 + 4, none⟩ = some (.slice ga gn gc) := ge_cell HRD.out (j := j) (hlt) 4 (by decide) (by rw [hg]; rfl) (by omega)
    rw [hg] at hat
    have Hg := hid hg; clear hg
    have k0 := g0 z
    have k1 := g1 z
    have k2 := g2 z
    have k3 := g3 z
    have k4 := g4 z
    have HAT := hid hat
    clear hat
    go_wp2_with fail
    refine (met (rvalid_any ⟨gm, gf, gt, ge, ga, gn, gc, gl⟩ z.w HAT.out)).mono ?_
    rintro e _ ⟨rfl, u1, rfl⟩
    clear k0 k1 k2 k3 k4
    rcases hv : geB ⟨gm, gf, gt, ge, ga, gn, gc, gl⟩ with _ | _
    · have hm := hid (not_ges hlt (by rw [Hg.out]; exact hv))
      clear hv
      go_wp2_with fail
      exact bodyPost_ret (v := .int .i64 120) (by simp [results, Try.results30, go_sem]) rfl ⟨by rw [hm.out], u1.2⟩
    · have HV := hid hv
      clear hv
      go_wp2_with fail
      go_roundw
      case rel => exact ⟨j + 1, u1, by omega, by omega, by go_num, rfl, hid (hp.out.next (by rw [Hg.out]; exact HV.out))⟩
      case measure => first | (simp [intOf]; done) | (simp [intOf]; omega)
end Go.Proofs.Ytbppajenihjfhaa
