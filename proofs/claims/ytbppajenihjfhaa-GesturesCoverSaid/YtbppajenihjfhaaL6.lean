/- GesturesCover. -/
import Derived.Test.YtbppajenihjfhaaGK2
import Derived.Test.YtbppajenihjfhaaY
namespace Go.Proofs.Ytbppajenihjfhaa
open Go.RowKit
open Go.Lib (hid)

def COVL (l : List Ge) (n : Nat) (x : Int) (V : World) (cv i : Value) (wr : World) : Prop := ∃ (j : Nat) (z : After V), j ≤ n ∧ i = .int .i64 j ∧ cv = .bool (covJ l x j) ∧ wr = z.w
set_option maxRecDepth 100000 in
set_option maxHeartbeats 4000000 in
theorem gcSpec_walk (p q : Int) (hp : R64 p) (hq : R64 q) (x : Int) (l : List Ge) (nn : Nat) (hnn : l.length = nn) (a : Option Addr) (c : Nat) (hb : nn ≤ 9223372036854775807) (W : World) (hr : Ges W a l) :
    Calls Try.prog 6 #[.int .i64 p, .int .i64 q, .slice a nn c, .int .i64 x] W fun e w' => e = .returned (.bool true) ∧ Below W.heap.size W w' := by
  have HP := hid hp; have HQ := hid hq; clear hp hq
  have HN := hid hnn; have HR := hid (after_ges hr)
  clear hnn hr
  go_enter Try.func6, Try.ntmps6
  go_wp2_with fail
  refine (met0 (sane12_any W)).mono ?_
  rintro e _ ⟨rfl, u1, rfl⟩
  go_wp2_with fail
  refine (gfew_any l nn HN.out a c u1.w hb (HR.out u1)).mono ?_
  rintro e w9 ⟨rfl, rfl⟩
  rcases hfew : fewB l with _ | _
  · clear hfew
    go_wp2_with fail
    exact bodyPost_ret (v := .bool true) (by simp [results, Try.results6, go_sem]) rfl ⟨rfl, u1.2⟩
  clear hfew
  go_wp2_with fail
  refine (met (rgcheck_any l nn HN.out a c u1.w hb (HR.out u1))).mono ?_
  rintro e _ ⟨rfl, u2, rfl⟩
  by_cases hc : chkG l = 0
  case neg =>
    rw [chkG_bad hc]
    clear hc
    go_wp2_with fail
    exact bodyPost_ret (v := .bool true) (by simp [results, Try.results6, go_sem]) rfl ⟨rfl, u2.2⟩
  have h64 := ges_len hc
  rw [HN.out] at h64
  rw [hc]
  have HC := hid hc; clear hc
  go_wp2_with fail
  go_loopw [9, 28] (fun cv i wr => COVL l nn x W cv i wr) (fun _ i _ => nn - (intOf i).toNat)
  case atStart => exact ⟨0, u2, by omega, rfl, rfl, rfl⟩
  case round =>
    obtain ⟨j, z, hj, rfl, rfl, rfl⟩ := hrel
    by_cases hlt' : j < nn
    case neg =>
      have d1 : decide ((j : Int) < (nn : Int)) = false := decide_eq_false (by omega)
      have d1' : decide (j < nn) = false := decide_eq_false (by omega)
      obtain rfl : j = nn := by omega
      have hcv : covJ l x j = true → vgv p l x = vgv q l x := fun h => by
        rw [vgv_ok HC.out, vgv_ok HC.out]
        exact allV_cov (by rw [HN.out]; exact h)
      have HCV := hid hcv
      clear hcv
      obtain ⟨B, hB⟩ : ∃ B, covJ l x j = B := ⟨_, rfl⟩
      rw [hB] at HCV ⊢
      clear hB
      go_wp2_with fail
      refine (met (gValue_any l j HN.out a c p x HP.out z.w hb (HR.out z))).mono ?_
      rintro e _ ⟨rfl, u3, rfl⟩
      rw [HC.out]
      obtain ⟨V1, hV1⟩ : ∃ y, vgv p l x = y := ⟨_, rfl⟩
      rw [hV1] at HCV ⊢
      clear hV1
      go_wp2_with fail
      refine (met (gValue_any l j HN.out a c q x HQ.out u3.w hb (HR.out u3))).mono ?_
      rintro e _ ⟨rfl, u4, rfl⟩
      rw [HC.out]
      obtain ⟨V2, hV2⟩ : ∃ y, vgv q l x = y := ⟨_, rfl⟩
      rw [hV2] at HCV ⊢
      clear hV2
      cases B
      · go_wp2_with fail
        exact bodyPost_ret (v := .bool true) (by simp [results, Try.results6, go_sem]) rfl ⟨rfl, u4.2⟩
      · obtain rfl := HCV.out rfl
        have e1 : (V1 == V1) = true := beq_self_eq_true _
        go_wp2_with fail
        exact bodyPost_ret (v := .bool true) (by simp [results, Try.results6, go_sem]) rfl ⟨rfl, u4.2⟩
    have hlt : j < l.length := by rw [HN.out]; exact hlt'
    have d1 : decide ((j : Int) < (nn : Int)) = true := decide_eq_true (by omega)
    have d1' : decide (j < nn) = true := decide_eq_true (by omega)
    have hjj : (j : Int) < (nn : Int) := by omega
    obtain ⟨b, off, rfl, hb0⟩ := (HR.out z).addr (by omega)
    have HRD := hid (fun v : After W => (HR.out v).rd)
    obtain ⟨⟨gm, gf, gt, ge, ga, gn, gc, gl⟩, hg⟩ : ∃ t, ge l j = t := ⟨_, rfl⟩
    have g0 : ∀ v : After W, v.w.cell? ⟨b, off + j * 5, none⟩ = some (.int .i64 gm) := ge_cell HRD.out (j := j) (hlt) 0 (by decide) (by rw [hg]; rfl) rfl
    have g1 : ∀ v : After W, v.w.cell? ⟨b, off + j * 5 + 1, none⟩ = some (.int .i64 gf) := ge_cell HRD.out (j := j) (hlt) 1 (by decide) (by rw [hg]; rfl) (by omega)
    have g2 : ∀ v : After W, v.w.cell? ⟨b, off + j * 5 + 2, none⟩ = some (.int .i64 gt) := ge_cell HRD.out (j := j) (hlt) 2 (by decide) (by rw [hg]; rfl) (by omega)
    have g3 : ∀ v : After W, v.w.cell? ⟨b, off + j * 5 + 3, none⟩ = some (.int .i64 ge) := ge_cell HRD.out (j := j) (hlt) 3 (by decide) (by rw [hg]; rfl) (by omega)
    have g4 : ∀ v : After W, v.w.cell? ⟨b, off + j * 5 + 4, none⟩ = some (.slice ga gn gc) := ge_cell HRD.out (j := j) (hlt) 4 (by decide) (by rw [hg]; rfl) (by omega)
    have Hg := hid hg; clear hg
    have k0 := g0 z
    have k1 := g1 z
    have k2 := g2 z
    have k3 := g3 z
    have k4 := g4 z
    go_upto_region 9 with (fail)
    have hbx : BoxV W z.w.heap.size [.int .i64 gm, .int .i64 gf, .int .i64 gt, .int .i64 ge, .slice ga gn gc] (z.w.alloc (.cells #[.int .i64 gm, .int .i64 gf, .int .i64 gt, .int .i64 ge, .slice ga gn gc] 38)) := BoxV.new z.w_below #[.int .i64 gm, .int .i64 gf, .int .i64 gt, .int .i64 ge, .slice ga gn gc] 38
    obtain ⟨u0, hu⟩ : ∃ u : After W, u.w = z.w.alloc (.cells #[.int .i64 gm, .int .i64 gf, .int .i64 gt, .int .i64 ge, .slice ga gn gc] 38) := ⟨z.on (b_alloc (Below.refl _ _) _), rfl⟩
    rw [← hu] at hbx
    rw [← hu]
    clear k0 k1 k2 k3 k4 hu
    have k0 := hbx.cell 0 _ rfl
    have k1 := hbx.cell 1 _ rfl
    have k3 := hbx.cell 3 _ rfl
    clear hbx
    have hcj : covJ l x (j + 1) = (covJ l x j || covB ⟨gm, gf, gt, ge, ga, gn, gc, gl⟩ x) := by rw [covJ, Hg.out]
    unfold covB at hcj
    dsimp only at hcj
    have HCJ := hid hcj
    clear hcj
    obtain ⟨B, hB⟩ : ∃ B, covJ l x j = B := ⟨_, rfl⟩
    rw [hB] at HCJ ⊢
    clear hB
    cases B
    case true =>
      go_wp2_with fail
      go_roundw
      case rel => exact ⟨j + 1, u0, by omega, by go_num, by rw [show covJ l x (j + 1) = true from by rw [HCJ.out]; rfl], rfl⟩
      case measure => first | (simp [intOf]; done) | (simp [intOf]; omega)
    by_cases h1 : gm = 3
    · have e1 : (gm != 3) = false := by simp [h1]
      have e9 : (gm == 3) = true := by simp [h1]
      go_wp2_with fail
      go_roundw
      case rel => exact ⟨j + 1, u0, by omega, by go_num, by rw [show covJ l x (j + 1) = false from by rw [HCJ.out, e9]; rfl], rfl⟩
      case measure => first | (simp [intOf]; done) | (simp [intOf]; omega)
    have e1 : (gm != 3) = true := by simp [h1]
    have e9 : (gm == 3) = false := by simp [h1]
    by_cases h2 : gf ≤ x
    case neg =>
      have e2 : decide (gf ≤ x) = false := decide_eq_false h2
      go_wp2_with fail
      go_roundw
      case rel => exact ⟨j + 1, u0, by omega, by go_num, by rw [show covJ l x (j + 1) = false from by rw [HCJ.out, e9, e2]; rfl], rfl⟩
      case measure => first | (simp [intOf]; done) | (simp [intOf]; omega)
    have e2 : decide (gf ≤ x) = true := decide_eq_true h2
    by_cases h3 : x < ge
    · have e3 : decide (x < ge) = true := decide_eq_true h3
      go_wp2_with fail
      go_roundw
      case rel => exact ⟨j + 1, u0, by omega, by go_num, by rw [show covJ l x (j + 1) = true from by rw [HCJ.out, e9, e2, e3]; rfl], rfl⟩
      case measure => first | (simp [intOf]; done) | (simp [intOf]; omega)
    · have e3 : decide (x < ge) = false := decide_eq_false h3
      go_wp2_with fail
      go_roundw
      case rel => exact ⟨j + 1, u0, by omega, by go_num, by rw [show covJ l x (j + 1) = false from by rw [HCJ.out, e9, e2, e3]; rfl], rfl⟩
      case measure => first | (simp [intOf]; done) | (simp [intOf]; omega)
end Go.Proofs.Ytbppajenihjfhaa
namespace Go.Proofs.Ytbppajenihjfhaa.Gs6
open Go.ChangeShapes Go.WideShapes Go.ChangeAt Go.RowKit Go.Joins

theorem own : ownKnob Try.prog.godebug = none := by kernel_rfl
theorem laidOut : laidOutB Try.prog = true := by kernel_rfl

set_option maxRecDepth 100000 in
theorem lifted (os : Os) (started : os.Started) (H : Type) (enc : TypeId × Value → H) :
    ReturnsInHanded {} Try.checked os 6 .any (Rows.gesturesCoverSpec.pre6 enc Try.prog Try.f6 Rows.gesturesCoverRow.domain false) (Rows.gesturesCoverSpec.post enc Try.prog Try.f6 false true false false) := by
  refine returnsInHanded_of_change (C := Try.checked) own started (by kernel_rfl) Try.func6
    (ChangeSpec.witness6 (enc := enc) (C := Try.checked) false ⟨#[], #[.int .i64 0, .int .i64 0, .slice none 0 0, .int .i64 0], []⟩ 8 (by kernel_rfl) (by kernel_rfl) (by kernel_rfl) (by kernel_rfl)) ?_
  intro W base args ds gs before hval0 hW hcnd _
  have hval : ∀ (j : Nat) t v, Try.f6.params[j]? = some t → args[j]? = some v → Value.okWide Try.prog W .any base t v := hval0
  have hW' := hW
  obtain ⟨p, q, hA0, hV, rfl, hfz, hnd⟩ := hW
  have hA : DataW.TrodAll enc Try.prog W 0 (fun _ => true) true Try.f6.params.toList args.toList ds p := hA0
  rw [Try.params6] at hA hval
  obtain ⟨v0, vs0, d0, ds0, p0, q0, hargs, rfl, rfl, h0, r0⟩ := trodAll_cons hA
  obtain ⟨v1, vs1, d1, ds1, p1, q1, rfl, rfl, rfl, h1, r1⟩ := trodAll_cons r0
  obtain ⟨v2, vs2, d2, ds2, p2, q2, rfl, rfl, rfl, h2, r2⟩ := trodAll_cons r1
  obtain ⟨v3, vs3, d3, ds3, p3, q3, rfl, rfl, rfl, h3, r3⟩ := trodAll_cons r2
  obtain ⟨rfl, rfl, rfl⟩ := trodAll_nil r3
  obtain rfl : args = #[v0, v1, v2, v3] := by cases args; simp_all
  obtain ⟨rfl, rfl⟩ := trodVars_none hV
  obtain ⟨a0, rfl, rfl, rfl, w0⟩ := open_int Try.underlying3 (hval 0 3 v0 rfl rfl) h0
  obtain ⟨a1, rfl, rfl, rfl, w1⟩ := open_int Try.underlying3 (hval 1 3 v1 rfl rfl) h1
  have k2 := h2
  have lt2 : ∀ x ∈ p2, x.block < W.heap.size := by obtain ⟨m, hm⟩ := k2; exact DataW.trod_lt m _ _ _ hm
  obtain ⟨xa2, xn2, xc2, rfl⟩ := okWide_slice Try.underlying22 (hval 2 22 v2 rfl rfl)
  obtain ⟨m2, hm2⟩ := h2
  obtain ⟨a2, n2, c2, e2, lc2, mc2, fz2, ⟨l2, ln2, rd2⟩⟩ := open_ges hm2
  cases e2
  have nb2 := Nat.le_trans lc2 (max_len mc2)
  obtain ⟨a3, rfl, rfl, rfl, w3⟩ := open_int Try.underlying3 (hval 3 3 v3 rfl rfl) h3
  clear hA0 hval0
  refine (gcSpec_walk a0 a1 (i64_rng w0) (i64_rng w1) a3 l2 xn2 ln2 xa2 xc2 nb2 W rd2).mono fun e W' ⟨he, bel⟩ => ?_
  subst he
  exact ⟨_, rfl, _, _, _, [], _, [], hW', trodAll_mk1 (shut_bool Try.underlying4 _), (trodAll_cons_mk (shut_int Try.underlying3 w0) (trodAll_cons_mk (shut_int Try.underlying3 w1) (trodAll_cons_mk (Below.trod laidOut (by kernel_rfl) (of_decide_eq_true (by kernel_rfl)) k2 bel lt2) (trodAll_cons_mk (shut_int Try.underlying3 w3) trodAll_mk0)))), rfl, bel.frame _, fun h => by cases h⟩

theorem over : Rows.gesturesCoverRow.holds Try.pinned (OpenSpec.ofChange Rows.gesturesCoverSpec) :=
  OpenClaim.holds_of_wide 6 Try.f6 rfl rfl rfl rfl rfl rfl rfl ⟨rfl, rfl, rfl, rfl, rfl⟩ rfl rfl rfl rfl rfl (by kernel_rfl) Try.func6 (by show joinedFacts Try.prog _ _ _ _ = true; unfold joinedFacts; rw [may0, lift0, make0]; kernel_rfl)
    (of_decide_eq_true (by kernel_rfl)) (by unfold Func.isWrapper; first | (rw [if_pos (by decide +kernel)]; kernel_rfl) | (rw [if_neg (by decide +kernel)]; exact ⟨rfl, rfl⟩))
    (fun os started H enc _ => lifted os started H enc)
end Go.Proofs.Ytbppajenihjfhaa.Gs6
namespace Go.Proofs.Ytbppajenihjfhaa
/-- The statement. -/
theorem gesturesCover_holds : Rows.GesturesCoverSaid := Gs6.over
end Go.Proofs.Ytbppajenihjfhaa
