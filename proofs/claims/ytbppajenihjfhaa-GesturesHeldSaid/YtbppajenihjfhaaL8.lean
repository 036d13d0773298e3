/- GesturesHeld. -/
import Derived.Test.YtbppajenihjfhaaGK2
import Derived.Test.YtbppajenihjfhaaY
import Derived.IntWalk
namespace Go.Proofs.Ytbppajenihjfhaa
open Go.RowKit
open Go.Lib (hid)

set_option maxRecDepth 100000 in
set_option maxHeartbeats 4000000 in
theorem ghSpec_walk (b x : Int) (hv : R64 b) (g : Ge) (W : World) (hg : g.At W) :
    Calls Try.prog 8 #[.int .i64 b, .agg #[.int .i64 g.m, .int .i64 g.f, .int .i64 g.t, .int .i64 g.e, .slice g.a g.n g.c], .int .i64 x] W fun e w' => e = .returned (.bool true) ∧ Below W.heap.size W w' := by
  have HV := hid hv; clear hv
  obtain ⟨gm, gf, gt, ge, ga, gn, gc, gl⟩ := g
  have HG := hid hg; clear hg
  dsimp only
  go_enter Try.func8, Try.ntmps8
  go_upto_region 1 with (fail)
  obtain ⟨u0, hu⟩ : ∃ u : After W, u.w = W.alloc (.cells #[.int .i64 gm, .int .i64 gf, .int .i64 gt, .int .i64 ge, .slice ga gn gc] 38) := ⟨After.to (b_alloc (Below.refl _ _) _), rfl⟩
  have hbx : BoxV W W.heap.size [.int .i64 gm, .int .i64 gf, .int .i64 gt, .int .i64 ge, .slice ga gn gc] u0.w := by rw [hu]; exact BoxV.new (Below.refl _ _) #[.int .i64 gm, .int .i64 gf, .int .i64 gt, .int .i64 ge, .slice ga gn gc] 38
  rw [← hu]
  clear hu
  obtain ⟨B, hB⟩ : ∃ B, W.heap.size = B := ⟨_, rfl⟩
  rw [hB] at hbx ⊢
  clear hB
  go_wp2_with fail
  refine (sane12_any u0.w).mono ?_
  rintro e w9 ⟨rfl, hB9⟩
  replace hbx := hbx.after hB9
  obtain ⟨u1, rfl⟩ : ∃ y : After W, w9 = y.w := ⟨u0.on hB9, rfl⟩
  clear hB9
  have k0 := hbx.cell 0 _ rfl
  have k1 := hbx.cell 1 _ rfl
  have k2 := hbx.cell 2 _ rfl
  have k3 := hbx.cell 3 _ rfl
  have k4 := hbx.cell 4 _ rfl
  go_wp2_with fail
  obtain ⟨V, hV⟩ : ∃ V, V = u1.w.alloc (.cells #[.int .i64 gm, .int .i64 gf, .int .i64 gt, .int .i64 ge, .slice ga gn gc] 38) := ⟨_, rfl⟩
  have hWV : Below W.heap.size W V := by rw [hV]; exact b_alloc u1.w_below _
  have WV := hid (after_below hWV)
  have hb2 : BoxV W B [.int .i64 gm, .int .i64 gf, .int .i64 gt, .int .i64 ge, .slice ga gn gc] V := by rw [hV]; exact hbx.alloc _
  have hgs : Ges V (some ⟨u1.w.heap.size, 0, none⟩) [⟨gm, gf, gt, ge, ga, gn, gc, gl⟩] := by rw [hV]; exact Ges.one (rd_new u1.w #[.int .i64 gm, .int .i64 gf, .int .i64 gt, .int .i64 ge, .slice ga gn gc] 38 rfl) (HG.out.below (b_alloc u1.w_below _))
  obtain ⟨L, hL⟩ : ∃ L, u1.w.heap.size = L := ⟨_, rfl⟩
  rw [hL] at hgs ⊢
  rw [← hV]
  have HR := hid (after_ges hgs)
  have d0 := after_cell hb2.size (hb2.cell 0 _ rfl)
  have d1 := after_cell hb2.size (hb2.cell 1 _ rfl)
  have d2 := after_cell hb2.size (hb2.cell 2 _ rfl)
  have d3 := after_cell hb2.size (hb2.cell 3 _ rfl)
  have d4 := after_cell hb2.size (hb2.cell 4 _ rfl)
  clear k0 k1 k2 k3 k4 hb2 hgs hV hL hbx
  refine (gfew_any [⟨gm, gf, gt, ge, ga, gn, gc, gl⟩] 1 rfl (some ⟨L, 0, none⟩) 1 V (by omega) (HR.out (After.here V))).mono ?_
  rintro e w9 ⟨rfl, hw9⟩
  obtain ⟨u2, hu2⟩ : ∃ u : After V, u.w = V := ⟨After.here V, rfl⟩
  rw [← hw9, ← hu2]
  clear hw9 hu2
  rcases hfew : fewB [⟨gm, gf, gt, ge, ga, gn, gc, gl⟩] with _ | _
  · clear hfew
    go_wp2_with fail
    exact bodyPost_ret (v := .bool true) (by simp [results, Try.results8, go_sem]) rfl ⟨rfl, WV.out u2⟩
  clear hfew
  go_wp2_with fail
  refine (met (rgcheck_any [⟨gm, gf, gt, ge, ga, gn, gc, gl⟩] 1 rfl (some ⟨L, 0, none⟩) 1 u2.w (by omega) (HR.out u2))).mono ?_
  rintro e _ ⟨rfl, u3, rfl⟩
  by_cases hc : chkG [⟨gm, gf, gt, ge, ga, gn, gc, gl⟩] = 0
  case neg =>
    rw [chkG_bad hc]
    clear hc
    go_wp2_with fail
    exact bodyPost_ret (v := .bool true) (by simp [results, Try.results8, go_sem]) rfl ⟨rfl, WV.out u3⟩
  have hok : geB ⟨gm, gf, gt, ge, ga, gn, gc, gl⟩ = true := ges_at hc (i := 0) (by simp)
  rw [hc]
  have HC := hid hc; clear hc
  have k0 := d0 u3
  have k1 := d1 u3
  have k2 := d2 u3
  have k3 := d3 u3
  have k4 := d4 u3
  by_cases h2 : gm = 2
  case neg =>
    have e1 : (gm != 2) = true := by simpa using h2
    go_wp2_with fail
    exact bodyPost_ret (v := .bool true) (by simp [results, Try.results8, go_sem]) rfl ⟨rfl, WV.out u3⟩
  subst h2
  have hh := held (g := ⟨2, gf, gt, ge, ga, gn, gc, gl⟩) hok rfl b x
  have hok2 := (geB_iff _).1 hok
  dsimp only at hh hok2
  have hb1 : 0 ≤ gf := hok2.2.2.1
  have hb2 : gf < gt := hok2.2.2.2.1
  have hb3 : gt ≤ ge := hok2.2.2.2.2.1
  have hb4 : ge ≤ 1099511627776 := hok2.2.2.2.2.2.1
  have HH := hid hh
  clear hok hok2 hh
  obtain ⟨T1, hT1⟩ : ∃ T, gt - 1 = T := ⟨_, rfl⟩
  rw [hT1] at HH
  have hw1 : IntKind.i64.wrap T1 = T1 := IntWalk.i64_in _ (by omega)
  go_wp2_with fail
  refine (met (gValue_any [⟨2, gf, gt, ge, ga, gn, gc, gl⟩] 1 rfl (some ⟨L, 0, none⟩) 1 b x HV.out u3.w (by omega) (HR.out u3))).mono ?_
  rintro e _ ⟨rfl, u4, rfl⟩
  rw [HC.out, vgv_ok HC.out]
  obtain ⟨V1, hV1⟩ : ∃ y, allV b [⟨2, gf, gt, ge, ga, gn, gc, gl⟩] x = y := ⟨_, rfl⟩
  rw [hV1] at HH ⊢
  clear hV1 k0 k1 k2 k3 k4
  have k0 := d0 u4
  have k1 := d1 u4
  have k2 := d2 u4
  have k3 := d3 u4
  have k4 := d4 u4
  go_wp2_with fail
  refine (met (gValue_any [⟨2, gf, gt, ge, ga, gn, gc, gl⟩] 1 rfl (some ⟨L, 0, none⟩) 1 b T1 HV.out u4.w (by omega) (HR.out u4))).mono ?_
  rintro e _ ⟨rfl, u5, rfl⟩
  rw [HC.out, vgv_ok HC.out]
  obtain ⟨V2, hV2⟩ : ∃ y, allV b [⟨2, gf, gt, ge, ga, gn, gc, gl⟩] T1 = y := ⟨_, rfl⟩
  rw [hV2] at HH ⊢
  clear hV2 k0 k1 k2 k3 k4
  have k0 := d0 u5
  have k1 := d1 u5
  have k2 := d2 u5
  have k3 := d3 u5
  have k4 := d4 u5
  go_wp2_with fail
  refine (met (gValue_any [⟨2, gf, gt, ge, ga, gn, gc, gl⟩] 1 rfl (some ⟨L, 0, none⟩) 1 b ge HV.out u5.w (by omega) (HR.out u5))).mono ?_
  rintro e _ ⟨rfl, u6, rfl⟩
  rw [HC.out, vgv_ok HC.out, HH.out.1]
  clear k0 k1 k2 k3 k4
  have k0 := d0 u6
  have k1 := d1 u6
  have k2 := d2 u6
  have k3 := d3 u6
  have k4 := d4 u6
  have ebb : (b != b) = false := by simp
  by_cases c1 : x < T1
  · have e1 : decide (x < T1) = true := decide_eq_true c1
    go_wp2_with fail
    exact bodyPost_ret (v := .bool true) (by simp [results, Try.results8, go_sem]) rfl ⟨rfl, WV.out u6⟩
  have e1 : decide (x < T1) = false := decide_eq_false c1
  by_cases c2 : ge ≤ x
  · have e2 : decide (ge ≤ x) = true := decide_eq_true c2
    go_wp2_with fail
    exact bodyPost_ret (v := .bool true) (by simp [results, Try.results8, go_sem]) rfl ⟨rfl, WV.out u6⟩
  have e2 : decide (ge ≤ x) = false := decide_eq_false c2
  obtain rfl : V1 = V2 := (HH.out.2.resolve_left c1).resolve_left c2
  have e3 : (V1 == V1) = true := beq_self_eq_true _
  go_wp2_with fail
  exact bodyPost_ret (v := .bool true) (by simp [results, Try.results8, go_sem]) rfl ⟨rfl, WV.out u6⟩
end Go.Proofs.Ytbppajenihjfhaa
namespace Go.Proofs.Ytbppajenihjfhaa.Gs8
open Go.ChangeShapes Go.WideShapes Go.ChangeAt Go.RowKit Go.Joins

theorem own : ownKnob Try.prog.godebug = none := by kernel_rfl
theorem laidOut : laidOutB Try.prog = true := by kernel_rfl

set_option maxRecDepth 100000 in
theorem lifted (os : Os) (started : os.Started) (H : Type) (enc : TypeId × Value → H) :
    ReturnsInHanded {} Try.checked os 8 .any (Rows.gesturesHeldSpec.pre6 enc Try.prog Try.f8 Rows.gesturesHeldRow.domain false) (Rows.gesturesHeldSpec.post enc Try.prog Try.f8 false true false false) := by
  refine returnsInHanded_of_change (C := Try.checked) own started (by kernel_rfl) Try.func8
    (ChangeSpec.witness6 (enc := enc) (C := Try.checked) false ⟨#[], #[.int .i64 0, .agg #[.int .i64 0, .int .i64 0, .int .i64 0, .int .i64 0, .slice none 0 0], .int .i64 0], []⟩ 8 (by kernel_rfl) (by kernel_rfl) (by kernel_rfl) (by kernel_rfl)) ?_
  intro W base args ds gs before hval0 hW hcnd _
  have hval : ∀ (j : Nat) t v, Try.f8.params[j]? = some t → args[j]? = some v → Value.okWide Try.prog W .any base t v := hval0
  have hW' := hW
  obtain ⟨p, q, hA0, hV, rfl, hfz, hnd⟩ := hW
  have hA : DataW.TrodAll enc Try.prog W 0 (fun _ => true) true Try.f8.params.toList args.toList ds p := hA0
  rw [Try.params8] at hA hval
  obtain ⟨v0, vs0, d0, ds0, p0, q0, hargs, rfl, rfl, h0, r0⟩ := trodAll_cons hA
  obtain ⟨v1, vs1, d1, ds1, p1, q1, rfl, rfl, rfl, h1, r1⟩ := trodAll_cons r0
  obtain ⟨v2, vs2, d2, ds2, p2, q2, rfl, rfl, rfl, h2, r2⟩ := trodAll_cons r1
  obtain ⟨rfl, rfl, rfl⟩ := trodAll_nil r2
  obtain rfl : args = #[v0, v1, v2] := by cases args; simp_all
  obtain ⟨rfl, rfl⟩ := trodVars_none hV
  obtain ⟨a0, rfl, rfl, rfl, w0⟩ := open_int Try.underlying3 (hval 0 3 v0 rfl rfl) h0
  have k1 := h1
  have lt1 : ∀ x ∈ p1, x.block < W.heap.size := by obtain ⟨m, hm⟩ := k1; exact DataW.trod_lt m _ _ _ hm
  obtain ⟨t1, rfl, ta1⟩ := open_gev (hval 1 38 v1 rfl rfl) h1
  obtain ⟨a2, rfl, rfl, rfl, w2⟩ := open_int Try.underlying3 (hval 2 3 v2 rfl rfl) h2
  clear hA0 hval0
  refine (ghSpec_walk a0 a2 (i64_rng w0) t1 W ta1).mono fun e W' ⟨he, bel⟩ => ?_
  subst he
  exact ⟨_, rfl, _, _, _, [], _, [], hW', trodAll_mk1 (shut_bool Try.underlying4 _), (trodAll_cons_mk (shut_int Try.underlying3 w0) (trodAll_cons_mk (Below.trod laidOut (by kernel_rfl) (of_decide_eq_true (by kernel_rfl)) k1 bel lt1) (trodAll_cons_mk (shut_int Try.underlying3 w2) trodAll_mk0))), rfl, bel.frame _, fun h => by cases h⟩

theorem over : Rows.gesturesHeldRow.holds Try.pinned (OpenSpec.ofChange Rows.gesturesHeldSpec) :=
  OpenClaim.holds_of_wide 8 Try.f8 rfl rfl rfl rfl rfl rfl rfl ⟨rfl, rfl, rfl, rfl, rfl⟩ rfl rfl rfl rfl rfl (by kernel_rfl) Try.func8 (by show joinedFacts Try.prog _ _ _ _ = true; unfold joinedFacts; rw [may0, lift0, make0]; kernel_rfl)
    (of_decide_eq_true (by kernel_rfl)) (by unfold Func.isWrapper; first | (rw [if_pos (by decide +kernel)]; kernel_rfl) | (rw [if_neg (by decide +kernel)]; exact ⟨rfl, rfl⟩))
    (fun os started H enc _ => lifted os started H enc)
end Go.Proofs.Ytbppajenihjfhaa.Gs8
namespace Go.Proofs.Ytbppajenihjfhaa
/-- The statement. -/
theorem gesturesHeld_holds : Rows.GesturesHeldSaid := Gs8.over
end Go.Proofs.Ytbppajenihjfhaa
