/- GesturesTrim. -/
import Derived.Test.YtbppajenihjfhaaGK2
import Derived.Test.YtbppajenihjfhaaY
import Derived.IntWalk
namespace Go.Proofs.Ytbppajenihjfhaa
open Go.RowKit
open Go.Lib (hid)

theorem quo4 {c : Int} (h : -2147483648 ≤ c ∧ c ≤ 2147483647) : -536870912 ≤ c.tdiv 4 ∧ c.tdiv 4 ≤ 536870912 := by
  rw [Int.tdiv_eq_ediv]
  split
  · omega
  · rw [show Int.sign 4 = 1 from rfl]; omega
set_option maxRecDepth 100000 in
set_option maxHeartbeats 4000000 in
theorem gtSpec_walk (p u v : Int) (f ln : Int) (hf : 0 ≤ f ∧ f ≤ 65535) (hln : 0 ≤ ln ∧ ln ≤ 65535) (x : Int) (W : World) :
    Calls Try.prog 7 #[.int .i64 p, .int .i64 u, .int .i64 v, .int .u16 f, .int .u16 ln, .int .i64 x] W fun e w' => e = .returned (.bool true) ∧ Below W.heap.size W w' := by
  go_enter Try.func7, Try.ntmps7
  go_wp2_with fail
  refine (met0 (sane12_any W)).mono ?_
  rintro e _ ⟨rfl, u1, rfl⟩
  go_wp2_with fail
  refine (rClip_any p u1.w).mono ?_
  rintro e w9 ⟨rfl, hw9⟩
  rw [← hw9]
  clear hw9 w9
  have rP := quo4 (clip_rng p)
  obtain ⟨CP, hCP⟩ : ∃ y, clipT p = y := ⟨_, rfl⟩
  rw [hCP] at rP ⊢
  obtain ⟨P, hP⟩ : ∃ y, Int.tdiv CP 4 = y := ⟨_, rfl⟩
  rw [hP] at rP
  have wP : IntKind.i64.wrap P = P := IntWalk.i64_in _ (by omega)
  go_wp2_with fail
  refine (rClip_any u u1.w).mono ?_
  rintro e w9 ⟨rfl, hw9⟩
  rw [← hw9]
  clear hw9 w9
  have rU := quo4 (clip_rng u)
  obtain ⟨CU, hCU⟩ : ∃ y, clipT u = y := ⟨_, rfl⟩
  rw [hCU] at rU ⊢
  obtain ⟨U, hU⟩ : ∃ y, Int.tdiv CU 4 = y := ⟨_, rfl⟩
  rw [hU] at rU
  have wU : IntKind.i64.wrap U = U := IntWalk.i64_in _ (by omega)
  go_wp2_with fail
  refine (rClip_any v u1.w).mono ?_
  rintro e w9 ⟨rfl, hw9⟩
  rw [← hw9]
  clear hw9 w9
  have rR := quo4 (clip_rng v)
  obtain ⟨CR, hCR⟩ : ∃ y, clipT v = y := ⟨_, rfl⟩
  rw [hCR] at rR ⊢
  obtain ⟨R, hR⟩ : ∃ y, Int.tdiv CR 4 = y := ⟨_, rfl⟩
  rw [hR] at rR
  have wR : IntKind.i64.wrap R = R := IntWalk.i64_in _ (by omega)
  obtain ⟨F1, hF1⟩ : ∃ y, f + 1 = y := ⟨_, rfl⟩
  obtain ⟨Y, hY⟩ : ∃ y, F1 + ln = y := ⟨_, rfl⟩
  obtain ⟨S, hS⟩ : ∃ y, U + R = y := ⟨_, rfl⟩
  have wF1 : IntKind.i64.wrap F1 = F1 := IntWalk.i64_in _ (by omega)
  have wY : IntKind.i64.wrap Y = Y := IntWalk.i64_in _ (by omega)
  have wf : IntKind.i64.wrap f = f := IntWalk.i64_in _ (by omega)
  have wl : IntKind.i64.wrap ln = ln := IntWalk.i64_in _ (by omega)
  have wS : IntKind.i64.wrap S = S := IntWalk.i64_in _ (by omega)
  go_wp2_with fail
  have hy1 : f < Y := by omega
  have hy2 : Y ≤ 200000 := by omega
  have rS : -2147483648 ≤ S ∧ S ≤ 2147483647 := by omega
  clear wF1 wY wf wl hF1 hY
  refine (constant_ag 3 f Y Y U u1.w).mono ?_
  rintro e9 w9 ⟨a1, rfl, h1, hB9⟩
  obtain ⟨u2, rfl⟩ : ∃ y : After W, w9 = y.w := ⟨u1.on hB9, rfl⟩
  clear hB9
  go_wp2_with fail
  refine (constant_ag 3 f Y Y R u2.w).mono ?_
  rintro e9 w9 ⟨a2, rfl, h2, hB9⟩
  replace h1 := h1.below hB9
  obtain ⟨u3, rfl⟩ : ∃ y : After W, w9 = y.w := ⟨u2.on hB9, rfl⟩
  clear hB9
  go_wp2_with fail
  have hc1 : chkG [geC 3 f Y Y U a1 1 1, geC 3 f Y Y R a2 1 1] = 0 := chk_two (geB_geC (by omega) hf.1 hy1 (by omega) (by omega) (by omega) (by omega) (by omega)) (geB_geC (by omega) hf.1 hy1 (by omega) (by omega) (by omega) (by omega) (by omega))
  refine (gValue_any [geC 3 f Y Y U a1 1 1, geC 3 f Y Y R a2 1 1] 2 rfl (some ⟨u3.w.heap.size, 0, none⟩) 2 P x (by unfold R64; omega) (u3.w.alloc (.cells #[.int .i64 3, .int .i64 f, .int .i64 Y, .int .i64 Y, .slice a1 1 1, .int .i64 3, .int .i64 f, .int .i64 Y, .int .i64 Y, .slice a2 1 1] 38)) (by omega) (Ges.two (rd_new u3.w _ 38 rfl) (h1.below (b_alloc (Below.refl _ _) _)) (h2.below (b_alloc (Below.refl _ _) _)))).mono ?_
  rintro e9 w9 ⟨rfl, hB9⟩
  obtain ⟨u4, rfl⟩ : ∃ y : After W, w9 = y.w := ⟨u3.on (b_then (b_alloc (Below.refl _ _) _) hB9), rfl⟩
  rw [vgv_ok hc1, hc1, (trims (a1 := a1) (a2 := a2) (a3 := none) (n1 := 1) (n2 := 1) (n3 := 0) (c1 := 1) (c2 := 1) (c3 := 0) hf.1 (by omega) (by omega) (by omega) (by omega) x).1]
  clear hB9 hc1 h1 h2
  obtain ⟨V, hV⟩ : ∃ V, (if f ≤ x ∧ x < Y then P + U + R else P) = V := ⟨_, rfl⟩
  rw [hV]
  go_wp2_with fail
  refine (constant_ag 3 f Y Y S u4.w).mono ?_
  rintro e9 w9 ⟨a3, rfl, h3, hB9⟩
  obtain ⟨u5, rfl⟩ : ∃ y : After W, w9 = y.w := ⟨u4.on hB9, rfl⟩
  clear hB9
  go_wp2_with fail
  have hc2 : chkG [geC 3 f Y Y S a3 1 1] = 0 := chk_one (geB_geC (by omega) hf.1 hy1 (by omega) (by omega) (by omega) (by omega) (by omega))
  refine (gValue_any [geC 3 f Y Y S a3 1 1] 1 rfl (some ⟨u5.w.heap.size, 0, none⟩) 1 P x (by unfold R64; omega) (u5.w.alloc (.cells #[.int .i64 3, .int .i64 f, .int .i64 Y, .int .i64 Y, .slice a3 1 1] 38)) (by omega) (Ges.one (rd_new u5.w _ 38 rfl) (h3.below (b_alloc (Below.refl _ _) _)))).mono ?_
  rintro e9 w9 ⟨rfl, hB9⟩
  obtain ⟨u6, rfl⟩ : ∃ y : After W, w9 = y.w := ⟨u5.on (b_then (b_alloc (Below.refl _ _) _) hB9), rfl⟩
  rw [vgv_ok hc2, hc2, ← hS, (trims (a1 := none) (a2 := none) (a3 := a3) (n1 := 0) (n2 := 0) (n3 := 1) (c1 := 0) (c2 := 0) (c3 := 1) hf.1 (by omega) (by omega) (by omega) (by omega) x).2, hV, hS]
  clear hB9 hc2 h3
  have eV : (V != V) = false := by simp
  by_cases c1 : f ≤ x
  · have d1 : decide (f ≤ x) = true := decide_eq_true c1
    by_cases c2 : x < Y
    · have d2 : decide (x < Y) = true := decide_eq_true c2
      rw [if_pos ⟨c1, c2⟩] at hV
      obtain ⟨Q, hQ⟩ : ∃ Q, P + U = Q := ⟨_, rfl⟩
      rw [hQ] at hV
      have wQ : IntKind.i64.wrap Q = Q := IntWalk.i64_in _ (by omega)
      have wV : IntKind.i64.wrap V = V := IntWalk.i64_in _ (by omega)
      have e2 : (V == V) = true := beq_self_eq_true _
      go_wp2_with fail
      exact bodyPost_ret (v := .bool true) (by simp [results, Try.results7, go_sem]) rfl ⟨rfl, u6.2⟩
    · have d2 : decide (x < Y) = false := decide_eq_false c2
      rw [if_neg (fun h => c2 h.2)] at hV
      subst hV
      have e2 : (P == P) = true := beq_self_eq_true _
      go_wp2_with fail
      exact bodyPost_ret (v := .bool true) (by simp [results, Try.results7, go_sem]) rfl ⟨rfl, u6.2⟩
  · have d1 : decide (f ≤ x) = false := decide_eq_false c1
    rw [if_neg (fun h => c1 h.1)] at hV
    subst hV
    have e2 : (P == P) = true := beq_self_eq_true _
    go_wp2_with fail
    exact bodyPost_ret (v := .bool true) (by simp [results, Try.results7, go_sem]) rfl ⟨rfl, u6.2⟩
end Go.Proofs.Ytbppajenihjfhaa
namespace Go.Proofs.Ytbppajenihjfhaa.Gs7
open Go.ChangeShapes Go.WideShapes Go.ChangeAt Go.RowKit Go.Joins

theorem own : ownKnob Try.prog.godebug = none := by kernel_rfl
theorem laidOut : laidOutB Try.prog = true := by kernel_rfl

set_option maxRecDepth 100000 in
theorem lifted (os : Os) (started : os.Started) (H : Type) (enc : TypeId × Value → H) :
    ReturnsInHanded {} Try.checked os 7 .any (Rows.gesturesTrimSpec.pre6 enc Try.prog Try.f7 Rows.gesturesTrimRow.domain false) (Rows.gesturesTrimSpec.post enc Try.prog Try.f7 false true false false) := by
  refine returnsInHanded_of_change (C := Try.checked) own started (by kernel_rfl) Try.func7
    (ChangeSpec.witness6 (enc := enc) (C := Try.checked) false ⟨#[], #[.int .i64 0, .int .i64 0, .int .i64 0, .int .u16 0, .int .u16 0, .int .i64 0], []⟩ 8 (by kernel_rfl) (by kernel_rfl) (by kernel_rfl) (by kernel_rfl)) ?_
  intro W base args ds gs before hval0 hW hcnd _
  have hval : ∀ (j : Nat) t v, Try.f7.params[j]? = some t → args[j]? = some v → Value.okWide Try.prog W .any base t v := hval0
  have hW' := hW
  obtain ⟨p, q, hA0, hV, rfl, hfz, hnd⟩ := hW
  have hA : DataW.TrodAll enc Try.prog W 0 (fun _ => true) true Try.f7.params.toList args.toList ds p := hA0
  rw [Try.params7] at hA hval
  obtain ⟨v0, vs0, d0, ds0, p0, q0, hargs, rfl, rfl, h0, r0⟩ := trodAll_cons hA
  obtain ⟨v1, vs1, d1, ds1, p1, q1, rfl, rfl, rfl, h1, r1⟩ := trodAll_cons r0
  obtain ⟨v2, vs2, d2, ds2, p2, q2, rfl, rfl, rfl, h2, r2⟩ := trodAll_cons r1
  obtain ⟨v3, vs3, d3, ds3, p3, q3, rfl, rfl, rfl, h3, r3⟩ := trodAll_cons r2
  obtain ⟨v4, vs4, d4, ds4, p4, q4, rfl, rfl, rfl, h4, r4⟩ := trodAll_cons r3
  obtain ⟨v5, vs5, d5, ds5, p5, q5, rfl, rfl, rfl, h5, r5⟩ := trodAll_cons r4
  obtain ⟨rfl, rfl, rfl⟩ := trodAll_nil r5
  obtain rfl : args = #[v0, v1, v2, v3, v4, v5] := by cases args; simp_all
  obtain ⟨rfl, rfl⟩ := trodVars_none hV
  obtain ⟨a0, rfl, rfl, rfl, w0⟩ := open_int Try.underlying3 (hval 0 3 v0 rfl rfl) h0
  obtain ⟨a1, rfl, rfl, rfl, w1⟩ := open_int Try.underlying3 (hval 1 3 v1 rfl rfl) h1
  obtain ⟨a2, rfl, rfl, rfl, w2⟩ := open_int Try.underlying3 (hval 2 3 v2 rfl rfl) h2
  obtain ⟨a3, rfl, rfl, rfl, w3⟩ := open_int Try.underlying41 (hval 3 41 v3 rfl rfl) h3
  obtain ⟨a4, rfl, rfl, rfl, w4⟩ := open_int Try.underlying41 (hval 4 41 v4 rfl rfl) h4
  obtain ⟨a5, rfl, rfl, rfl, w5⟩ := open_int Try.underlying3 (hval 5 3 v5 rfl rfl) h5
  clear hA0 hval0
  refine (gtSpec_walk a0 a1 a2 a3 a4 (gu16_rng w3) (gu16_rng w4) a5 W).mono fun e W' ⟨he, bel⟩ => ?_
  subst he
  exact ⟨_, rfl, _, _, _, [], _, [], hW', trodAll_mk1 (shut_bool Try.underlying4 _), (trodAll_cons_mk (shut_int Try.underlying3 w0) (trodAll_cons_mk (shut_int Try.underlying3 w1) (trodAll_cons_mk (shut_int Try.underlying3 w2) (trodAll_cons_mk (shut_int Try.underlying41 w3) (trodAll_cons_mk (shut_int Try.underlying41 w4) (trodAll_cons_mk (shut_int Try.underlying3 w5) trodAll_mk0)))))), rfl, bel.frame _, fun h => by cases h⟩

theorem over : Rows.gesturesTrimRow.holds Try.pinned (OpenSpec.ofChange Rows.gesturesTrimSpec) :=
  OpenClaim.holds_of_wide 7 Try.f7 rfl rfl rfl rfl rfl rfl rfl ⟨rfl, rfl, rfl, rfl, rfl⟩ rfl rfl rfl rfl rfl (by kernel_rfl) Try.func7 (by show joinedFacts Try.prog _ _ _ _ = true; unfold joinedFacts; rw [may0, lift0, make0]; kernel_rfl)
    (of_decide_eq_true (by kernel_rfl)) (by unfold Func.isWrapper; first | (rw [if_pos (by decide +kernel)]; kernel_rfl) | (rw [if_neg (by decide +kernel)]; exact ⟨rfl, rfl⟩))
    (fun os started H enc _ => lifted os started H enc)
end Go.Proofs.Ytbppajenihjfhaa.Gs7
namespace Go.Proofs.Ytbppajenihjfhaa
/-- The statement. -/
theorem gesturesTrim_holds : Rows.GesturesTrimSaid := Gs7.over
end Go.Proofs.Ytbppajenihjfhaa
