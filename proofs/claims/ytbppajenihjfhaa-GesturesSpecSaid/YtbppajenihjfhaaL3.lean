/- GesturesSpec. -/
import Derived.Test.YtbppajenihjfhaaGK2
import Derived.Test.YtbppajenihjfhaaY
namespace Go.Proofs.Ytbppajenihjfhaa
open Go.RowKit
open Go.Lib (hid)

set_option maxRecDepth 100000 in
set_option maxHeartbeats 4000000 in
theorem gsSpec_walk (b x : Int) (hv : R64 b) (l : List Ge) (nn : Nat) (hnn : l.length = nn) (a : Option Addr) (c : Nat) (hb : nn ≤ 9223372036854775807) (W : World) (hr : Ges W a l) :
    Calls Try.prog 3 #[.int .i64 b, .slice a nn c, .int .i64 x] W fun e w' => e = .returned (.bool true) ∧ Below W.heap.size W w' := by
  have HV := hid hv; clear hv
  have HN := hid hnn; have HR := hid (after_ges hr)
  clear hnn hr
  go_enter Try.func3, Try.ntmps3
  go_wp2_with fail
  refine (met0 (sane12_any W)).mono ?_
  rintro e _ ⟨rfl, u1, rfl⟩
  go_wp2_with fail
  refine (gfew_any l nn HN.out a c u1.w hb (HR.out u1)).mono ?_
  rintro e w9 ⟨rfl, rfl⟩
  rcases hfew : fewB l with _ | _
  · clear hfew
    go_wp2_with fail
    exact bodyPost_ret (v := .bool true) (by simp [results, Try.results3, go_sem]) rfl ⟨rfl, u1.2⟩
  clear hfew
  go_wp2_with fail
  refine (met (gValue_any l nn HN.out a c b x HV.out u1.w hb (HR.out u1))).mono ?_
  rintro e _ ⟨rfl, u2, rfl⟩
  go_wp2_with fail
  refine (met (rgValue_any l nn HN.out a c b x HV.out u2.w hb (HR.out u2))).mono ?_
  rintro e _ ⟨rfl, u3, rfl⟩
  obtain ⟨V, hV⟩ : ∃ y, vgv b l x = y := ⟨_, rfl⟩
  obtain ⟨E, hE⟩ : ∃ y, chkG l = y := ⟨_, rfl⟩
  rw [hV, hE]
  have HE := hid hE
  have eV : (V == V) = true := beq_self_eq_true _
  have eE : (E == E) = true := beq_self_eq_true _
  clear hV hE
  go_wp2_with fail
  refine (met (gcheck_any l nn HN.out a c u3.w hb (HR.out u3))).mono ?_
  rintro e _ ⟨rfl, u4, rfl⟩
  rw [HE.out]
  go_wp2_with fail
  refine (met (rgcheck_any l nn HN.out a c u4.w hb (HR.out u4))).mono ?_
  rintro e _ ⟨rfl, u5, rfl⟩
  rw [HE.out]
  go_wp2_with fail
  exact bodyPost_ret (v := .bool true) (by simp [results, Try.results3, go_sem]) rfl ⟨rfl, u5.2⟩
end Go.Proofs.Ytbppajenihjfhaa
namespace Go.Proofs.Ytbppajenihjfhaa.Gs3
open Go.ChangeShapes Go.WideShapes Go.ChangeAt Go.RowKit Go.Joins

theorem own : ownKnob Try.prog.godebug = none := by kernel_rfl
theorem laidOut : laidOutB Try.prog = true := by kernel_rfl

set_option maxRecDepth 100000 in
theorem lifted (os : Os) (started : os.Started) (H : Type) (enc : TypeId × Value → H) :
    ReturnsInHanded {} Try.checked os 3 .any (Rows.gesturesSpecSpec.pre6 enc Try.prog Try.f3 Rows.gesturesSpecRow.domain false) (Rows.gesturesSpecSpec.post enc Try.prog Try.f3 false true false false) := by
  refine returnsInHanded_of_change (C := Try.checked) own started (by kernel_rfl) Try.func3
    (ChangeSpec.witness6 (enc := enc) (C := Try.checked) false ⟨#[], #[.int .i64 0, .slice none 0 0, .int .i64 0], []⟩ 8 (by kernel_rfl) (by kernel_rfl) (by kernel_rfl) (by kernel_rfl)) ?_
  intro W base args ds gs before hval0 hW hcnd _
  have hval : ∀ (j : Nat) t v, Try.f3.params[j]? = some t → args[j]? = some v → Value.okWide Try.prog W .any base t v := hval0
  have hW' := hW
  obtain ⟨p, q, hA0, hV, rfl, hfz, hnd⟩ := hW
  have hA : DataW.TrodAll enc Try.prog W 0 (fun _ => true) true Try.f3.params.toList args.toList ds p := hA0
  rw [Try.params3] at hA hval
  obtain ⟨v0, vs0, d0, ds0, p0, q0, hargs, rfl, rfl, h0, r0⟩ := trodAll_cons hA
  obtain ⟨v1, vs1, d1, ds1, p1, q1, rfl, rfl, rfl, h1, r1⟩ := trodAll_cons r0
  obtain ⟨v2, vs2, d2, ds2, p2, q2, rfl, rfl, rfl, h2, r2⟩ := trodAll_cons r1
  obtain ⟨rfl, rfl, rfl⟩ := trodAll_nil r2
  obtain rfl : args = #[v0, v1, v2] := by cases args; simp_all
  obtain ⟨rfl, rfl⟩ := trodVars_none hV
  obtain ⟨a0, rfl, rfl, rfl, w0⟩ := open_int Try.underlying3 (hval 0 3 v0 rfl rfl) h0
  have k1 := h1
  have lt1 : ∀ x ∈ p1, x.block < W.heap.size := by obtain ⟨m, hm⟩ := k1; exact DataW.trod_lt m _ _ _ hm
  obtain ⟨xa1, xn1, xc1, rfl⟩ := okWide_slice Try.underlying22 (hval 1 22 v1 rfl rfl)
  obtain ⟨m1, hm1⟩ := h1
  obtain ⟨a1, n1, c1, e1, lc1, mc1, fz1, ⟨l1, ln1, rd1⟩⟩ := open_ges hm1
  cases e1
  have nb1 := Nat.le_trans lc1 (max_len mc1)
  obtain ⟨a2, rfl, rfl, rfl, w2⟩ := open_int Try.underlying3 (hval 2 3 v2 rfl rfl) h2
  clear hA0 hval0
  refine (gsSpec_walk a0 a2 (i64_rng w0) l1 xn1 ln1 xa1 xc1 nb1 W rd1).mono fun e W' ⟨he, bel⟩ => ?_
  subst he
  exact ⟨_, rfl, _, _, _, [], _, [], hW', trodAll_mk1 (shut_bool Try.underlying4 _), (trodAll_cons_mk (shut_int Try.underlying3 w0) (trodAll_cons_mk (Below.trod laidOut (by kernel_rfl) (of_decide_eq_true (by kernel_rfl)) k1 bel lt1) (trodAll_cons_mk (shut_int Try.underlying3 w2) trodAll_mk0))), rfl, bel.frame _, fun h => by cases h⟩

theorem over : Rows.gesturesSpecRow.holds Try.pinned (OpenSpec.ofChange Rows.gesturesSpecSpec) :=
  OpenClaim.holds_of_wide 3 Try.f3 rfl rfl rfl rfl rfl rfl rfl ⟨rfl, rfl, rfl, rfl, rfl⟩ rfl rfl rfl rfl rfl (by kernel_rfl) Try.func3 (by show joinedFacts Try.prog _ _ _ _ = true; unfold joinedFacts; rw [may0, lift0, make0]; kernel_rfl)
    (of_decide_eq_true (by kernel_rfl)) (by unfold Func.isWrapper; first | (rw [if_pos (by decide +kernel)]; kernel_rfl) | (rw [if_neg (by decide +kernel)]; exact ⟨rfl, rfl⟩))
    (fun os started H enc _ => lifted os started H enc)
end Go.Proofs.Ytbppajenihjfhaa.Gs3
namespace Go.Proofs.Ytbppajenihjfhaa
/-- The statement. -/
theorem gesturesSpec_holds : Rows.GesturesSpecSaid := Gs3.over
end Go.Proofs.Ytbppajenihjfhaa
