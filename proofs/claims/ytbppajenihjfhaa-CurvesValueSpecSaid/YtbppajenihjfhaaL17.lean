/- CurvesValueSpec. -/
import Derived.Test.YtbppajenihjfhaaCW
import Derived.Test.YtbppajenihjfhaaY
namespace Go.Proofs.Ytbppajenihjfhaa
open Go.RowKit
open Go.Lib (hid)

set_option maxRecDepth 100000 in
set_option maxHeartbeats 4000000 in
theorem cvSpec_walk (l : List Kn) (nn : Nat) (hnn : l.length = nn) (a : Option Addr) (c : Nat) (x : Int) (hb : nn ≤ 9223372036854775807) (W : World) (hr : Rd W a (l.flatMap Kn.c)) :
    Calls Try.prog 17 #[.slice a nn c, .int .i64 x] W fun e w' => e = .returned (.bool true) ∧ Below W.heap.size W w' := by
  have HN := hid hnn; have HR := hid (after_rd hr)
  clear hnn hr
  go_enter Try.func17, Try.ntmps17
  go_wp2_with fail
  refine (met0 (sane11_any W)).mono ?_
  rintro e _ ⟨rfl, u1, rfl⟩
  go_wp2_with fail
  refine (few_any a nn c u1.w).mono ?_
  rintro e w9 ⟨rfl, rfl⟩
  by_cases hfew : nn ≤ 1100
  case neg =>
    have d1 : decide ((nn : Int) ≤ 1100) = false := decide_eq_false (by omega)
    rw [d1]
    go_wp2_with fail
    exact bodyPost_ret (v := .bool true) (by simp [results, Try.results17, go_sem]) rfl ⟨rfl, u1.2⟩
  have d1 : decide ((nn : Int) ≤ 1100) = true := decide_eq_true (by omega)
  rw [d1]
  clear d1
  go_wp2_with fail
  refine (met (Value_any l nn HN.out a c x u1.w hb (HR.out u1))).mono ?_
  rintro e _ ⟨rfl, u2, rfl⟩
  go_wp2_with fail
  refine (met (rValue_any l nn HN.out a c x u2.w hb (HR.out u2))).mono ?_
  rintro e _ ⟨rfl, u3, rfl⟩
  obtain ⟨V, hV⟩ : ∃ y, kvV l x = y := ⟨_, rfl⟩
  obtain ⟨E, hE⟩ : ∃ y, chkK l = y := ⟨_, rfl⟩
  rw [hV, hE]
  have HE := hid hE
  have eV : (V == V) = true := beq_self_eq_true _
  have eE : (E == E) = true := beq_self_eq_true _
  clear hV hE
  go_wp2_with fail
  refine (met (kcheck_any l nn HN.out a c u3.w hb (HR.out u3))).mono ?_
  rintro e _ ⟨rfl, u4, rfl⟩
  rw [HE.out]
  go_wp2_with fail
  refine (met (rkcheck_any l nn HN.out a c u4.w hb (HR.out u4))).mono ?_
  rintro e _ ⟨rfl, u5, rfl⟩
  rw [HE.out]
  go_wp2_with fail
  exact bodyPost_ret (v := .bool true) (by simp [results, Try.results17, go_sem]) rfl ⟨rfl, u5.2⟩
end Go.Proofs.Ytbppajenihjfhaa
namespace Go.Proofs.Ytbppajenihjfhaa.Cv17
open Go.ChangeShapes Go.WideShapes Go.ChangeAt Go.RowKit Go.Joins

theorem own : ownKnob Try.prog.godebug = none := by kernel_rfl
theorem laidOut : laidOutB Try.prog = true := by kernel_rfl

set_option maxRecDepth 100000 in
theorem lifted (os : Os) (started : os.Started) (H : Type) (enc : TypeId × Value → H) :
    ReturnsInHanded {} Try.checked os 17 .any (Rows.curvesValueSpecSpec.pre6 enc Try.prog Try.f17 Rows.curvesValueSpecRow.domain false) (Rows.curvesValueSpecSpec.post enc Try.prog Try.f17 false true false false) := by
  refine returnsInHanded_of_change (C := Try.checked) own started (by kernel_rfl) Try.func17
    (ChangeSpec.witness6 (enc := enc) (C := Try.checked) false ⟨#[], #[.slice none 0 0, .int .i64 0], []⟩ 8 (by kernel_rfl) (by kernel_rfl) (by kernel_rfl) (by kernel_rfl)) ?_
  intro W base args ds gs before hval0 hW hcnd _
  have hval : ∀ (j : Nat) t v, Try.f17.params[j]? = some t → args[j]? = some v → Value.okWide Try.prog W .any base t v := hval0
  have hW' := hW
  obtain ⟨p, q, hA0, hV, rfl, hfz, hnd⟩ := hW
  have hA : DataW.TrodAll enc Try.prog W 0 (fun _ => true) true Try.f17.params.toList args.toList ds p := hA0
  rw [Try.params17] at hA hval
  obtain ⟨v0, vs0, d0, ds0, p0, q0, hargs, rfl, rfl, h0, r0⟩ := trodAll_cons hA
  obtain ⟨v1, vs1, d1, ds1, p1, q1, rfl, rfl, rfl, h1, r1⟩ := trodAll_cons r0
  obtain ⟨rfl, rfl, rfl⟩ := trodAll_nil r1
  obtain rfl : args = #[v0, v1] := by cases args; simp_all
  obtain ⟨rfl, rfl⟩ := trodVars_none hV
  have k0 := h0
  have lt0 : ∀ x ∈ p0, x.block < W.heap.size := by obtain ⟨m, hm⟩ := k0; exact DataW.trod_lt m _ _ _ hm
  obtain ⟨xa0, xn0, xc0, rfl⟩ := okWide_slice Try.underlying36 (hval 0 36 v0 rfl rfl)
  obtain ⟨m0, hm0⟩ := h0
  obtain ⟨a0, n0, c0, e0, lc0, mc0, fz0, ⟨l0, ln0, rd0⟩⟩ := open_kns hm0
  cases e0
  have nb0 := Nat.le_trans lc0 (max_len mc0)
  obtain ⟨a1, rfl, rfl, rfl, w1⟩ := open_int Try.underlying3 (hval 1 3 v1 rfl rfl) h1
  clear hA0 hval0
  refine (cvSpec_walk l0 xn0 ln0 xa0 xc0 a1 nb0 W rd0).mono fun e W' ⟨he, bel⟩ => ?_
  subst he
  exact ⟨_, rfl, _, _, _, [], _, [], hW', trodAll_mk1 (shut_bool Try.underlying4 _), (trodAll_cons_mk (Below.trod laidOut (by kernel_rfl) (of_decide_eq_true (by kernel_rfl)) k0 bel lt0) (trodAll_cons_mk (shut_int Try.underlying3 w1) trodAll_mk0)), rfl, bel.frame _, fun h => by cases h⟩

theorem over : Rows.curvesValueSpecRow.holds Try.pinned (OpenSpec.ofChange Rows.curvesValueSpecSpec) :=
  OpenClaim.holds_of_wide 17 Try.f17 rfl rfl rfl rfl rfl rfl rfl ⟨rfl, rfl, rfl, rfl, rfl⟩ rfl rfl rfl rfl rfl (by kernel_rfl) Try.func17 (by show joinedFacts Try.prog _ _ _ _ = true; unfold joinedFacts; rw [may0, lift0, make0]; kernel_rfl)
    (of_decide_eq_true (by kernel_rfl)) (by unfold Func.isWrapper; first | (rw [if_pos (by decide +kernel)]; kernel_rfl) | (rw [if_neg (by decide +kernel)]; exact ⟨rfl, rfl⟩))
    (fun os started H enc _ => lifted os started H enc)
end Go.Proofs.Ytbppajenihjfhaa.Cv17
namespace Go.Proofs.Ytbppajenihjfhaa
/-- The statement. -/
theorem curvesValueSpec_holds : Rows.CurvesValueSpecSaid := Cv17.over
end Go.Proofs.Ytbppajenihjfhaa
