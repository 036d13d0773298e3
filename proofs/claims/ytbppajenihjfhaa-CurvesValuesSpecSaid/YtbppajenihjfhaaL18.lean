/- CurvesValuesSpec. -/
import Derived.Test.YtbppajenihjfhaaCW
import Derived.Test.YtbppajenihjfhaaY
namespace Go.Proofs.Ytbppajenihjfhaa
open Go.RowKit
open Go.Lib (hid)

theorem vsV_le (l : List Kn) (fr n : Int) : (vsV l fr n).length ≤ 65536 := by
  unfold vsV
  split
  · rename_i h
    rw [vsL_len]
    unfold vsE at h
    split at h
    · omega
    · split at h
      · omega
      · split at h
        · omega
        · omega
  · exact Nat.zero_le _
set_option maxRecDepth 100000 in
set_option maxHeartbeats 4000000 in
theorem cvsSpec_walk (l : List Kn) (nn : Nat) (hnn : l.length = nn) (a : Option Addr) (c : Nat) (fr n : Int) (hb : nn ≤ 9223372036854775807) (W : World) (hr : Rd W a (l.flatMap Kn.c)) :
    Calls Try.prog 18 #[.slice a nn c, .int .i64 fr, .int .i64 n] W fun e w' => e = .returned (.bool true) ∧ Below W.heap.size W w' := by
  have HN := hid hnn; have HR := hid (after_rd hr)
  clear hnn hr
  go_enter Try.func18, Try.ntmps18
  go_wp2_with fail
  refine (met0 (sane11_any W)).mono ?_
  rintro e _ ⟨rfl, u1, rfl⟩
  go_wp2_with fail
  refine (few_any a nn c u1.w).mono ?_
  rintro e w9 ⟨rfl, rfl⟩
  by_cases hfew : nn ≤ 1100
  case neg =>
    have d1 : decide ((nn : Int) ≤ 1100) = false := decide_eq_false (by omega)
    rw [d1]
    go_wp2_with fail
    exact bodyPost_ret (v := .bool true) (by simp [results, Try.results18, go_sem]) rfl ⟨rfl, u1.2⟩
  have d1 : decide ((nn : Int) ≤ 1100) = true := decide_eq_true (by omega)
  rw [d1]
  clear d1
  by_cases hn1 : 300 < n ∧ n ≤ 65536
  · have d2 : decide (300 < n) = true := decide_eq_true hn1.1
    have d3 : decide (n ≤ 65536) = true := decide_eq_true hn1.2
    go_wp2_with fail
    exact bodyPost_ret (v := .bool true) (by simp [results, Try.results18, go_sem]) rfl ⟨rfl, u1.2⟩
  rcases Decidable.em (300 < n) with hg | hg
  · have d2 : decide (300 < n) = true := decide_eq_true hg
    have d3 : decide (n ≤ 65536) = false := decide_eq_false (fun h => hn1 ⟨hg, h⟩)
    clear hn1 hg
    go_wp2_with fail
    refine (Values_any l nn HN.out a c fr n u1.w hb (HR.out u1)).mono ?_
    rintro e w9 ⟨v1, rfl, hi1, hB1⟩
    obtain ⟨u2, rfl⟩ : ∃ y9 : After W, w9 = y9.w := ⟨u1.on hB1, rfl⟩
    have HI1 := hid hi1; clear hi1 hB1
    go_wp2_with fail
    refine (rValues_any l nn HN.out a c fr n u2.w hb (HR.out u2)).mono ?_
    rintro e w9 ⟨v2, rfl, hi2, hB2⟩
    have hi1 := HI1.out.below hB2
    obtain ⟨u3, rfl⟩ : ∃ y9 : After W, w9 = y9.w := ⟨u2.on hB2, rfl⟩
    have hvl := vsV_le l fr n
    obtain ⟨E, hE⟩ : ∃ y, vsE l fr n = y := ⟨_, rfl⟩
    obtain ⟨X, hX⟩ : ∃ y, vsV l fr n = y := ⟨_, rfl⟩
    obtain ⟨k, hk⟩ : ∃ k, X.length = k := ⟨_, rfl⟩
    rw [hX] at hi1 hi2 hvl
    rw [hE]
    rw [hk] at hvl
    obtain ⟨xa, xc, rfl, hR1, -⟩ := hi1.form hk
    obtain ⟨ya, yc, rfl, hR2, -⟩ := hi2.form hk
    have HK := hid hk; have HR1 := hid hR1; have HR2 := hid hR2
    have eE : (E == E) = true := beq_self_eq_true _
    clear hi1 hi2 hB2 hE hX hk hR1 hR2
    go_wp2_with fail
    refine (met (isame_any X X k k HK.out HK.out xa ya xc yc (by omega) u3.w HR1.out HR2.out)).mono ?_
    rintro e _ ⟨rfl, u4, rfl⟩
    rw [decide_eq_true rfl]
    go_wp2_with fail
    exact bodyPost_ret (v := .bool true) (by simp [results, Try.results18, go_sem]) rfl ⟨rfl, u4.2⟩
  · have d2 : decide (300 < n) = false := decide_eq_false hg
    clear hn1 hg
    go_wp2_with fail
    refine (Values_any l nn HN.out a c fr n u1.w hb (HR.out u1)).mono ?_
    rintro e w9 ⟨v1, rfl, hi1, hB1⟩
    obtain ⟨u2, rfl⟩ : ∃ y9 : After W, w9 = y9.w := ⟨u1.on hB1, rfl⟩
    have HI1 := hid hi1; clear hi1 hB1
    go_wp2_with fail
    refine (rValues_any l nn HN.out a c fr n u2.w hb (HR.out u2)).mono ?_
    rintro e w9 ⟨v2, rfl, hi2, hB2⟩
    have hi1 := HI1.out.below hB2
    obtain ⟨u3, rfl⟩ : ∃ y9 : After W, w9 = y9.w := ⟨u2.on hB2, rfl⟩
    have hvl := vsV_le l fr n
    obtain ⟨E, hE⟩ : ∃ y, vsE l fr n = y := ⟨_, rfl⟩
    obtain ⟨X, hX⟩ : ∃ y, vsV l fr n = y := ⟨_, rfl⟩
    obtain ⟨k, hk⟩ : ∃ k, X.length = k := ⟨_, rfl⟩
    rw [hX] at hi1 hi2 hvl
    rw [hE]
    rw [hk] at hvl
    obtain ⟨xa, xc, rfl, hR1, -⟩ := hi1.form hk
    obtain ⟨ya, yc, rfl, hR2, -⟩ := hi2.form hk
    have HK := hid hk; have HR1 := hid hR1; have HR2 := hid hR2
    have eE : (E == E) = true := beq_self_eq_true _
    clear hi1 hi2 hB2 hE hX hk hR1 hR2
    go_wp2_with fail
    refine (met (isame_any X X k k HK.out HK.out xa ya xc yc (by omega) u3.w HR1.out HR2.out)).mono ?_
    rintro e _ ⟨rfl, u4, rfl⟩
    rw [decide_eq_true rfl]
    go_wp2_with fail
    exact bodyPost_ret (v := .bool true) (by simp [results, Try.results18, go_sem]) rfl ⟨rfl, u4.2⟩
end Go.Proofs.Ytbppajenihjfhaa
namespace Go.Proofs.Ytbppajenihjfhaa.Cvs18
open Go.ChangeShapes Go.WideShapes Go.ChangeAt Go.RowKit Go.Joins

theorem own : ownKnob Try.prog.godebug = none := by kernel_rfl
theorem laidOut : laidOutB Try.prog = true := by kernel_rfl

set_option maxRecDepth 100000 in
theorem lifted (os : Os) (started : os.Started) (H : Type) (enc : TypeId × Value → H) :
    ReturnsInHanded {} Try.checked os 18 .any (Rows.curvesValuesSpecSpec.pre6 enc Try.prog Try.f18 Rows.curvesValuesSpecRow.domain false) (Rows.curvesValuesSpecSpec.post enc Try.prog Try.f18 false true false false) := by
  refine returnsInHanded_of_change (C := Try.checked) own started (by kernel_rfl) Try.func18
    (ChangeSpec.witness6 (enc := enc) (C := Try.checked) false ⟨#[], #[.slice none 0 0, .int .i64 0, .int .i64 0], []⟩ 8 (by kernel_rfl) (by kernel_rfl) (by kernel_rfl) (by kernel_rfl)) ?_
  intro W base args ds gs before hval0 hW hcnd _
  have hval : ∀ (j : Nat) t v, Try.f18.params[j]? = some t → args[j]? = some v → Value.okWide Try.prog W .any base t v := hval0
  have hW' := hW
  obtain ⟨p, q, hA0, hV, rfl, hfz, hnd⟩ := hW
  have hA : DataW.TrodAll enc Try.prog W 0 (fun _ => true) true Try.f18.params.toList args.toList ds p := hA0
  rw [Try.params18] at hA hval
  obtain ⟨v0, vs0, d0, ds0, p0, q0, hargs, rfl, rfl, h0, r0⟩ := trodAll_cons hA
  obtain ⟨v1, vs1, d1, ds1, p1, q1, rfl, rfl, rfl, h1, r1⟩ := trodAll_cons r0
  obtain ⟨v2, vs2, d2, ds2, p2, q2, rfl, rfl, rfl, h2, r2⟩ := trodAll_cons r1
  obtain ⟨rfl, rfl, rfl⟩ := trodAll_nil r2
  obtain rfl : args = #[v0, v1, v2] := by cases args; simp_all
  obtain ⟨rfl, rfl⟩ := trodVars_none hV
  have k0 := h0
  have lt0 : ∀ x ∈ p0, x.block < W.heap.size := by obtain ⟨m, hm⟩ := k0; exact DataW.trod_lt m _ _ _ hm
  obtain ⟨xa0, xn0, xc0, rfl⟩ := okWide_slice Try.underlying36 (hval 0 36 v0 rfl rfl)
  obtain ⟨m0, hm0⟩ := h0
  obtain ⟨a0, n0, c0, e0, lc0, mc0, fz0, ⟨l0, ln0, rd0⟩⟩ := open_kns hm0
  cases e0
  have nb0 := Nat.le_trans lc0 (max_len mc0)
  obtain ⟨a1, rfl, rfl, rfl, w1⟩ := open_int Try.underlying3 (hval 1 3 v1 rfl rfl) h1
  obtain ⟨a2, rfl, rfl, rfl, w2⟩ := open_int Try.underlying3 (hval 2 3 v2 rfl rfl) h2
  clear hA0 hval0
  refine (cvsSpec_walk l0 xn0 ln0 xa0 xc0 a1 a2 nb0 W rd0).mono fun e W' ⟨he, bel⟩ => ?_
  subst he
  exact ⟨_, rfl, _, _, _, [], _, [], hW', trodAll_mk1 (shut_bool Try.underlying4 _), (trodAll_cons_mk (Below.trod laidOut (by kernel_rfl) (of_decide_eq_true (by kernel_rfl)) k0 bel lt0) (trodAll_cons_mk (shut_int Try.underlying3 w1) (trodAll_cons_mk (shut_int Try.underlying3 w2) trodAll_mk0))), rfl, bel.frame _, fun h => by cases h⟩

theorem over : Rows.curvesValuesSpecRow.holds Try.pinned (OpenSpec.ofChange Rows.curvesValuesSpecSpec) :=
  OpenClaim.holds_of_wide 18 Try.f18 rfl rfl rfl rfl rfl rfl rfl ⟨rfl, rfl, rfl, rfl, rfl⟩ rfl rfl rfl rfl rfl (by kernel_rfl) Try.func18 (by show joinedFacts Try.prog _ _ _ _ = true; unfold joinedFacts; rw [may0, lift0, make0]; kernel_rfl)
    (of_decide_eq_true (by kernel_rfl)) (by unfold Func.isWrapper; first | (rw [if_pos (by decide +kernel)]; kernel_rfl) | (rw [if_neg (by decide +kernel)]; exact ⟨rfl, rfl⟩))
    (fun os started H enc _ => lifted os started H enc)
end Go.Proofs.Ytbppajenihjfhaa.Cvs18
namespace Go.Proofs.Ytbppajenihjfhaa
/-- The statement. -/
theorem curvesValuesSpec_holds : Rows.CurvesValuesSpecSaid := Cvs18.over
end Go.Proofs.Ytbppajenihjfhaa
