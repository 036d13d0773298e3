/- GesturesValuesSpec. -/
import Derived.Test.YtbppajenihjfhaaGK2
import Derived.Test.YtbppajenihjfhaaY
namespace Go.Proofs.Ytbppajenihjfhaa
open Go.RowKit
open Go.Lib (hid)

theorem vgV_len (b : List Int) (fr : Int) (l : List Ge) : (vgV b fr l).length ≤ b.length := by
  unfold vgV
  split
  · rw [vgJ_len]; exact Nat.le_refl _
  · exact Nat.zero_le _
set_option maxRecDepth 100000 in
set_option maxHeartbeats 4000000 in
theorem gvSpec_walk (q : List Int) (k : Nat) (hk : q.length = k) (hbr : ∀ i, i < k → R64 (q.getD i 0)) (ba : Option Addr) (bc : Nat) (fr : Int) (hf : R64 fr) (l : List Ge) (nn : Nat) (hnn : l.length = nn) (a : Option Addr) (c : Nat) (hb : nn ≤ 9223372036854775807) (W : World) (hr : Ges W a l) (hkb : k ≤ 9223372036854775807) (hrb : Rd W ba (ivs q)) :
    Calls Try.prog 4 #[.slice ba k bc, .int .i64 fr, .slice a nn c] W fun e w' => e = .returned (.bool true) ∧ Below W.heap.size W w' := by
  have HK := hid hk; have HBR := hid hbr; have HRB := hid (after_rd hrb); have HF := hid hf
  clear hk hbr hrb hf
  have HN := hid hnn; have HR := hid (after_ges hr)
  clear hnn hr
  go_enter Try.func4, Try.ntmps4
  go_wp2_with fail
  refine (met0 (sane12_any W)).mono ?_
  rintro e _ ⟨rfl, u1, rfl⟩
  go_wp2_with fail
  refine (gfew_any l nn HN.out a c u1.w hb (HR.out u1)).mono ?_
  rintro e w9 ⟨rfl, rfl⟩
  rcases hfew : fewB l with _ | _
  · clear hfew
    go_wp2_with fail
    exact bodyPost_ret (v := .bool true) (by simp [results, Try.results4, go_sem]) rfl ⟨rfl, u1.2⟩
  clear hfew
  by_cases hk100 : k ≤ 100
  case neg =>
    have d1 : decide ((100 : Int) < (k : Int)) = true := decide_eq_true (by omega)
    go_wp2_with fail
    exact bodyPost_ret (v := .bool true) (by simp [results, Try.results4, go_sem]) rfl ⟨rfl, u1.2⟩
  have d1 : decide ((100 : Int) < (k : Int)) = false := decide_eq_false (by omega)
  go_wp2_with fail
  clear d1
  refine (gValues_any q k HK.out HBR.out ba bc fr HF.out l nn HN.out a c u1.w (HRB.out u1) hb (HR.out u1)).mono ?_
  rintro e w9 ⟨v1, rfl, hi1, hB1⟩
  obtain ⟨u2, rfl⟩ : ∃ y9 : After W, w9 = y9.w := ⟨u1.on hB1, rfl⟩
  have HI1 := hid hi1; clear hi1 hB1
  go_wp2_with fail
  refine (rgValues_any q k HK.out HBR.out ba bc fr HF.out l nn HN.out a c u2.w (HRB.out u2) hb (HR.out u2)).mono ?_
  rintro e w9 ⟨v2, rfl, hi2, hB2⟩
  have hi1 := HI1.out.below hB2
  obtain ⟨u3, rfl⟩ : ∃ y9 : After W, w9 = y9.w := ⟨u2.on hB2, rfl⟩
  have hvl := vgV_len q fr l
  rw [HK.out] at hvl
  obtain ⟨E, hE⟩ : ∃ y, vgE q l = y := ⟨_, rfl⟩
  obtain ⟨X, hX⟩ : ∃ y, vgV q fr l = y := ⟨_, rfl⟩
  obtain ⟨n, hn⟩ : ∃ n, X.length = n := ⟨_, rfl⟩
  rw [hX] at hi1 hi2 hvl
  rw [hE]
  rw [hn] at hvl
  obtain ⟨xa, xc, rfl, hR1, -⟩ := hi1.form hn
  obtain ⟨ya, yc, rfl, hR2, -⟩ := hi2.form hn
  have HN2 := hid hn; have HR1 := hid hR1; have HR2 := hid hR2
  have eE : (E == E) = true := beq_self_eq_true _
  clear hi1 hi2 hB2 hE hX hn hR1 hR2
  go_wp2_with fail
  refine (met (gsame_any X X n n HN2.out HN2.out xa ya xc yc (by omega) u3.w HR1.out HR2.out)).mono ?_
  rintro e _ ⟨rfl, u4, rfl⟩
  rw [decide_eq_true rfl]
  go_wp2_with fail
  exact bodyPost_ret (v := .bool true) (by simp [results, Try.results4, go_sem]) rfl ⟨rfl, u4.2⟩
end Go.Proofs.Ytbppajenihjfhaa
namespace Go.Proofs.Ytbppajenihjfhaa.Gs4
open Go.ChangeShapes Go.WideShapes Go.ChangeAt Go.RowKit Go.Joins

theorem own : ownKnob Try.prog.godebug = none := by kernel_rfl
theorem laidOut : laidOutB Try.prog = true := by kernel_rfl

set_option maxRecDepth 100000 in
theorem lifted (os : Os) (started : os.Started) (H : Type) (enc : TypeId × Value → H) :
    ReturnsInHanded {} Try.checked os 4 .any (Rows.gesturesValuesSpecSpec.pre6 enc Try.prog Try.f4 Rows.gesturesValuesSpecRow.domain false) (Rows.gesturesValuesSpecSpec.post enc Try.prog Try.f4 false true false false) := by
  refine returnsInHanded_of_change (C := Try.checked) own started (by kernel_rfl) Try.func4
    (ChangeSpec.witness6 (enc := enc) (C := Try.checked) false ⟨#[], #[.slice none 0 0, .int .i64 0, .slice none 0 0], []⟩ 8 (by kernel_rfl) (by kernel_rfl) (by kernel_rfl) (by kernel_rfl)) ?_
  intro W base args ds gs before hval0 hW hcnd _
  have hval : ∀ (j : Nat) t v, Try.f4.params[j]? = some t → args[j]? = some v → Value.okWide Try.prog W .any base t v := hval0
  have hW' := hW
  obtain ⟨p, q, hA0, hV, rfl, hfz, hnd⟩ := hW
  have hA : DataW.TrodAll enc Try.prog W 0 (fun _ => true) true Try.f4.params.toList args.toList ds p := hA0
  rw [Try.params4] at hA hval
  obtain ⟨v0, vs0, d0, ds0, p0, q0, hargs, rfl, rfl, h0, r0⟩ := trodAll_cons hA
  obtain ⟨v1, vs1, d1, ds1, p1, q1, rfl, rfl, rfl, h1, r1⟩ := trodAll_cons r0
  obtain ⟨v2, vs2, d2, ds2, p2, q2, rfl, rfl, rfl, h2, r2⟩ := trodAll_cons r1
  obtain ⟨rfl, rfl, rfl⟩ := trodAll_nil r2
  obtain rfl : args = #[v0, v1, v2] := by cases args; simp_all
  obtain ⟨rfl, rfl⟩ := trodVars_none hV
  have k0 := h0
  have lt0 : ∀ x ∈ p0, x.block < W.heap.size := by obtain ⟨m, hm⟩ := k0; exact DataW.trod_lt m _ _ _ hm
  obtain ⟨xa0, xn0, xc0, rfl⟩ := okWide_slice Try.underlying30 (hval 0 30 v0 rfl rfl)
  obtain ⟨m0, hm0⟩ := h0
  obtain ⟨a0, n0, c0, e0, lc0, mc0, fz0, ⟨l0, ln0, rd0, rg0⟩⟩ := open_ints3 hm0
  cases e0
  have nb0 := Nat.le_trans lc0 (max_len mc0)
  obtain ⟨a1, rfl, rfl, rfl, w1⟩ := open_int Try.underlying3 (hval 1 3 v1 rfl rfl) h1
  have k2 := h2
  have lt2 : ∀ x ∈ p2, x.block < W.heap.size := by obtain ⟨m, hm⟩ := k2; exact DataW.trod_lt m _ _ _ hm
  obtain ⟨xa2, xn2, xc2, rfl⟩ := okWide_slice Try.underlying22 (hval 2 22 v2 rfl rfl)
  obtain ⟨m2, hm2⟩ := h2
  obtain ⟨a2, n2, c2, e2, lc2, mc2, fz2, ⟨l2, ln2, rd2⟩⟩ := open_ges hm2
  cases e2
  have nb2 := Nat.le_trans lc2 (max_len mc2)
  clear hA0 hval0
  refine (gvSpec_walk l0 xn0 ln0 rg0 xa0 xc0 a1 (i64_rng w1) l2 xn2 ln2 xa2 xc2 nb2 W rd2 nb0 rd0).mono fun e W' ⟨he, bel⟩ => ?_
  subst he
  exact ⟨_, rfl, _, _, _, [], _, [], hW', trodAll_mk1 (shut_bool Try.underlying4 _), (trodAll_cons_mk (Below.trod laidOut (by kernel_rfl) (of_decide_eq_true (by kernel_rfl)) k0 bel lt0) (trodAll_cons_mk (shut_int Try.underlying3 w1) (trodAll_cons_mk (Below.trod laidOut (by kernel_rfl) (of_decide_eq_true (by kernel_rfl)) k2 bel lt2) trodAll_mk0))), rfl, bel.frame _, fun h => by cases h⟩

theorem over : Rows.gesturesValuesSpecRow.holds Try.pinned (OpenSpec.ofChange Rows.gesturesValuesSpecSpec) :=
  OpenClaim.holds_of_wide 4 Try.f4 rfl rfl rfl rfl rfl rfl rfl ⟨rfl, rfl, rfl, rfl, rfl⟩ rfl rfl rfl rfl rfl (by kernel_rfl) Try.func4 (by show joinedFacts Try.prog _ _ _ _ = true; unfold joinedFacts; rw [may0, lift0, make0]; kernel_rfl)
    (of_decide_eq_true (by kernel_rfl)) (by unfold Func.isWrapper; first | (rw [if_pos (by decide +kernel)]; kernel_rfl) | (rw [if_neg (by decide +kernel)]; exact ⟨rfl, rfl⟩))
    (fun os started H enc _ => lifted os started H enc)
end Go.Proofs.Ytbppajenihjfhaa.Gs4
namespace Go.Proofs.Ytbppajenihjfhaa
/-- The statement. -/
theorem gesturesValuesSpec_holds : Rows.GesturesValuesSpecSaid := Gs4.over
end Go.Proofs.Ytbppajenihjfhaa
