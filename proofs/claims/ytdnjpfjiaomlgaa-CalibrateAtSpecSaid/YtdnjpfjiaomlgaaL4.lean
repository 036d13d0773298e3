/- CalibrateAtSpec. -/
import Derived.Test.YtdnjpfjiaomlgaaW
import Derived.Test.YtdnjpfjiaomlgaaCX
import Derived.Test.YtdnjpfjiaomlgaaCA
import Derived.Test.YtdnjpfjiaomlgaaC12
namespace Go.Proofs.Ytdnjpfjiaomlgaa
open Go.RowKit
open Go.Lib (hid)

set_option maxRecDepth 100000 in
set_option maxHeartbeats 4000000 in
theorem cat_walk (l : List Rc) (nn : Nat) (hnn : l.length = nn) (a : Option Addr) (c : Nat) (_hf : a = none → nn = 0 ∧ c = 0) (_hc : nn ≤ c) (dev pos k1 k2 : Int) (hb : nn ≤ 9223372036854775807) (W : World) (hr : Rd W a (l.flatMap Rc.cs)) :
    Calls Try.prog 4 #[.slice a nn c, .int .i64 dev, .int .i64 pos, .int .i64 k1, .int .i64 k2] W fun e w' => e = .returned (.bool true) ∧ Below W.heap.size W w' := by
  have HN := hid hnn; have HR := hid (after_rd hr)
  clear hnn hr _hf
  go_enter Try.func4, Try.ntmps4
  go_wp2_with fail
  refine (met0 (sane42_any W)).mono ?_
  rintro e _ ⟨rfl, u1, rfl⟩
  by_cases h300 : nn ≤ 300
  case neg =>
    have d0 : decide ((300 : Int) < (nn : Int)) = true := decide_eq_true (by omega)
    have d0' : decide (300 < nn) = true := decide_eq_true (by omega)
    go_wp2_with fail
    exact bodyPost_ret (v := .bool true) (by simp [results, Try.results4, go_sem]) rfl ⟨rfl, u1.2⟩
  have d0 : decide ((300 : Int) < (nn : Int)) = false := decide_eq_false (by omega)
  have d0' : decide (300 < nn) = false := decide_eq_false (by omega)
  go_wp2_with fail
  clear d0 d0'
  refine (met (at_any l nn HN.out a c dev pos k1 u1.w hb (HR.out u1))).mono ?_
  rintro e _ ⟨rfl, u2, rfl⟩
  obtain ⟨⟨ri, ro, rs⟩, hA⟩ : ∃ q, atV l dev pos k1 = q := ⟨_, rfl⟩
  obtain ⟨AE, hAE⟩ : ∃ q, atE l dev pos k1 = q := ⟨_, rfl⟩
  rw [hA, hAE]
  have HA := hid hA; have HAE := hid hAE
  clear hA hAE
  dsimp only
  go_wp2_with fail
  refine (met (rat_any l nn HN.out a c dev pos k1 u2.w hb (HR.out u2))).mono ?_
  rintro e _ ⟨rfl, u3, rfl⟩
  rw [HA.out, HAE.out]
  dsimp only
  go_wp2_with fail
  refine (changed_any l nn HN.out a c k1 k2 u3.w hb (HR.out u3)).mono ?_
  rintro e w9 ⟨v1, rfl, hi1, hB1⟩
  obtain ⟨u4, rfl⟩ : ∃ y : After W, w9 = y.w := ⟨u3.on hB1, rfl⟩
  have HI1 := hid hi1; clear hi1 hB1
  go_wp2_with fail
  refine (rchg_any l nn HN.out a c k1 k2 u4.w hb (HR.out u4)).mono ?_
  rintro e w9 ⟨v2, rfl, hi2, hB2⟩
  have hi1 := HI1.out.below hB2
  obtain ⟨u5, rfl⟩ : ∃ y : After W, w9 = y.w := ⟨u4.on hB2, rfl⟩
  obtain ⟨E, hE⟩ : ∃ y, chE l k1 k2 = y := ⟨_, rfl⟩
  obtain ⟨X, hX⟩ : ∃ y, chV l k1 k2 = y := ⟨_, rfl⟩
  obtain ⟨n, hn⟩ : ∃ n, X.length = n := ⟨_, rfl⟩
  have hxl : n ≤ 4112 := by
    rw [← hn, ← hX]
    by_cases h : chE l k1 k2 = 0
    · rw [chV_ok h]; exact chg_len (chkR_good (chE_zero h).1).1 k1 k2
    · rw [chV_no h]; exact Nat.zero_le _
  rw [hX] at hi1 hi2
  rw [hE]
  obtain ⟨xa, xc, rfl, hR1, hxc⟩ := hi1.form hn
  obtain ⟨ya, yc, rfl, hR2, -⟩ := hi2.form hn
  have HXN := hid hn
  have HR1 := hid hR1; have HR2 := hid hR2
  have e1 : (ri == ri) = true := beq_self_eq_true _
  have e2 : (ro == ro) = true := beq_self_eq_true _
  have e3 : (rs == rs) = true := beq_self_eq_true _
  have e4 : (AE == AE) = true := beq_self_eq_true _
  have e5 : (E == E) = true := beq_self_eq_true _
  clear hi1 hi2 hB2 hE hX hn hR1 hR2 HI1
  cases rs
  all_goals
    go_wp2_with fail
    refine (ssame_any X X n n HXN.out HXN.out xa ya xc yc (by omega) u5.w HR1.out HR2.out).mono ?_
    rintro e w9 ⟨rfl, hB9⟩
    rw [decide_eq_true rfl]
    go_wp2_with fail
    exact bodyPost_ret (v := .bool true) (by simp [results, Try.results4, go_sem]) rfl ⟨rfl, b_then u5.2 hB9⟩
end Go.Proofs.Ytdnjpfjiaomlgaa
namespace Go.Proofs.Ytdnjpfjiaomlgaa.Cs4
open Go.ChangeShapes Go.WideShapes Go.ChangeAt Go.RowKit Go.Joins

theorem own : ownKnob Try.prog.godebug = none := by kernel_rfl
theorem laidOut : laidOutB Try.prog = true := by kernel_rfl

set_option maxRecDepth 100000 in
theorem lifted (os : Os) (started : os.Started) (H : Type) (enc : TypeId × Value → H) :
    ReturnsInHanded {} Try.checked os 4 .any (Rows.calibrateAtSpecSpec.pre6 enc Try.prog Try.f4 Rows.calibrateAtSpecRow.domain false) (Rows.calibrateAtSpecSpec.post enc Try.prog Try.f4 false true false false) := by
  refine returnsInHanded_of_change (C := Try.checked) own started (by kernel_rfl) Try.func4
    (ChangeSpec.witness6 (enc := enc) (C := Try.checked) false ⟨#[], #[.slice none 0 0, .int .i64 0, .int .i64 0, .int .i64 0, .int .i64 0], []⟩ 8 (by kernel_rfl) (by kernel_rfl) (by kernel_rfl) (by kernel_rfl)) ?_
  intro W base args ds gs before hval0 hW hcnd _
  have hval : ∀ (j : Nat) t v, Try.f4.params[j]? = some t → args[j]? = some v → Value.okWide Try.prog W .any base t v := hval0
  have hW' := hW
  obtain ⟨p, q, hA0, hV, rfl, hfz, hnd⟩ := hW
  have hA : DataW.TrodAll enc Try.prog W 0 (fun _ => true) true Try.f4.params.toList args.toList ds p := hA0
  rw [Try.params4] at hA hval
  obtain ⟨v0, vs0, d0, ds0, p0, q0, hargs, rfl, rfl, h0, r0⟩ := trodAll_cons hA
  obtain ⟨v1, vs1, d1, ds1, p1, q1, rfl, rfl, rfl, h1, r1⟩ := trodAll_cons r0
  obtain ⟨v2, vs2, d2, ds2, p2, q2, rfl, rfl, rfl, h2, r2⟩ := trodAll_cons r1
  obtain ⟨v3, vs3, d3, ds3, p3, q3, rfl, rfl, rfl, h3, r3⟩ := trodAll_cons r2
  obtain ⟨v4, vs4, d4, ds4, p4, q4, rfl, rfl, rfl, h4, r4⟩ := trodAll_cons r3
  obtain ⟨rfl, rfl, rfl⟩ := trodAll_nil r4
  obtain rfl : args = #[v0, v1, v2, v3, v4] := by cases args; simp_all
  obtain ⟨rfl, rfl⟩ := trodVars_none hV
  have k0 := h0
  have lt0 : ∀ x ∈ p0, x.block < W.heap.size := by obtain ⟨m, hm⟩ := k0; exact DataW.trod_lt m _ _ _ hm
  obtain ⟨xa0, xn0, xc0, rfl⟩ := okWide_slice Try.underlying22 (hval 0 22 v0 rfl rfl)
  obtain ⟨m0, hm0⟩ := h0
  obtain ⟨a0, n0, c0, e0, lc0, mc0, fz0, ⟨l0, ln0, rd0⟩⟩ := open_rcs hm0
  cases e0
  have nb0 := Nat.le_trans lc0 (max_len mc0)
  obtain ⟨a1, rfl, rfl, rfl, w1⟩ := open_int Try.underlying3 (hval 1 3 v1 rfl rfl) h1
  obtain ⟨a2, rfl, rfl, rfl, w2⟩ := open_int Try.underlying3 (hval 2 3 v2 rfl rfl) h2
  obtain ⟨a3, rfl, rfl, rfl, w3⟩ := open_int Try.underlying3 (hval 3 3 v3 rfl rfl) h3
  obtain ⟨a4, rfl, rfl, rfl, w4⟩ := open_int Try.underlying3 (hval 4 3 v4 rfl rfl) h4
  clear hA0 hval0
  refine (cat_walk l0 xn0 ln0 xa0 xc0 fz0 lc0 a1 a2 a3 a4 nb0 W rd0).mono fun e W' ⟨he, bel⟩ => ?_
  subst he
  exact ⟨_, rfl, _, _, _, [], _, [], hW', trodAll_mk1 (shut_bool Try.underlying4 _), (trodAll_cons_mk (Below.trod laidOut (by kernel_rfl) (of_decide_eq_true (by kernel_rfl)) k0 bel lt0) (trodAll_cons_mk (shut_int Try.underlying3 w1) (trodAll_cons_mk (shut_int Try.underlying3 w2) (trodAll_cons_mk (shut_int Try.underlying3 w3) (trodAll_cons_mk (shut_int Try.underlying3 w4) trodAll_mk0))))), rfl, bel.frame _, fun h => by cases h⟩

theorem over : Rows.calibrateAtSpecRow.holds Try.pinned (OpenSpec.ofChange Rows.calibrateAtSpecSpec) :=
  OpenClaim.holds_of_wide 4 Try.f4 rfl rfl rfl rfl rfl rfl rfl ⟨rfl, rfl, rfl, rfl, rfl⟩ rfl rfl rfl rfl rfl (by kernel_rfl) Try.func4 (by show joinedFacts Try.prog _ _ _ _ = true; kernel_rfl)
    (of_decide_eq_true (by kernel_rfl)) (by unfold Func.isWrapper; first | (rw [if_pos (by decide +kernel)]; kernel_rfl) | (rw [if_neg (by decide +kernel)]; exact ⟨rfl, rfl⟩))
    (fun os started H enc _ => lifted os started H enc)
end Go.Proofs.Ytdnjpfjiaomlgaa.Cs4
namespace Go.Proofs.Ytdnjpfjiaomlgaa
/-- The statement. -/
theorem calibrateAtSpec_holds : Rows.CalibrateAtSpecSaid := Cs4.over
end Go.Proofs.Ytdnjpfjiaomlgaa
