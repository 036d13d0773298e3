/- TempoInverse. -/
import Derived.Test.YtbppajenihjfhaaX
import Derived.Test.YtbppajenihjfhaaW
import Derived.Test.YtbppajenihjfhaaY
import Derived.Test.YtbppajenihjfhaaP6
namespace Go.Proofs.Ytbppajenihjfhaa
open Go.RowKit
open Go.Lib (hid)

set_option maxRecDepth 100000 in
set_option maxHeartbeats 4000000 in
theorem inv_walk (m : List Tp) (nn : Nat) (hnn : m.length = nn) (a : Option Addr) (c : Nat) (tick pos : Int) (hb : nn ≤ 9223372036854775807) (W : World) (hr : Rd W a (m.flatMap Tp.c)) :
    Calls Try.prog 13 #[.slice a nn c, .int .i64 tick, .int .i64 pos] W fun e w' => e = .returned (.bool true) ∧ Below W.heap.size W w' := by
  have HN := hid hnn; have HR := hid (after_rd hr)
  clear hnn hr
  go_enter Try.func13, Try.ntmps13
  go_wp2_with fail
  refine (met0 (sane9_any W)).mono ?_
  rintro e _ ⟨rfl, u1, rfl⟩
  go_wp2_with fail
  refine (met (Tick_any m nn HN.out a c pos hb u1.w (HR.out u1))).mono ?_
  rintro e _ ⟨rfl, u2, rfl⟩
  by_cases hT : tkE m pos = 0
  · obtain ⟨e1, e2, e3, e4⟩ := tk_smp hT
    have hnx := tk_next hT
    rw [hT]
    generalize ht : tkV m pos = t at e1 e2 e3 e4 hnx ⊢
    have HE1 := hid e1; have HNX := hid hnx
    clear hT e1 hnx ht
    go_wp2_with fail
    refine (met (Sample_any m nn HN.out a c t hb u2.w (HR.out u2))).mono ?_
    rintro e _ ⟨rfl, u3, rfl⟩
    rw [HE1.out]
    generalize smV m t = sv at e2 ⊢
    have d1 : decide (pos < sv) = false := decide_eq_false (by omega)
    have d2 : decide (t < 0) = false := decide_eq_false (by omega)
    have d3 : decide (16777216 < t) = false := decide_eq_false (by omega)
    by_cases hlt : t < 16777216
    · have d4 : decide (t < 16777216) = true := decide_eq_true hlt
      go_wp2_with fail
      refine (met (Sample_any m nn HN.out a c (t + 1) hb u3.w (HR.out u3))).mono ?_
      rintro e _ ⟨rfl, u4, rfl⟩
      by_cases h7 : smE m (t + 1) = 70
      · rw [h7]
        generalize smV m (t + 1) = nv
        clear h7
        go_wp2_with fail
        refine (met (Sample_any m nn HN.out a c tick hb u4.w (HR.out u4))).mono ?_
        rintro e _ ⟨rfl, u5, rfl⟩
        by_cases hS : smE m tick = 0
        · obtain ⟨g1, g2, g3, g4⟩ := sm_tk hS
          rw [hS]
          generalize hs : smV m tick = s at g1 g2 g3 g4 ⊢
          go_wp2_with fail
          refine (met (Tick_any m nn HN.out a c s hb u5.w (HR.out u5))).mono ?_
          rintro e _ ⟨rfl, u6, rfl⟩
          rw [g1]
          generalize hbk : tkV m s = bk at g2 g3 g4 ⊢
          have HG := hid g2; have HG4 := hid g4
          clear hS g1 g2 g4 hs hbk
          go_wp2_with fail
          refine (met (Sample_any m nn HN.out a c bk hb u6.w (HR.out u6))).mono ?_
          rintro e _ ⟨rfl, u7, rfl⟩
          rw [HG.out, HG4.out]
          have d1 : decide (tick ≤ bk) = true := decide_eq_true g3
          have d2 : (s == s) = true := beq_self_eq_true s
          go_wp2_with fail
          exact bodyPost_ret (v := .bool true) (by simp [results, Try.results13, go_sem]) rfl ⟨rfl, u7.2⟩
        · have hz := smV_no hS
          have d1 : (smE m tick != 0) = true := by simpa using hS
          rw [hz]
          generalize smE m tick = es at d1 ⊢
          clear hS hz
          go_wp2_with fail
          exact bodyPost_ret (v := .bool true) (by simp [results, Try.results13, go_sem]) rfl ⟨rfl, u5.2⟩
      · obtain ⟨f1, f2⟩ := HNX.out hlt h7
        rw [f1]
        generalize smV m (t + 1) = nv at f2 ⊢
        have d5 : decide (nv ≤ pos) = false := decide_eq_false (by omega)
        clear h7 f1
        go_wp2_with fail
        refine (met (Sample_any m nn HN.out a c tick hb u4.w (HR.out u4))).mono ?_
        rintro e _ ⟨rfl, u8, rfl⟩
        by_cases hS : smE m tick = 0
        · obtain ⟨g1, g2, g3, g4⟩ := sm_tk hS
          rw [hS]
          generalize hs : smV m tick = s at g1 g2 g3 g4 ⊢
          go_wp2_with fail
          refine (met (Tick_any m nn HN.out a c s hb u8.w (HR.out u8))).mono ?_
          rintro e _ ⟨rfl, u9, rfl⟩
          rw [g1]
          generalize hbk : tkV m s = bk at g2 g3 g4 ⊢
          have HG := hid g2; have HG4 := hid g4
          clear hS g1 g2 g4 hs hbk
          go_wp2_with fail
          refine (met (Sample_any m nn HN.out a c bk hb u9.w (HR.out u9))).mono ?_
          rintro e _ ⟨rfl, u10, rfl⟩
          rw [HG.out, HG4.out]
          have d1 : decide (tick ≤ bk) = true := decide_eq_true g3
          have d2 : (s == s) = true := beq_self_eq_true s
          go_wp2_with fail
          exact bodyPost_ret (v := .bool true) (by simp [results, Try.results13, go_sem]) rfl ⟨rfl, u10.2⟩
        · have hz := smV_no hS
          have d1 : (smE m tick != 0) = true := by simpa using hS
          rw [hz]
          generalize smE m tick = es at d1 ⊢
          clear hS hz
          go_wp2_with fail
          exact bodyPost_ret (v := .bool true) (by simp [results, Try.results13, go_sem]) rfl ⟨rfl, u8.2⟩
    · have d4 : decide (t < 16777216) = false := decide_eq_false hlt
      go_wp2_with fail
      refine (met (Sample_any m nn HN.out a c tick hb u3.w (HR.out u3))).mono ?_
      rintro e _ ⟨rfl, u11, rfl⟩
      by_cases hS : smE m tick = 0
      · obtain ⟨g1, g2, g3, g4⟩ := sm_tk hS
        rw [hS]
        generalize hs : smV m tick = s at g1 g2 g3 g4 ⊢
        go_wp2_with fail
        refine (met (Tick_any m nn HN.out a c s hb u11.w (HR.out u11))).mono ?_
        rintro e _ ⟨rfl, u12, rfl⟩
        rw [g1]
        generalize hbk : tkV m s = bk at g2 g3 g4 ⊢
        have HG := hid g2; have HG4 := hid g4
        clear hS g1 g2 g4 hs hbk
        go_wp2_with fail
        refine (met (Sample_any m nn HN.out a c bk hb u12.w (HR.out u12))).mono ?_
        rintro e _ ⟨rfl, u13, rfl⟩
        rw [HG.out, HG4.out]
        have d1 : decide (tick ≤ bk) = true := decide_eq_true g3
        have d2 : (s == s) = true := beq_self_eq_true s
        go_wp2_with fail
        exact bodyPost_ret (v := .bool true) (by simp [results, Try.results13, go_sem]) rfl ⟨rfl, u13.2⟩
      · have hz := smV_no hS
        have d1 : (smE m tick != 0) = true := by simpa using hS
        rw [hz]
        generalize smE m tick = es at d1 ⊢
        clear hS hz
        go_wp2_with fail
        exact bodyPost_ret (v := .bool true) (by simp [results, Try.results13, go_sem]) rfl ⟨rfl, u11.2⟩
  · have d0 : (tkE m pos == 0) = false := by simpa using hT
    generalize tkE m pos = te at d0 ⊢
    generalize tkV m pos = tv
    clear hT
    go_wp2_with fail
    refine (met (Sample_any m nn HN.out a c tick hb u2.w (HR.out u2))).mono ?_
    rintro e _ ⟨rfl, u14, rfl⟩
    by_cases hS : smE m tick = 0
    · obtain ⟨g1, g2, g3, g4⟩ := sm_tk hS
      rw [hS]
      generalize hs : smV m tick = s at g1 g2 g3 g4 ⊢
      go_wp2_with fail
      refine (met (Tick_any m nn HN.out a c s hb u14.w (HR.out u14))).mono ?_
      rintro e _ ⟨rfl, u15, rfl⟩
      rw [g1]
      generalize hbk : tkV m s = bk at g2 g3 g4 ⊢
      have HG := hid g2; have HG4 := hid g4
      clear hS g1 g2 g4 hs hbk
      go_wp2_with fail
      refine (met (Sample_any m nn HN.out a c bk hb u15.w (HR.out u15))).mono ?_
      rintro e _ ⟨rfl, u16, rfl⟩
      rw [HG.out, HG4.out]
      have d1 : decide (tick ≤ bk) = true := decide_eq_true g3
      have d2 : (s == s) = true := beq_self_eq_true s
      go_wp2_with fail
      exact bodyPost_ret (v := .bool true) (by simp [results, Try.results13, go_sem]) rfl ⟨rfl, u16.2⟩
    · have hz := smV_no hS
      have d1 : (smE m tick != 0) = true := by simpa using hS
      rw [hz]
      generalize smE m tick = es at d1 ⊢
      clear hS hz
      go_wp2_with fail
      exact bodyPost_ret (v := .bool true) (by simp [results, Try.results13, go_sem]) rfl ⟨rfl, u14.2⟩
end Go.Proofs.Ytbppajenihjfhaa
namespace Go.Proofs.Ytbppajenihjfhaa.Inv13
open Go.ChangeShapes Go.WideShapes Go.ChangeAt Go.RowKit Go.Joins

theorem own : ownKnob Try.prog.godebug = none := by kernel_rfl
theorem laidOut : laidOutB Try.prog = true := by kernel_rfl

set_option maxRecDepth 100000 in
theorem lifted (os : Os) (started : os.Started) (H : Type) (enc : TypeId × Value → H) :
    ReturnsInHanded {} Try.checked os 13 .any (Rows.tempoInverseSpec.pre6 enc Try.prog Try.f13 Rows.tempoInverseRow.domain false) (Rows.tempoInverseSpec.post enc Try.prog Try.f13 false true false false) := by
  refine returnsInHanded_of_change (C := Try.checked) own started (by kernel_rfl) Try.func13
    (ChangeSpec.witness6 (enc := enc) (C := Try.checked) false ⟨#[], #[.slice none 0 0, .int .i64 0, .int .i64 0], []⟩ 8 (by kernel_rfl) (by kernel_rfl) (by kernel_rfl) (by kernel_rfl)) ?_
  intro W base args ds gs before hval0 hW hcnd _
  have hval : ∀ (j : Nat) t v, Try.f13.params[j]? = some t → args[j]? = some v → Value.okWide Try.prog W .any base t v := hval0
  have hW' := hW
  obtain ⟨p, q, hA0, hV, rfl, hfz, hnd⟩ := hW
  have hA : DataW.TrodAll enc Try.prog W 0 (fun _ => true) true Try.f13.params.toList args.toList ds p := hA0
  rw [Try.params13] at hA hval
  obtain ⟨v0, vs0, d0, ds0, p0, q0, hargs, rfl, rfl, h0, r0⟩ := trodAll_cons hA
  obtain ⟨v1, vs1, d1, ds1, p1, q1, rfl, rfl, rfl, h1, r1⟩ := trodAll_cons r0
  obtain ⟨v2, vs2, d2, ds2, p2, q2, rfl, rfl, rfl, h2, r2⟩ := trodAll_cons r1
  obtain ⟨rfl, rfl, rfl⟩ := trodAll_nil r2
  obtain rfl : args = #[v0, v1, v2] := by cases args; simp_all
  obtain ⟨rfl, rfl⟩ := trodVars_none hV
  have k0 := h0
  have lt0 : ∀ x ∈ p0, x.block < W.heap.size := by obtain ⟨m, hm⟩ := k0; exact DataW.trod_lt m _ _ _ hm
  obtain ⟨xa0, xn0, xc0, rfl⟩ := okWide_slice Try.underlying48 (hval 0 48 v0 rfl rfl)
  obtain ⟨m0, hm0⟩ := h0
  obtain ⟨a0, n0, c0, e0, lc0, mc0, fz0, ⟨l0, ln0, rd0⟩, sz0⟩ := open_tps hm0
  cases e0
  have nb0 := Nat.le_trans lc0 (max_len mc0)
  obtain ⟨a1, rfl, rfl, rfl, w1⟩ := open_int Try.underlying3 (hval 1 3 v1 rfl rfl) h1
  obtain ⟨a2, rfl, rfl, rfl, w2⟩ := open_int Try.underlying3 (hval 2 3 v2 rfl rfl) h2
  clear hA0 hval0
  refine (inv_walk l0 xn0 ln0 xa0 xc0 a1 a2 nb0 W rd0).mono fun e W' ⟨he, bel⟩ => ?_
  subst he
  exact ⟨_, rfl, _, _, _, [], _, [], hW', trodAll_mk1 (shut_bool Try.underlying4 _), (trodAll_cons_mk (Below.trod laidOut (by kernel_rfl) (of_decide_eq_true (by kernel_rfl)) k0 bel lt0) (trodAll_cons_mk (shut_int Try.underlying3 w1) (trodAll_cons_mk (shut_int Try.underlying3 w2) trodAll_mk0))), rfl, bel.frame _, fun h => by cases h⟩

theorem over : Rows.tempoInverseRow.holds Try.pinned (OpenSpec.ofChange Rows.tempoInverseSpec) :=
  OpenClaim.holds_of_wide 13 Try.f13 rfl rfl rfl rfl rfl rfl rfl ⟨rfl, rfl, rfl, rfl, rfl⟩ rfl rfl rfl rfl rfl (by kernel_rfl) Try.func13 (by show joinedFacts Try.prog _ _ _ _ = true; unfold joinedFacts; rw [may0, lift0, make0]; kernel_rfl)
    (of_decide_eq_true (by kernel_rfl)) (by unfold Func.isWrapper; first | (rw [if_pos (by decide +kernel)]; kernel_rfl) | (rw [if_neg (by decide +kernel)]; exact ⟨rfl, rfl⟩))
    (fun os started H enc _ => lifted os started H enc)
end Go.Proofs.Ytbppajenihjfhaa.Inv13
namespace Go.Proofs.Ytbppajenihjfhaa
/-- The statement. -/
theorem tempoInverse_holds : Rows.TempoInverseSaid := Inv13.over
end Go.Proofs.Ytbppajenihjfhaa
