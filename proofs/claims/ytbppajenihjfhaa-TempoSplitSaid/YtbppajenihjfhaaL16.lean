/- TempoSplit. -/
import Derived.Test.YtbppajenihjfhaaX
import Derived.Test.YtbppajenihjfhaaW
import Derived.Test.YtbppajenihjfhaaY
import Derived.Test.YtbppajenihjfhaaP9
import Derived.Test.YtbppajenihjfhaaBX
import Derived.IntWalk
namespace Go.Proofs.Ytbppajenihjfhaa
open Go.RowKit
open Go.Lib (hid)

def SPL (m : List Tp) (at_ : Int) (n : Nat) (V : World) (b : Nat) (i : Value) (wr : World) : Prop := ∃ j : Nat, j ≤ n ∧ i = .int .i64 j ∧ BoxIs V b (lastT m at_ j) wr
theorem ins_le3 {m : List Tp} {t : Tp} : (insV m t).length ≤ 64 := by
  unfold insV
  split
  · rename_i h; exact len_le h
  · exact Nat.zero_le _
set_option maxRecDepth 100000 in
set_option maxHeartbeats 4000000 in
theorem spl_walk (m : List Tp) (nn : Nat) (hnn : m.length = nn) (a : Option Addr) (c : Nat) (at_ tick : Int) (hf : a = none → nn = 0 ∧ c = 0) (hb : nn ≤ 9223372036854775807) (W : World) (hr : Rd W a (m.flatMap Tp.c)) :
    Calls Try.prog 16 #[.slice a nn c, .int .i64 at_, .int .i64 tick] W fun e w' => e = .returned (.bool true) ∧ Below W.heap.size W w' := by
  have HN := hid hnn; have HR := hid (after_rd hr); have HF := hid hf
  clear hnn hr hf
  go_enter Try.func16, Try.ntmps16
  go_wp2_with fail
  refine (met0 (sane9_any W)).mono ?_
  rintro e _ ⟨rfl, u1, rfl⟩
  go_wp2_with fail
  refine (met (tcheck_any m nn HN.out a c u1.w hb (HR.out u1))).mono ?_
  rintro e _ ⟨rfl, u2, rfl⟩
  by_cases hK : chkT m = 0
  case neg =>
    have d1 : (chkT m != 0) = true := by simpa using hK
    generalize chkT m = K at d1 ⊢
    clear hK
    go_wp2_with fail
    exact bodyPost_ret (v := .bool true) (by simp [results, Try.results16, go_sem]) rfl ⟨rfl, u2.2⟩
  rw [hK]
  have HK := hid hK
  have hl0 := len_pos (chkT_good hK)
  have hl64 := len_le (chkT_good hK)
  rw [HN.out] at hl0 hl64
  clear hK
  have d0 : ((nn : Int) == 0) = false := beq_eq_false_iff_ne.2 (by omega)
  obtain ⟨b, off, rfl, hbl⟩ := (HR.out u2).addr (by rw [flat_len Tp.c 4 Tp.c4, HN.out]; omega)
  obtain ⟨V, hV⟩ : ∃ V : World, V = u2.w := ⟨_, rfl⟩
  have hWV : Below W.heap.size W V := by rw [hV]; exact u2.2
  have RV := hid (fun v : After V => HR.out (After.to (b_then hWV v.2)))
  rw [← hV]
  clear hV hbl
  have hN0 : 0 < m.length := by rw [HN.out]; exact hl0
  obtain ⟨⟨ek, en, ed, er⟩, he⟩ : ∃ t, tp m 0 = t := ⟨_, rfl⟩
  have e0 : V.cell? ⟨b, off, none⟩ = some (.int .i64 ek) := tp_cell RV.out (j := 0) (hN0) 0 (by decide) (by rw [he]; rfl) rfl (After.here _)
  have e1 : V.cell? ⟨b, off + 1, none⟩ = some (.int .i64 en) := tp_cell RV.out (j := 0) (hN0) 1 (by decide) (by rw [he]; rfl) (by omega) (After.here _)
  have e2 : V.cell? ⟨b, off + 2, none⟩ = some (.int .i64 ed) := tp_cell RV.out (j := 0) (hN0) 2 (by decide) (by rw [he]; rfl) (by omega) (After.here _)
  have e3 : V.cell? ⟨b, off + 3, none⟩ = some (.bool er) := tp_cell RV.out (j := 0) (hN0) 3 (by decide) (by rw [he]; rfl) (by omega) (After.here _)
  have He := hid he; clear he
  go_wp2_with fail
  have hbx0 := hid (BoxIs.new (Below.refl V.heap.size V) ⟨ek, en, ed, er⟩)
  clear d0 e0 e1 e2 e3
  go_loopw [8] (fun i wr => SPL m at_ nn V V.heap.size i wr) (fun i _ => nn - (intOf i).toNat)
  case atStart => exact ⟨0, Nat.zero_le _, rfl, hbx0.out.eq He.out.symm⟩
  case round =>
    obtain ⟨j, hj, rfl, hbx⟩ := hrel
    have HBX := hid hbx
    obtain ⟨q, hq⟩ : ∃ q, lastT m at_ j = q := ⟨_, rfl⟩
    rw [hq] at hbx
    have HQ := hid hq; clear hq
    have p0 := hbx.c0
    have pf0 := hbx.f0
    have p1 := hbx.c1
    have pf1 := hbx.f1
    have p2 := hbx.c2
    have pf2 := hbx.f2
    have p3 := hbx.c3
    have pf3 := hbx.f3
    have HBX2 := hid hbx; clear hbx
    by_cases hlt : j < nn
    · have hjj : (j : Int) < (nn : Int) := by omega
      have d1 : decide (j < nn) = true := decide_eq_true hlt
      have RJ := hid (fun v : After wr => HR.out (After.to (b_then (b_then hWV HBX2.out.below) v.2)))
      have hjm : j < m.length := by rw [HN.out]; exact hlt
      obtain ⟨⟨xk, xn, xd, xr⟩, hx⟩ : ∃ t, tp m j = t := ⟨_, rfl⟩
      have x0 : wr.cell? ⟨b, off + j * 4, none⟩ = some (.int .i64 xk) := tp_cell RJ.out (j := j) (hjm) 0 (by decide) (by rw [hx]; rfl) rfl (After.here _)
      have x1 : wr.cell? ⟨b, off + j * 4 + 1, none⟩ = some (.int .i64 xn) := tp_cell RJ.out (j := j) (hjm) 1 (by decide) (by rw [hx]; rfl) (by omega) (After.here _)
      have x2 : wr.cell? ⟨b, off + j * 4 + 2, none⟩ = some (.int .i64 xd) := tp_cell RJ.out (j := j) (hjm) 2 (by decide) (by rw [hx]; rfl) (by omega) (After.here _)
      have x3 : wr.cell? ⟨b, off + j * 4 + 3, none⟩ = some (.bool xr) := tp_cell RJ.out (j := j) (hjm) 3 (by decide) (by rw [hx]; rfl) (by omega) (After.here _)
      have Hx := hid hx; clear hx
      rcases hg : decide (xk ≤ at_) with _ | _
      · have hg2 := hid hg
        go_wp2_with fail
        clear hg
        go_roundw
        case rel => exact ⟨j + 1, by omega, by go_num, HBX.out.eq (by rw [lastT, Hx.out, if_neg (by simpa using hg2.out)])⟩
        case measure => simp [intOf]; omega
      · have hg2 := hid hg
        go_wp2_with fail
        clear hg
        go_roundw
        case rel => exact ⟨j + 1, by omega, by go_num, (HBX2.out.set (Nat.le_refl _) xk xn xd xr).eq (by rw [lastT, Hx.out, if_pos (by simpa using hg2.out)])⟩
        case measure => simp [intOf]; omega
    · obtain rfl : j = nn := by omega
      have d1 : decide (j < j) = false := decide_eq_false (by omega)
      have HQ2 := hid (show lastT m at_ m.length = q by rw [HN.out]; exact HQ.out)
      clear HBX
      obtain ⟨qk, qn, qd, qr⟩ := q
      dsimp only at p0 p1 p2 p3
      cases qr
      case true =>
        go_wp2_with fail
        exact bodyPost_ret (v := .bool true) (by simp [results, Try.results16, go_sem]) rfl ⟨rfl, b_then hWV HBX2.out.below⟩
      by_cases hne : qk = at_
      case pos =>
        have d2 : (qk == at_) = true := by simpa using hne
        clear hne
        go_wp2_with fail
        exact bodyPost_ret (v := .bool true) (by simp [results, Try.results16, go_sem]) rfl ⟨rfl, b_then hWV HBX2.out.below⟩
      have d2 : (qk == at_) = false := beq_eq_false_iff_ne.2 hne
      have hsp := split_ok HK.out (at_ := at_) (by rw [HQ2.out]) (by rw [HQ2.out]; exact hne)
      rw [HQ2.out] at hsp
      have HSP := hid hsp; clear hsp hne
      have HWR := hid (b_then hWV HBX2.out.below)
      go_wp2_with fail
      refine (Insert_any m j HN.out (some ⟨b, off, none⟩) c ⟨at_, qn, qd, false⟩ (fun h => by cases h) (by omega) wr (HR.out (After.to HWR.out))).mono ?_
      rintro e w9 ⟨v1, rfl, hS1, hB9⟩
      clear p0 p1 p2 p3 pf0 pf1 pf2 pf3
      obtain ⟨u3, rfl⟩ : ∃ y9 : After W, w9 = y9.w := ⟨After.to (b_then HWR.out hB9), rfl⟩
      have hl := ins_le3 (m := m) (t := ⟨at_, qn, qd, false⟩)
      obtain ⟨xn, hxn⟩ : ∃ n, (insV m ⟨at_, qn, qd, false⟩).length = n := ⟨_, rfl⟩
      obtain ⟨xa, xc, rfl, hR1, -⟩ := hS1.form hxn
      have HX := hid hxn; have HR1 := hid hR1
      have hxl : xn ≤ 64 := by omega
      clear hS1 hxn hl hB9 hR1
      by_cases hE : insE m ⟨at_, qn, qd, false⟩ = 0
      case neg =>
        have d3 : (insE m ⟨at_, qn, qd, false⟩ != 0) = true := by simpa using hE
        have h3 := HSP.out.1 hE
        rw [HN.out] at h3
        generalize insE m ⟨at_, qn, qd, false⟩ = E at d3 ⊢
        clear hE
        rcases Decidable.em (at_ < 0) with g1 | g1
        · have d4 : decide (at_ < 0) = true := decide_eq_true g1
          go_wp2_with fail
          exact bodyPost_ret (v := .bool true) (by simp [results, Try.results16, go_sem]) rfl ⟨rfl, u3.2⟩
        have d4 : decide (at_ < 0) = false := decide_eq_false g1
        rcases Decidable.em (16777216 < at_) with g2 | g2
        · have d5 : decide (16777216 < at_) = true := decide_eq_true g2
          go_wp2_with fail
          exact bodyPost_ret (v := .bool true) (by simp [results, Try.results16, go_sem]) rfl ⟨rfl, u3.2⟩
        have d5 : decide (16777216 < at_) = false := decide_eq_false g2
        obtain rfl : j = 64 := by omega
        go_wp2_with fail
        exact bodyPost_ret (v := .bool true) (by simp [results, Try.results16, go_sem]) rfl ⟨rfl, u3.2⟩
      have h2 := HSP.out.2 hE tick
      rw [hE]
      have HS := hid h2; clear h2 hE
      go_wp2_with fail
      refine (Sample_any m j HN.out (some ⟨b, off, none⟩) c tick hb u3.w (HR.out u3)).mono ?_
      rintro e w9 ⟨rfl, hB9⟩
      obtain ⟨u4, rfl⟩ : ∃ y9 : After W, w9 = y9.w := ⟨u3.on hB9, rfl⟩
      have HR2 := hid (HR1.out.below hB9)
      clear hB9
      obtain ⟨sv, hsv⟩ : ∃ y, smV m tick = y := ⟨_, rfl⟩
      obtain ⟨se, hse⟩ : ∃ y, smE m tick = y := ⟨_, rfl⟩
      rw [hsv, hse]
      have HSV := hid hsv; have HSE := hid hse
      clear hsv hse
      go_wp2_with fail
      refine (met (Sample_any (insV m ⟨at_, qn, qd, false⟩) xn HX.out xa xc tick (by omega) u4.w HR2.out)).mono ?_
      rintro e _ ⟨rfl, u5, rfl⟩
      obtain ⟨tv, htv⟩ : ∃ y, smV (insV m ⟨at_, qn, qd, false⟩) tick = y := ⟨_, rfl⟩
      obtain ⟨te, hte⟩ : ∃ y, smE (insV m ⟨at_, qn, qd, false⟩) tick = y := ⟨_, rfl⟩
      have hs := HS.out
      rw [HSV.out, HSE.out, htv, hte] at hs
      rw [htv, hte]
      clear htv hte
      obtain ⟨hs1, hs2⟩ := hs
      by_cases hs0 : se = 0
      · obtain ⟨g1, g2, g3⟩ := hs2 hs0
        have hse0 : smE m tick = 0 := by rw [HSE.out]; exact hs0
        obtain ⟨_, z0, _, z1⟩ := smE_0.1 hse0
        have z2 := (smp_bd (chkT_good HK.out) z0).1
        rw [← smV_eq hse0, HSV.out] at z1 z2
        subst hs0; subst g1
        have w1 : IntKind.i64.wrap (sv - tv) = sv - tv := IntWalk.i64_in _ (by omega)
        have w2 : decide (sv - tv ≤ 1) = true := decide_eq_true g3
        have w3 : decide (tv ≤ sv) = true := decide_eq_true g2
        clear hs1 hs2 hse0
        go_wp2_with fail
        exact bodyPost_ret (v := .bool true) (by simp [results, Try.results16, go_sem]) rfl ⟨rfl, u5.2⟩
      · have d4 : (se != 0) = true := by simpa using hs0
        have h7 := hs1 hs0
        clear hs1 hs2 hs0
        rcases Decidable.em (se = te) with rfl | g
        · have d5 : (se == se) = true := beq_self_eq_true _
          clear h7
          go_wp2_with fail
          exact bodyPost_ret (v := .bool true) (by simp [results, Try.results16, go_sem]) rfl ⟨rfl, u5.2⟩
        · have d5 : (se == te) = false := beq_eq_false_iff_ne.2 g
          obtain rfl : se = 70 := h7.resolve_left g
          clear h7 g
          go_wp2_with fail
          exact bodyPost_ret (v := .bool true) (by simp [results, Try.results16, go_sem]) rfl ⟨rfl, u5.2⟩
end Go.Proofs.Ytbppajenihjfhaa
namespace Go.Proofs.Ytbppajenihjfhaa.Spl16
open Go.ChangeShapes Go.WideShapes Go.ChangeAt Go.RowKit Go.Joins

theorem own : ownKnob Try.prog.godebug = none := by kernel_rfl
theorem laidOut : laidOutB Try.prog = true := by kernel_rfl

set_option maxRecDepth 100000 in
theorem lifted (os : Os) (started : os.Started) (H : Type) (enc : TypeId × Value → H) :
    ReturnsInHanded {} Try.checked os 16 .any (Rows.tempoSplitSpec.pre6 enc Try.prog Try.f16 Rows.tempoSplitRow.domain false) (Rows.tempoSplitSpec.post enc Try.prog Try.f16 false true false false) := by
  refine returnsInHanded_of_change (C := Try.checked) own started (by kernel_rfl) Try.func16
    (ChangeSpec.witness6 (enc := enc) (C := Try.checked) false ⟨#[], #[.slice none 0 0, .int .i64 0, .int .i64 0], []⟩ 8 (by kernel_rfl) (by kernel_rfl) (by kernel_rfl) (by kernel_rfl)) ?_
  intro W base args ds gs before hval0 hW hcnd _
  have hval : ∀ (j : Nat) t v, Try.f16.params[j]? = some t → args[j]? = some v → Value.okWide Try.prog W .any base t v := hval0
  have hW' := hW
  obtain ⟨p, q, hA0, hV, rfl, hfz, hnd⟩ := hW
  have hA : DataW.TrodAll enc Try.prog W 0 (fun _ => true) true Try.f16.params.toList args.toList ds p := hA0
  rw [Try.params16] at hA hval
  obtain ⟨v0, vs0, d0, ds0, p0, q0, hargs, rfl, rfl, h0, r0⟩ := trodAll_cons hA
  obtain ⟨v1, vs1, d1, ds1, p1, q1, rfl, rfl, rfl, h1, r1⟩ := trodAll_cons r0
  obtain ⟨v2, vs2, d2, ds2, p2, q2, rfl, rfl, rfl, h2, r2⟩ := trodAll_cons r1
  obtain ⟨rfl, rfl, rfl⟩ := trodAll_nil r2
  obtain rfl : args = #[v0, v1, v2] := by cases args; simp_all
  obtain ⟨rfl, rfl⟩ := trodVars_none hV
  have k0 := h0
  have lt0 : ∀ x ∈ p0, x.block < W.heap.size := by obtain ⟨m, hm⟩ := k0; exact DataW.trod_lt m _ _ _ hm
  obtain ⟨xa0, xn0, xc0, rfl⟩ := okWide_slice Try.underlying48 (hval 0 48 v0 rfl rfl)
  obtain ⟨m0, hm0⟩ := h0
  obtain ⟨a0, n0, c0, e0, lc0, mc0, fz0, ⟨l0, ln0, rd0⟩, sz0⟩ := open_tps hm0
  cases e0
  have nb0 := Nat.le_trans lc0 (max_len mc0)
  obtain ⟨a1, rfl, rfl, rfl, w1⟩ := open_int Try.underlying3 (hval 1 3 v1 rfl rfl) h1
  obtain ⟨a2, rfl, rfl, rfl, w2⟩ := open_int Try.underlying3 (hval 2 3 v2 rfl rfl) h2
  clear hA0 hval0
  refine (spl_walk l0 xn0 ln0 xa0 xc0 a1 a2 fz0 nb0 W rd0).mono fun e W' ⟨he, bel⟩ => ?_
  subst he
  exact ⟨_, rfl, _, _, _, [], _, [], hW', trodAll_mk1 (shut_bool Try.underlying4 _), (trodAll_cons_mk (Below.trod laidOut (by kernel_rfl) (of_decide_eq_true (by kernel_rfl)) k0 bel lt0) (trodAll_cons_mk (shut_int Try.underlying3 w1) (trodAll_cons_mk (shut_int Try.underlying3 w2) trodAll_mk0))), rfl, bel.frame _, fun h => by cases h⟩

theorem over : Rows.tempoSplitRow.holds Try.pinned (OpenSpec.ofChange Rows.tempoSplitSpec) :=
  OpenClaim.holds_of_wide 16 Try.f16 rfl rfl rfl rfl rfl rfl rfl ⟨rfl, rfl, rfl, rfl, rfl⟩ rfl rfl rfl rfl rfl (by kernel_rfl) Try.func16 (by show joinedFacts Try.prog _ _ _ _ = true; unfold joinedFacts; rw [may0, lift0, make0]; kernel_rfl)
    (of_decide_eq_true (by kernel_rfl)) (by unfold Func.isWrapper; first | (rw [if_pos (by decide +kernel)]; kernel_rfl) | (rw [if_neg (by decide +kernel)]; exact ⟨rfl, rfl⟩))
    (fun os started H enc _ => lifted os started H enc)
end Go.Proofs.Ytbppajenihjfhaa.Spl16
namespace Go.Proofs.Ytbppajenihjfhaa
/-- The statement. -/
theorem tempoSplit_holds : Rows.TempoSplitSaid := Spl16.over
end Go.Proofs.Ytbppajenihjfhaa
