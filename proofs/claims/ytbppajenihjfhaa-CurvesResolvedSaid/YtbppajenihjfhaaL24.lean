/- CurvesResolved. -/
import Derived.Test.YtbppajenihjfhaaCW
import Derived.Test.YtbppajenihjfhaaCL
import Derived.Test.YtbppajenihjfhaaY
namespace Go.Proofs.Ytbppajenihjfhaa
open Go.RowKit
open Go.Lib (hid)

@[irreducible] def CRO (n : Nat) (V : World) (i : Value) (wr : World) : Prop := ∃ j : Nat, ∃ z : After V, j ≤ n ∧ i = .int .i64 j ∧ wr = z.w
theorem CRO.mk {n : Nat} {V : World} {j : Nat} (z : After V) (h : j ≤ n) {i : Value} (hi : i = .int .i64 j) : CRO n V i z.w := by unfold CRO; exact ⟨j, z, h, hi, rfl⟩
theorem CRO.of {n : Nat} {V : World} {i : Value} {wr : World} (h : CRO n V i wr) : ∃ j : Nat, ∃ z : After V, j ≤ n ∧ i = .int .i64 j ∧ wr = z.w := by unfold CRO at h; exact h
def CRI (m : List Tp) (l : List Kn) (n i : Nat) (V : World) (v jv : Value) (wr : World) : Prop := ∃ j : Nat, ∃ z : After V, i + 1 ≤ j ∧ j ≤ n ∧ v = .int .i64 (kn l (lstJ m l i j)).v ∧ jv = .int .i64 j ∧ wr = z.w
set_option maxRecDepth 100000 in
set_option maxHeartbeats 4000000 in
theorem crd_walk (m : List Tp) (mn : Nat) (hmn : m.length = mn) (ma : Option Addr) (mc : Nat) (l : List Kn) (nn : Nat) (hnn : l.length = nn) (a : Option Addr) (c : Nat) (hf : a = none → nn = 0 ∧ c = 0) (hmb : mn ≤ 9223372036854775807) (hb : nn ≤ 9223372036854775807) (W : World) (hr : Rd W a (l.flatMap Kn.c)) (hrm : Rd W ma (m.flatMap Tp.c)) :
    Calls Try.prog 24 #[.slice ma mn mc, .slice a nn c] W fun e w' => e = .returned (.bool true) ∧ Below W.heap.size W w' := by
  have HMN := hid hmn; have HMR := hid (after_rd hrm); have HF := hid hf
  clear hmn hrm hf
  have HN := hid hnn; have HR := hid (after_rd hr)
  clear hnn hr
  go_enter Try.func24, Try.ntmps24
  go_wp2_with fail
  refine (met0 (sane11_any W)).mono ?_
  rintro e _ ⟨rfl, u1, rfl⟩
  by_cases h40 : nn ≤ 40
  case neg =>
    have d1 : decide ((40 : Int) < (nn : Int)) = true := decide_eq_true (by omega)
    go_wp2_with fail
    exact bodyPost_ret (v := .bool true) (by simp [results, Try.results24, go_sem]) rfl ⟨rfl, u1.2⟩
  have d1 : decide ((40 : Int) < (nn : Int)) = false := decide_eq_false (by omega)
  by_cases hm80 : mn ≤ 80
  case neg =>
    have d2 : decide ((80 : Int) < (mn : Int)) = true := decide_eq_true (by omega)
    go_wp2_with fail
    exact bodyPost_ret (v := .bool true) (by simp [results, Try.results24, go_sem]) rfl ⟨rfl, u1.2⟩
  have d2 : decide ((80 : Int) < (mn : Int)) = false := decide_eq_false (by omega)
  go_wp2_with fail
  refine (Resolve_any m mn HMN.out ma mc l nn HN.out a c HF.out u1.w hmb hb (HMR.out u1) (HR.out u1)).mono ?_
  rintro e w9 ⟨v1, rfl, hi1, hB1⟩
  obtain ⟨u2, rfl⟩ : ∃ y9 : After W, w9 = y9.w := ⟨u1.on hB1, rfl⟩
  clear hB1
  by_cases hE : resE m l = 0
  case neg =>
    rw [resV_no hE] at hi1
    obtain ⟨xa, xc, rfl, -, -⟩ := hi1.form (n := 0) rfl
    obtain ⟨E, hE2⟩ : ∃ y, resE m l = y := ⟨_, rfl⟩
    rw [hE2] at hE ⊢
    have d3 : (E != 0) = true := by simpa using hE
    clear hE hE2 hi1
    go_wp2_with fail
    exact bodyPost_ret (v := .bool true) (by simp [results, Try.results24, go_sem]) rfl ⟨rfl, u2.2⟩
  rw [hE]
  rw [resV_ok hE] at hi1
  have HE := hid hE
  have hgo := resE_good hE
  have HG := hid hgo.1; have HS0 := hid (rsE_ok hgo.2)
  clear hE hgo
  have hvl := resL_len m l
  obtain ⟨k, hk⟩ : ∃ k, (resL m l).length = k := ⟨_, rfl⟩
  rw [hk, HN.out] at hvl
  obtain ⟨xa, xc, rfl, hR1, -⟩ := hi1.form hk
  have HK := hid hk
  clear hk hi1
  obtain ⟨V, hV⟩ : ∃ V : World, V = u2.w := ⟨_, rfl⟩
  have hwV : Below W.heap.size W V := by rw [hV]; exact u2.2
  have HR1 := hid (show ∀ v : After V, Rd v.w xa ((resL m l).flatMap Kn.c) by rw [hV]; exact after_rd hR1)
  have HRV := hid (upr hwV HR.out)
  have HMV := hid (upr hwV HMR.out)
  obtain ⟨z0, hz0⟩ : ∃ u : After V, u.w = V := ⟨After.here V, rfl⟩
  rw [← hV, ← hz0]
  clear hV hR1 hz0
  go_wp2_with fail
  refine (met (kcheck_any (resL m l) k HK.out xa xc z0.w (by omega) (HR1.out z0))).mono ?_
  rintro e _ ⟨rfl, z1, rfl⟩
  rw [chkK_ok HG.out]
  have d4 : decide (nn < k) = false := decide_eq_false (by omega)
  go_wp2_with fail
  go_loopw [49] (fun i wr => CRO nn V i wr) (fun i _ => nn - (intOf i).toNat)
  case atStart => exact CRO.mk z1 (Nat.zero_le _) rfl
  case round =>
    obtain ⟨i, z, hi, rfl, rfl⟩ := hrel.of
    by_cases hlt : i < nn
    · have e1 : decide (i < nn) = true := decide_eq_true hlt
      have hik : (i : Int) < (nn : Int) := by omega
      have hil : i < l.length := by rw [HN.out]; exact hlt
      obtain ⟨b, off, rfl, hb2⟩ := (HRV.out z).addr (by rw [flat_len Kn.c 5 Kn.c5]; omega)
      have hes := HS0.out i hil
      have hfin := resolved_val HE.out hil
      rw [HN.out] at hfin
      have hst : (kn l (lstJ m l i (i + 1))).v = (kn l i).v := by rw [lstJ_low (i + 1) (Nat.le_refl _)]
      obtain ⟨⟨xk, xv, xs, xa9, xb⟩, hx⟩ : ∃ t, kn l i = t := ⟨_, rfl⟩
      have x0 : ∀ v : After V, v.w.cell? ⟨b, off + i * 5, none⟩ = some (.int .i64 xk) := kn_cell HRV.out (j := i) hil 0 (by decide) (by rw [hx]; rfl) rfl
      have x1 : ∀ v : After V, v.w.cell? ⟨b, off + i * 5 + 1, none⟩ = some (.int .i64 xv) := kn_cell HRV.out (j := i) hil 1 (by decide) (by rw [hx]; rfl) (by omega)
      obtain ⟨S, hS⟩ : ∃ y, smV m xk = y := ⟨_, rfl⟩
      simp only [hx, hS] at hes hfin hst
      have HX := hid (show smV m (kn l i).k = S by rw [hx]; exact hS)
      have HS := hid hS
      have HES := hid hes; have HFIN := hid hfin; have HST := hid hst
      clear hx hS hes hfin hst
      have c0 := x0 z
      go_wp2_with fail
      refine (met (Sample_any m mn HMN.out ma mc xk hmb z.w (HMV.out z))).mono ?_
      rintro e _ ⟨rfl, z2, rfl⟩
      rw [HES.out, HS.out]
      have c1 := x1 z2
      clear c0
      have n9 : IntKind.i64.wrap ((i : Int) + 1) = ((i + 1 : Nat) : Int) := by rw [IntWalk.i64_in _ (by omega)]; omega
      go_wp2_with fail
      go_loopw [10, 11] (fun v j wr => CRI m l nn i V v j wr) (fun _ j _ => nn - (intOf j).toNat)
      case atStart => exact ⟨i + 1, z2, Nat.le_refl _, by omega, by rw [HST.out], by go_num, rfl⟩
      case round =>
        obtain ⟨j, z3, hij, hj, rfl, rfl, rfl⟩ := hrel
        by_cases hlt2 : j < nn
        · have e2 : decide (j < nn) = true := decide_eq_true hlt2
          have hjk : (j : Int) < (nn : Int) := by omega
          have hjl : j < l.length := by rw [HN.out]; exact hlt2
          have hes := HS0.out j hjl
          have hnx : lstJ m l i (j + 1) = if i < j ∧ smV m (kn l j).k = smV m (kn l i).k then j else lstJ m l i j := rfl
          obtain ⟨⟨yk, yv, ys, ya, yb⟩, hy⟩ : ∃ t, kn l j = t := ⟨_, rfl⟩
          have y0 : ∀ v : After V, v.w.cell? ⟨b, off + j * 5, none⟩ = some (.int .i64 yk) := kn_cell HRV.out (j := j) hjl 0 (by decide) (by rw [hy]; rfl) rfl
          have y1 : ∀ v : After V, v.w.cell? ⟨b, off + j * 5 + 1, none⟩ = some (.int .i64 yv) := kn_cell HRV.out (j := j) hjl 1 (by decide) (by rw [hy]; rfl) (by omega)
          obtain ⟨T, hT⟩ : ∃ y, smV m yk = y := ⟨_, rfl⟩
          rw [hy] at hes hnx
          simp only [hT, HX.out] at hes hnx
          have HY := hid hy; have HT := hid hT; have HES2 := hid hes
          obtain ⟨va, hva⟩ : ∃ y, (kn l (lstJ m l i j)).v = y := ⟨_, rfl⟩
          rw [hva]
          have HVA := hid hva
          have HNX := hid hnx
          clear hy hT hes hva hnx
          have c2 := y0 z3
          go_wp2_with fail
          refine (met (Sample_any m mn HMN.out ma mc yk hmb z3.w (HMV.out z3))).mono ?_
          rintro e _ ⟨rfl, z4, rfl⟩
          rw [HES2.out, HT.out]
          have c3 := y1 z4
          clear c2
          rcases hq : (T == S) with _ | _
          · have hv9 := hid (show (kn l (lstJ m l i (j + 1))).v = va by rw [HNX.out, if_neg (fun h => by simp [h.2] at hq)]; exact HVA.out)
            go_wp2_with fail
            go_roundw
            case rel => exact ⟨j + 1, z4, by omega, by omega, by rw [hv9.out], by go_num, rfl⟩
            case measure => first | (simp [intOf]; done) | (simp [intOf]; omega)
          · have hv9 := hid (show (kn l (lstJ m l i (j + 1))).v = yv by rw [HNX.out, if_pos ⟨by omega, by simpa using hq⟩, HY.out])
            go_wp2_with fail
            go_roundw
            case rel => exact ⟨j + 1, z4, by omega, by omega, by rw [hv9.out], by go_num, rfl⟩
            case measure => first | (simp [intOf]; done) | (simp [intOf]; omega)
        · have e2 : decide (j < nn) = false := decide_eq_false hlt2
          obtain rfl : j = nn := by omega
          have hkv : kvV (resL m l) S = (kn l (lstJ m l i j)).v := by rw [show kvV (resL m l) S = ofK (resL m l) S from if_pos (chkK_ok HG.out)]; exact HFIN.out
          obtain ⟨va, hva⟩ : ∃ y, (kn l (lstJ m l i j)).v = y := ⟨_, rfl⟩
          rw [hva] at hkv ⊢
          have HKV := hid hkv
          have eva : (va == va) = true := beq_self_eq_true _
          clear hkv hva
          go_wp2_with fail
          refine (met (Value_any (resL m l) k HK.out xa xc S z3.w (by omega) (HR1.out z3))).mono ?_
          rintro e _ ⟨rfl, z4, rfl⟩
          rw [HKV.out, chkK_ok HG.out]
          go_wp2_with fail
          go_roundw
          case rel => first | exact CRO.mk z4 (show i + 1 ≤ j by omega) (by go_num) | ((repeat apply Exists.intro); exact ⟨CRO.mk z4 (show i + 1 ≤ j by omega) (by go_num), rfl⟩)
          case measure => first | (simp [intOf]; done) | (simp [intOf]; omega)
    · have e1 : decide (i < nn) = false := decide_eq_false hlt
      go_wp2_with fail
      exact bodyPost_ret (v := .bool true) (by simp [results, Try.results24, go_sem]) rfl ⟨rfl, b_then hwV z.w_below⟩
end Go.Proofs.Ytbppajenihjfhaa
namespace Go.Proofs.Ytbppajenihjfhaa.Crd24
open Go.ChangeShapes Go.WideShapes Go.ChangeAt Go.RowKit Go.Joins

theorem own : ownKnob Try.prog.godebug = none := by kernel_rfl
theorem laidOut : laidOutB Try.prog = true := by kernel_rfl

set_option maxRecDepth 100000 in
theorem lifted (os : Os) (started : os.Started) (H : Type) (enc : TypeId × Value → H) :
    ReturnsInHanded {} Try.checked os 24 .any (Rows.curvesResolvedSpec.pre6 enc Try.prog Try.f24 Rows.curvesResolvedRow.domain false) (Rows.curvesResolvedSpec.post enc Try.prog Try.f24 false true false false) := by
  refine returnsInHanded_of_change (C := Try.checked) own started (by kernel_rfl) Try.func24
    (ChangeSpec.witness6 (enc := enc) (C := Try.checked) false ⟨#[], #[.slice none 0 0, .slice none 0 0], []⟩ 8 (by kernel_rfl) (by kernel_rfl) (by kernel_rfl) (by kernel_rfl)) ?_
  intro W base args ds gs before hval0 hW hcnd _
  have hval : ∀ (j : Nat) t v, Try.f24.params[j]? = some t → args[j]? = some v → Value.okWide Try.prog W .any base t v := hval0
  have hW' := hW
  obtain ⟨p, q, hA0, hV, rfl, hfz, hnd⟩ := hW
  have hA : DataW.TrodAll enc Try.prog W 0 (fun _ => true) true Try.f24.params.toList args.toList ds p := hA0
  rw [Try.params24] at hA hval
  obtain ⟨v0, vs0, d0, ds0, p0, q0, hargs, rfl, rfl, h0, r0⟩ := trodAll_cons hA
  obtain ⟨v1, vs1, d1, ds1, p1, q1, rfl, rfl, rfl, h1, r1⟩ := trodAll_cons r0
  obtain ⟨rfl, rfl, rfl⟩ := trodAll_nil r1
  obtain rfl : args = #[v0, v1] := by cases args; simp_all
  obtain ⟨rfl, rfl⟩ := trodVars_none hV
  have k0 := h0
  have lt0 : ∀ x ∈ p0, x.block < W.heap.size := by obtain ⟨m, hm⟩ := k0; exact DataW.trod_lt m _ _ _ hm
  obtain ⟨xa0, xn0, xc0, rfl⟩ := okWide_slice Try.underlying48 (hval 0 48 v0 rfl rfl)
  obtain ⟨m0, hm0⟩ := h0
  obtain ⟨a0, n0, c0, e0, lc0, mc0, fz0, ⟨l0, ln0, rd0⟩, sz0⟩ := open_tps hm0
  cases e0
  have nb0 := Nat.le_trans lc0 (max_len mc0)
  have k1 := h1
  have lt1 : ∀ x ∈ p1, x.block < W.heap.size := by obtain ⟨m, hm⟩ := k1; exact DataW.trod_lt m _ _ _ hm
  obtain ⟨xa1, xn1, xc1, rfl⟩ := okWide_slice Try.underlying36 (hval 1 36 v1 rfl rfl)
  obtain ⟨m1, hm1⟩ := h1
  obtain ⟨a1, n1, c1, e1, lc1, mc1, fz1, ⟨l1, ln1, rd1⟩⟩ := open_kns hm1
  cases e1
  have nb1 := Nat.le_trans lc1 (max_len mc1)
  clear hA0 hval0
  refine (crd_walk l0 xn0 ln0 xa0 xc0 l1 xn1 ln1 xa1 xc1 fz1 nb0 nb1 W rd1 rd0).mono fun e W' ⟨he, bel⟩ => ?_
  subst he
  exact ⟨_, rfl, _, _, _, [], _, [], hW', trodAll_mk1 (shut_bool Try.underlying4 _), (trodAll_cons_mk (Below.trod laidOut (by kernel_rfl) (of_decide_eq_true (by kernel_rfl)) k0 bel lt0) (trodAll_cons_mk (Below.trod laidOut (by kernel_rfl) (of_decide_eq_true (by kernel_rfl)) k1 bel lt1) trodAll_mk0)), rfl, bel.frame _, fun h => by cases h⟩

theorem over : Rows.curvesResolvedRow.holds Try.pinned (OpenSpec.ofChange Rows.curvesResolvedSpec) :=
  OpenClaim.holds_of_wide 24 Try.f24 rfl rfl rfl rfl rfl rfl rfl ⟨rfl, rfl, rfl, rfl, rfl⟩ rfl rfl rfl rfl rfl (by kernel_rfl) Try.func24 (by show joinedFacts Try.prog _ _ _ _ = true; unfold joinedFacts; rw [may0, lift0, make0]; kernel_rfl)
    (of_decide_eq_true (by kernel_rfl)) (by unfold Func.isWrapper; first | (rw [if_pos (by decide +kernel)]; kernel_rfl) | (rw [if_neg (by decide +kernel)]; exact ⟨rfl, rfl⟩))
    (fun os started H enc _ => lifted os started H enc)
end Go.Proofs.Ytbppajenihjfhaa.Crd24
namespace Go.Proofs.Ytbppajenihjfhaa
/-- The statement. -/
theorem curvesResolved_holds : Rows.CurvesResolvedSaid := Crd24.over
end Go.Proofs.Ytbppajenihjfhaa
