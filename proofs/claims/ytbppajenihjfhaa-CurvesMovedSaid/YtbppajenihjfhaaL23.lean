/- CurvesMoved. -/
import Derived.Test.YtbppajenihjfhaaCW
import Derived.Test.YtbppajenihjfhaaCL
import Derived.Test.YtbppajenihjfhaaY
namespace Go.Proofs.Ytbppajenihjfhaa
open Go.RowKit
open Go.Lib (hid)

def MVO (n : Nat) (V : World) (i : Value) (wr : World) : Prop := ∃ j : Nat, ∃ z : After V, j ≤ n ∧ i = .int .i64 j ∧ wr = z.w
/-- The first j knots moved. -/
def shTo (l : List Kn) (d : Int) : Nat → List Kn
  | 0 => l
  | j + 1 => (shTo l d j).set j (shK (kn l j) d)
theorem shTo_len (l : List Kn) (d : Int) (j : Nat) : (shTo l d j).length = l.length := by
  induction j with
  | zero => rfl
  | succ j ih => rw [shTo, List.length_set, ih]
theorem kn_shTo (l : List Kn) (d : Int) {j : Nat} (hj : j ≤ l.length) (i : Nat) : kn (shTo l d j) i = if i < j then shK (kn l i) d else kn l i := by
  induction j with
  | zero => rw [if_neg (by omega)]; rfl
  | succ j ih =>
    rw [shTo, kn_set (by rw [shTo_len]; omega), ih (by omega)]
    by_cases h : i = j
    · subst h; rw [if_pos rfl, if_pos (by omega)]
    · rw [if_neg h]
      by_cases h2 : i < j
      · rw [if_pos h2, if_pos (by omega)]
      · rw [if_neg h2, if_neg (by omega)]
theorem shTo_all (l : List Kn) (d : Int) : shTo l d l.length = l.map fun x => shK x d := by
  refine kn_ext (by rw [shTo_len, List.length_map]) fun i hi => ?_
  rw [shTo_len] at hi
  rw [kn_shTo l d (Nat.le_refl _), if_pos hi, kn_map hi]
theorem vsL_get (l : List Kn) (fr : Int) {k i : Nat} (h : i < k) : (vsL l fr k)[i]? = some (ofK l (fr + (i : Int))) := by simp [vsL, h]
def MVL (l : List Kn) (d : Int) (nn : Nat) (V : World) (a8 : Option Addr) (i : Value) (wr : World) : Prop := ∃ j : Nat, ∃ z : After V, j ≤ nn ∧ i = .int .i64 j ∧ wr = z.w ∧ (0 < nn → ∃ g vs, a8 = some ⟨g, 0, none⟩ ∧ V.heap.size ≤ g ∧ BoxV V g vs wr ∧ Hid (vs.take (nn * 5) = (shTo l d j).flatMap Kn.c))
set_option maxRecDepth 100000 in
set_option maxHeartbeats 4000000 in
theorem cmv_walk (l : List Kn) (nn : Nat) (hnn : l.length = nn) (a : Option Addr) (c : Nat) (d fr n : Int) (hb : nn ≤ 9223372036854775807) (W : World) (hr : Rd W a (l.flatMap Kn.c)) :
    Calls Try.prog 23 #[.slice a nn c, .int .i64 d, .int .i64 fr, .int .i64 n] W fun e w' => e = .returned (.bool true) ∧ Below W.heap.size W w' := by
  have HN := hid hnn; have HR := hid (after_rd hr)
  clear hnn hr
  obtain ⟨i0, hi, hz0, hz1, hz2⟩ := info_parts info71
  go_enter Try.func23, Try.ntmps23
  go_wp2_with fail
  refine (met0 (sane11_any W)).mono ?_
  rintro e _ ⟨rfl, u1, rfl⟩
  go_wp2_with fail
  refine (few_any a nn c u1.w).mono ?_
  rintro e w9 ⟨rfl, rfl⟩
  by_cases hfew : nn ≤ 1100
  case neg =>
    have d1 : decide ((nn : Int) ≤ 1100) = false := decide_eq_false (by omega)
    rw [d1]
    go_wp2_with fail
    exact bodyPost_ret (v := .bool true) (by simp [results, Try.results23, go_sem]) rfl ⟨rfl, u1.2⟩
  have d1 : decide ((nn : Int) ≤ 1100) = true := decide_eq_true (by omega)
  rw [d1]
  clear d1
  by_cases n0 : 0 ≤ n
  case neg =>
    have d2 : decide (n < 0) = true := decide_eq_true (by omega)
    go_wp2_with fail
    exact bodyPost_ret (v := .bool true) (by simp [results, Try.results23, go_sem]) rfl ⟨rfl, u1.2⟩
  have dn0 : decide (n < 0) = false := decide_eq_false (by omega)
  by_cases n1 : n ≤ 100
  case neg =>
    have d2 : decide (100 < n) = true := decide_eq_true (by omega)
    go_wp2_with fail
    exact bodyPost_ret (v := .bool true) (by simp [results, Try.results23, go_sem]) rfl ⟨rfl, u1.2⟩
  have dn1 : decide (100 < n) = false := decide_eq_false (by omega)
  by_cases b0 : -1099511627776 ≤ d
  case neg =>
    have d2 : decide (d < -1099511627776) = true := decide_eq_true (by omega)
    go_wp2_with fail
    exact bodyPost_ret (v := .bool true) (by simp [results, Try.results23, go_sem]) rfl ⟨rfl, u1.2⟩
  have db0 : decide (d < -1099511627776) = false := decide_eq_false (by omega)
  by_cases b1 : d ≤ 1099511627776
  case neg =>
    have d2 : decide (1099511627776 < d) = true := decide_eq_true (by omega)
    go_wp2_with fail
    exact bodyPost_ret (v := .bool true) (by simp [results, Try.results23, go_sem]) rfl ⟨rfl, u1.2⟩
  have db1 : decide (1099511627776 < d) = false := decide_eq_false (by omega)
  by_cases f0 : -1099511627776 ≤ fr
  case neg =>
    have d2 : decide (fr < -1099511627776) = true := decide_eq_true (by omega)
    go_wp2_with fail
    exact bodyPost_ret (v := .bool true) (by simp [results, Try.results23, go_sem]) rfl ⟨rfl, u1.2⟩
  have df0 : decide (fr < -1099511627776) = false := decide_eq_false (by omega)
  by_cases f1 : fr ≤ 1099511627776
  case neg =>
    have d2 : decide (1099511627776 < fr) = true := decide_eq_true (by omega)
    go_wp2_with fail
    exact bodyPost_ret (v := .bool true) (by simp [results, Try.results23, go_sem]) rfl ⟨rfl, u1.2⟩
  have df1 : decide (1099511627776 < fr) = false := decide_eq_false (by omega)
  go_wp2_with fail
  refine (Values_any l nn HN.out a c fr n u1.w hb (HR.out u1)).mono ?_
  rintro e w9 ⟨v1, rfl, hi1, hB1⟩
  obtain ⟨u2, rfl⟩ : ∃ y9 : After W, w9 = y9.w := ⟨u1.on hB1, rfl⟩
  clear hB1
  by_cases hE : chkK l = 0
  case neg =>
    have hv : vsE l fr n = 110 := if_pos hE
    rw [vsV_no (by rw [hv]; decide)] at hi1
    obtain ⟨xa, xc, rfl, -, -⟩ := hi1.form (n := 0) rfl
    rw [hv]
    clear hE hv hi1
    go_wp2_with fail
    exact bodyPost_ret (v := .bool true) (by simp [results, Try.results23, go_sem]) rfl ⟨rfl, u2.2⟩
  clear dn0 dn1
  obtain ⟨k, rfl⟩ : ∃ k : Nat, n = (k : Int) := ⟨n.toNat, by omega⟩
  have hv : vsE l fr k = 0 := by unfold vsE; rw [if_neg (fun h => h hE), if_neg (by omega), if_neg (by omega)]
  rw [vsV_ok hv] at hi1
  rw [hv]
  obtain ⟨xa, xc, rfl, hR1, -⟩ := hi1.form (vsL_len l fr k)
  have HE := hid hE; have HVB := hid ((crvB_iff l).1 (chkK_good hE)).1
  clear hE hv hi1
  obtain ⟨V, hV⟩ : ∃ V : World, V = u2.w := ⟨_, rfl⟩
  have hwV : Below W.heap.size W V := by rw [hV]; exact u2.2
  have HR1 := hid (show ∀ v : After V, Rd v.w xa (ivs (vsL l fr k)) by rw [hV]; exact after_rd hR1)
  have HRV := hid (upr hwV HR.out)
  obtain ⟨z0, hz9⟩ : ∃ u : After V, u.w = V := ⟨After.here V, rfl⟩
  rw [← hV, ← hz9]
  clear hV hR1 hz9
  obtain ⟨M, hM⟩ : ∃ M, (l.map fun x => shK x d) = M := ⟨_, rfl⟩
  have HML := hid (show M.length = nn by rw [← hM, List.length_map]; exact HN.out)
  have HMV := hid (show ∀ p, ofK M (p + d) = ofK l p by rw [← hM]; exact fun p => moved HVB.out d p)
  have HM := hid hM
  clear hM
  go_wp2_with fail
  go_loopw [70] (fun i wr => MVO k V i wr) (fun i _ => k - (intOf i).toNat)
  case atStart => exact ⟨0, z0, Nat.zero_le _, rfl, rfl⟩
  case round =>
    obtain ⟨i, z, hi9, rfl, rfl⟩ := hrel
    by_cases hlt : i < k
    · have e1 : decide (i < k) = true := decide_eq_true hlt
      have hik : (i : Int) < (k : Int) := by omega
      obtain ⟨b2, off2, rfl, hb2⟩ := (HR1.out z).addr (by rw [ivs_len, vsL_len]; omega)
      obtain ⟨X, hX⟩ : ∃ y, ofK l (fr + (i : Int)) = y := ⟨_, rfl⟩
      have c0 := iv_cell HR1.out (j := i) (x := X) (by rw [← hX]; exact vsL_get l fr hlt)
      obtain ⟨p, hp⟩ : ∃ y, fr + (i : Int) = y := ⟨_, rfl⟩
      rw [hp] at hX
      have HKV := hid (show kvV l p = X by rw [show kvV l p = ofK l p from if_pos HE.out]; exact hX)
      have eX : (X == X) = true := beq_self_eq_true _
      clear hX
      go_wp2_with fail
      refine (met (Value_any l nn HN.out a c p z.w hb (HRV.out z))).mono ?_
      rintro e _ ⟨rfl, z1, rfl⟩
      rw [HKV.out, HE.out]
      have c1 := c0 z1
      go_wp2_with fail
      go_roundw
      case rel => exact ⟨i + 1, z1, by omega, by go_num, rfl⟩
      case measure => first | (simp [intOf]; done) | (simp [intOf]; omega)
    · have e1 : decide (i < k) = false := decide_eq_false hlt
      go_upto_region 18 with (at_builtin; refine wpList_append_rd _ rfl (.tmp 92) (.tmp 93) 36 rfl V.heap.size 71 i0 (.agg #[.int .i64 0, .int .i64 0, .int .i64 0, .int .i64 0, .int .i64 0]) 5 40 und36 hi hz0 hz1 hz2 rfl (by decide) _ _ _ rfl (World.ownsRow_made z.w #[] 0 (base := V.heap.size) (e := 71) (size := 5) z.w_below.size (by unfold maxLen; omega) (by simp)) a nn c (l.flatMap Kn.c) rfl (by rw [flat_len Kn.c 5 Kn.c5, HN.out]) ((HRV.out z).alloc _) (Kn.ones _) (by unfold maxLen; omega) (by omega) (by have := z.w_below.size; simp; omega) ?_; intro v' w1 hown' hgrow)
      have hown : w1.ownsRow V.heap.size 71 5 v' nn (l.flatMap Kn.c) := by simpa using hown'
      have hB1 : Below V.heap.size V w1 := Below.trans (b_alloc z.w_below _) (own_below (World.ownsRow_made z.w #[] 0 (base := V.heap.size) (e := 71) (size := 5) z.w_below.size (by unfold maxLen; omega) (by simp)) hgrow (by have := z.w_below.size; simp; omega))
      obtain ⟨a8, c8, rfl, -, -, -, -⟩ := own_slice hown
      have hA : 0 < nn → ∃ g vs, a8 = some ⟨g, 0, none⟩ ∧ V.heap.size ≤ g ∧ BoxV V g vs w1 ∧ vs.take (nn * 5) = l.flatMap Kn.c := by
        intro hpos
        obtain ⟨hl8, h8⟩ := hown
        rcases h8 with ⟨hv0, hz⟩ | ⟨g, cap, cur, hv0, hg, hh, hnc, hm8, hs8, ht8⟩
        · omega
        · simp only [Value.slice.injEq] at hv0
          exact ⟨g, cur.toList, hv0.1, hg, BoxV.of_heap hB1 hh, ht8⟩
      have HA := hid hA
      clear hown hown' hgrow hA
      obtain ⟨z2, rfl⟩ : ∃ y9 : After V, w1 = y9.w := ⟨After.to hB1, rfl⟩
      clear hB1 e1 hlt
      go_wp2_with fail
      go_loopw [97] (fun i wr => MVL l d nn V a8 i wr) (fun i _ => nn - (intOf i).toNat)
      case atStart => exact ⟨0, z2, Nat.zero_le _, rfl, rfl, fun h => by obtain ⟨g, vs, h1, h2, h3, h4⟩ := HA.out h; exact ⟨g, vs, h1, h2, h3, hid h4⟩⟩
      case round =>
        clear HA
        obtain ⟨j, z3, hj, rfl, rfl, hh⟩ := hrel
        by_cases hlt2 : j < nn
        · have e2 : decide (j < nn) = true := decide_eq_true hlt2
          obtain ⟨g, vs, rfl, hzg, hbx, hvs⟩ := hh (by omega)
          have hjj : (j : Int) < (nn : Int) := by omega
          have hjl : j < (shTo l d j).length := by rw [shTo_len, HN.out]; exact hlt2
          have hkj : kn (shTo l d j) j = kn l j := by rw [kn_shTo l d (by rw [HN.out]; omega), if_neg (by omega)]
          have hbd := kn_at HVB.out (show j < l.length by rw [HN.out]; exact hlt2)
          obtain ⟨⟨xk, xv, xs, xa9, xb⟩, hx⟩ : ∃ t, kn l j = t := ⟨_, rfl⟩
          have c0 : z3.w.cell? ⟨g, j * 5, none⟩ = some (.int .i64 xk) := kn_cell (after_rd (hbx.rd hvs.out)) (j := j) hjl 0 (by decide) (by rw [hkj, hx]; rfl) (by omega) (After.here z3.w)
          have hvl : nn * 5 ≤ vs.length := by
            have := congrArg List.length hvs.out
            rw [List.length_take, flat_len Kn.c 5 Kn.c5, shTo_len, HN.out] at this
            omega
          have pf := hbx.froz (j * 5) (by omega)
          rw [hx] at hbd
          have hb0 : 0 ≤ xk ∧ xk ≤ 1099511627776 := ⟨hbd.1, hbd.2.1⟩
          obtain ⟨Y, hY⟩ : ∃ y, xk + d = y := ⟨_, rfl⟩
          have wY : IntKind.i64.wrap Y = Y := IntWalk.i64_in _ (by omega)
          have HSH := hid (show Kn.c (shK (kn l j) d) = (kn (shTo l d j) j).c.set 0 (.int .i64 Y) by rw [hkj, hx, ← hY]; rfl)
          have HBX := hid hbx; have HVS := hid hvs.out; have HJL := hid hjl
          clear hx hkj hbd hb0 hbx hvs hjl hvl hh
          go_wp2_with fail
          go_roundw
          case rel => exact ⟨j + 1, After.to (HBX.out.set1 hzg (j * 5) (.int .i64 Y)).below, by omega, by go_num, rfl, fun _ => ⟨g, _, rfl, hzg, HBX.out.set1 hzg (j * 5) (.int .i64 Y), hid (by rw [List.take_set, HVS.out, flat_set5 _ j (shK (kn l j) d) _ HJL.out HSH.out]; rfl)⟩⟩
          case measure => first | (simp [intOf]; done) | (simp [intOf]; omega)
        · have e2 : decide (j < nn) = false := decide_eq_false hlt2
          have hfin : Rd z3.w a8 (M.flatMap Kn.c) := by
            rw [← HM.out]
            rcases Nat.eq_zero_or_pos nn with h0 | hpos
            · rw [List.eq_nil_of_length_eq_zero (show l.length = 0 by rw [HN.out]; exact h0)]; exact Rd.nil
            · obtain ⟨g, vs, rfl, hzg, hbx, hvs⟩ := hh hpos
              rw [← shTo_all, HN.out, ← show j = nn by omega]
              exact hbx.rd (n := nn * 5) hvs.out
          obtain ⟨V2, hV2⟩ : ∃ V2 : World, V2 = z3.w := ⟨_, rfl⟩
          have hBV2 : Below V.heap.size V V2 := by rw [hV2]; exact z3.w_below
          have hw2 := b_then hwV hBV2
          have HR8 := hid (show ∀ v : After V2, Rd v.w a8 (M.flatMap Kn.c) by rw [hV2]; exact after_rd hfin)
          have HR2 := hid (upr hBV2 HR1.out)
          obtain ⟨z4, hz9⟩ : ∃ u : After V2, u.w = V2 := ⟨After.here V2, rfl⟩
          rw [← hV2, ← hz9]
          clear hV2 hz9 hfin hh hBV2
          go_wp2_with fail
          refine (met (rkcheck_any M nn HML.out a8 c8 z4.w hb (HR8.out z4))).mono ?_
          rintro e _ ⟨rfl, z5, rfl⟩
          by_cases hck : crvB M = true
          case neg =>
            rw [chkK_no hck]
            go_wp2_with fail
            exact bodyPost_ret (v := .bool true) (by simp [results, Try.results23, go_sem]) rfl ⟨rfl, b_then hw2 z5.w_below⟩
          have hck2 := chkK_ok hck
          rw [hck2]
          have HCK := hid hck2
          clear hck hck2 e2 hlt2
          go_wp2_with fail
          go_loopw [115] (fun i wr => MVO k V2 i wr) (fun i _ => k - (intOf i).toNat)
          case atStart => exact ⟨0, z5, Nat.zero_le _, rfl, rfl⟩
          case round =>
            obtain ⟨q, z6, hq9, rfl, rfl⟩ := hrel
            by_cases hlt3 : q < k
            · have e3 : decide (q < k) = true := decide_eq_true hlt3
              have hqk : (q : Int) < (k : Int) := by omega
              obtain ⟨b2, off2, rfl, hb2⟩ := (HR2.out z6).addr (by rw [ivs_len, vsL_len]; omega)
              obtain ⟨X, hX⟩ : ∃ y, ofK l (fr + (q : Int)) = y := ⟨_, rfl⟩
              have c0 := iv_cell HR2.out (j := q) (x := X) (by rw [← hX]; exact vsL_get l fr hlt3)
              obtain ⟨p1, hp1⟩ : ∃ y, fr + d = y := ⟨_, rfl⟩
              obtain ⟨p, hp⟩ : ∃ y, p1 + (q : Int) = y := ⟨_, rfl⟩
              have HKV := hid (show kvV M p = X by rw [show kvV M p = ofK M p from if_pos HCK.out, ← hX, ← HMV.out, show fr + (q : Int) + d = p by omega])
              have eX : (X == X) = true := beq_self_eq_true _
              have wp1 : IntKind.i64.wrap p1 = p1 := IntWalk.i64_in _ (by omega)
              clear hX
              go_wp2_with fail
              refine (met (Value_any M nn HML.out a8 c8 p z6.w hb (HR8.out z6))).mono ?_
              rintro e _ ⟨rfl, z7, rfl⟩
              rw [HKV.out, HCK.out]
              have c1 := c0 z7
              go_wp2_with fail
              go_roundw
              case rel => exact ⟨q + 1, z7, by omega, by go_num, rfl⟩
              case measure => first | (simp [intOf]; done) | (simp [intOf]; omega)
            · have e3 : decide (q < k) = false := decide_eq_false hlt3
              go_wp2_with fail
              exact bodyPost_ret (v := .bool true) (by simp [results, Try.results23, go_sem]) rfl ⟨rfl, b_then hw2 z6.w_below⟩
end Go.Proofs.Ytbppajenihjfhaa
namespace Go.Proofs.Ytbppajenihjfhaa.Cmv23
open Go.ChangeShapes Go.WideShapes Go.ChangeAt Go.RowKit Go.Joins

theorem own : ownKnob Try.prog.godebug = none := by kernel_rfl
theorem laidOut : laidOutB Try.prog = true := by kernel_rfl

set_option maxRecDepth 100000 in
theorem lifted (os : Os) (started : os.Started) (H : Type) (enc : TypeId × Value → H) :
    ReturnsInHanded {} Try.checked os 23 .any (Rows.curvesMovedSpec.pre6 enc Try.prog Try.f23 Rows.curvesMovedRow.domain false) (Rows.curvesMovedSpec.post enc Try.prog Try.f23 false true false false) := by
  refine returnsInHanded_of_change (C := Try.checked) own started (by kernel_rfl) Try.func23
    (ChangeSpec.witness6 (enc := enc) (C := Try.checked) false ⟨#[], #[.slice none 0 0, .int .i64 0, .int .i64 0, .int .i64 0], []⟩ 8 (by kernel_rfl) (by kernel_rfl) (by kernel_rfl) (by kernel_rfl)) ?_
  intro W base args ds gs before hval0 hW hcnd _
  have hval : ∀ (j : Nat) t v, Try.f23.params[j]? = some t → args[j]? = some v → Value.okWide Try.prog W .any base t v := hval0
  have hW' := hW
  obtain ⟨p, q, hA0, hV, rfl, hfz, hnd⟩ := hW
  have hA : DataW.TrodAll enc Try.prog W 0 (fun _ => true) true Try.f23.params.toList args.toList ds p := hA0
  rw [Try.params23] at hA hval
  obtain ⟨v0, vs0, d0, ds0, p0, q0, hargs, rfl, rfl, h0, r0⟩ := trodAll_cons hA
  obtain ⟨v1, vs1, d1, ds1, p1, q1, rfl, rfl, rfl, h1, r1⟩ := trodAll_cons r0
  obtain ⟨v2, vs2, d2, ds2, p2, q2, rfl, rfl, rfl, h2, r2⟩ := trodAll_cons r1
  obtain ⟨v3, vs3, d3, ds3, p3, q3, rfl, rfl, rfl, h3, r3⟩ := trodAll_cons r2
  obtain ⟨rfl, rfl, rfl⟩ := trodAll_nil r3
  obtain rfl : args = #[v0, v1, v2, v3] := by cases args; simp_all
  obtain ⟨rfl, rfl⟩ := trodVars_none hV
  have k0 := h0
  have lt0 : ∀ x ∈ p0, x.block < W.heap.size := by obtain ⟨m, hm⟩ := k0; exact DataW.trod_lt m _ _ _ hm
  obtain ⟨xa0, xn0, xc0, rfl⟩ := okWide_slice Try.underlying36 (hval 0 36 v0 rfl rfl)
  obtain ⟨m0, hm0⟩ := h0
  obtain ⟨a0, n0, c0, e0, lc0, mc0, fz0, ⟨l0, ln0, rd0⟩⟩ := open_kns hm0
  cases e0
  have nb0 := Nat.le_trans lc0 (max_len mc0)
  obtain ⟨a1, rfl, rfl, rfl, w1⟩ := open_int Try.underlying3 (hval 1 3 v1 rfl rfl) h1
  obtain ⟨a2, rfl, rfl, rfl, w2⟩ := open_int Try.underlying3 (hval 2 3 v2 rfl rfl) h2
  obtain ⟨a3, rfl, rfl, rfl, w3⟩ := open_int Try.underlying3 (hval 3 3 v3 rfl rfl) h3
  clear hA0 hval0
  refine (cmv_walk l0 xn0 ln0 xa0 xc0 a1 a2 a3 nb0 W rd0).mono fun e W' ⟨he, bel⟩ => ?_
  subst he
  exact ⟨_, rfl, _, _, _, [], _, [], hW', trodAll_mk1 (shut_bool Try.underlying4 _), (trodAll_cons_mk (Below.trod laidOut (by kernel_rfl) (of_decide_eq_true (by kernel_rfl)) k0 bel lt0) (trodAll_cons_mk (shut_int Try.underlying3 w1) (trodAll_cons_mk (shut_int Try.underlying3 w2) (trodAll_cons_mk (shut_int Try.underlying3 w3) trodAll_mk0)))), rfl, bel.frame _, fun h => by cases h⟩

theorem over : Rows.curvesMovedRow.holds Try.pinned (OpenSpec.ofChange Rows.curvesMovedSpec) :=
  OpenClaim.holds_of_wide 23 Try.f23 rfl rfl rfl rfl rfl rfl rfl ⟨rfl, rfl, rfl, rfl, rfl⟩ rfl rfl rfl rfl rfl (by kernel_rfl) Try.func23 (by show joinedFacts Try.prog _ _ _ _ = true; unfold joinedFacts; rw [may0, lift0, make0]; kernel_rfl)
    (of_decide_eq_true (by kernel_rfl)) (by unfold Func.isWrapper; first | (rw [if_pos (by decide +kernel)]; kernel_rfl) | (rw [if_neg (by decide +kernel)]; exact ⟨rfl, rfl⟩))
    (fun os started H enc _ => lifted os started H enc)
end Go.Proofs.Ytbppajenihjfhaa.Cmv23
namespace Go.Proofs.Ytbppajenihjfhaa
/-- The statement. -/
theorem curvesMoved_holds : Rows.CurvesMovedSaid := Cmv23.over
end Go.Proofs.Ytbppajenihjfhaa
