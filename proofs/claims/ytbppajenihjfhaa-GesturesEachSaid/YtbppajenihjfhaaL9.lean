/- GesturesEach. -/
import Derived.Test.YtbppajenihjfhaaGK2
import Derived.Test.YtbppajenihjfhaaY
import Derived.IntWalk
namespace Go.Proofs.Ytbppajenihjfhaa
open Go.RowKit
open Go.Lib (hid)

def EACHL (k : Nat) (V : World) (i : Value) (wr : World) : Prop := ∃ (j : Nat) (z : After V), j ≤ k ∧ i = .int .i64 j ∧ wr = z.w
set_option maxRecDepth 100000 in
set_option maxHeartbeats 4000000 in
theorem geSpec_walk (q : List Int) (k : Nat) (hk : q.length = k) (hbr : ∀ i, i < k → R64 (q.getD i 0)) (ba : Option Addr) (bc : Nat) (fr : Int) (hf : 0 ≤ fr ∧ fr ≤ 4294967295) (l : List Ge) (nn : Nat) (hnn : l.length = nn) (a : Option Addr) (c : Nat) (hb : nn ≤ 9223372036854775807) (W : World) (hr : Ges W a l) (hkb : k ≤ 9223372036854775807) (hrb : Rd W ba (ivs q)) :
    Calls Try.prog 9 #[.slice ba k bc, .int .u32 fr, .slice a nn c] W fun e w' => e = .returned (.bool true) ∧ Below W.heap.size W w' := by
  have HK := hid hk; have HBR := hid hbr; have HRB := hid (after_rd hrb); have HF := hid (show R64 fr by unfold R64; omega)
  clear hk hbr hrb
  have HN := hid hnn; have HR := hid (after_ges hr)
  clear hnn hr
  go_enter Try.func9, Try.ntmps9
  go_wp2_with fail
  refine (met0 (sane12_any W)).mono ?_
  rintro e _ ⟨rfl, u1, rfl⟩
  go_wp2_with fail
  refine (gfew_any l nn HN.out a c u1.w hb (HR.out u1)).mono ?_
  rintro e w9 ⟨rfl, rfl⟩
  rcases hfew : fewB l with _ | _
  · clear hfew
    go_wp2_with fail
    exact bodyPost_ret (v := .bool true) (by simp [results, Try.results9, go_sem]) rfl ⟨rfl, u1.2⟩
  clear hfew
  go_wp2_with fail
  refine (met (rgcheck_any l nn HN.out a c u1.w hb (HR.out u1))).mono ?_
  rintro e _ ⟨rfl, u2, rfl⟩
  by_cases hc : chkG l = 0
  case neg =>
    rw [chkG_bad hc]
    clear hc
    go_wp2_with fail
    exact bodyPost_ret (v := .bool true) (by simp [results, Try.results9, go_sem]) rfl ⟨rfl, u2.2⟩
  have h64 := ges_len hc
  rw [HN.out] at h64
  rw [hc]
  have HC := hid hc; clear hc
  by_cases hk60 : k ≤ 60
  case neg =>
    have d1 : decide ((60 : Int) < (k : Int)) = true := decide_eq_true (by omega)
    go_wp2_with fail
    exact bodyPost_ret (v := .bool true) (by simp [results, Try.results9, go_sem]) rfl ⟨rfl, u2.2⟩
  have d1 : decide ((60 : Int) < (k : Int)) = false := decide_eq_false (by omega)
  have hwf : IntKind.i64.wrap fr = fr := IntWalk.i64_in _ (by omega)
  go_wp2_with fail
  clear d1
  refine (gValues_any q k HK.out HBR.out ba bc fr HF.out l nn HN.out a c u2.w (HRB.out u2) hb (HR.out u2)).mono ?_
  rintro e w9 ⟨v1, rfl, hi1, hB1⟩
  obtain ⟨u3, rfl⟩ : ∃ y9 : After W, w9 = y9.w := ⟨u2.on hB1, rfl⟩
  have hE : vgE q l = 0 := by unfold vgE; rw [if_neg (fun h => h HC.out), if_neg (by rw [HK.out]; omega)]
  rw [vgV_ok hE, HK.out] at hi1
  rw [hE]
  obtain ⟨xa, xc, rfl, hR1, -⟩ := hi1.form (vgJ_len q fr l k)
  obtain ⟨V, hV⟩ : ∃ V : World, V = u3.w := ⟨_, rfl⟩
  have hWV : Below W.heap.size W V := by rw [hV]; exact u3.w_below
  have HR1 := hid (after_rd (hV ▸ hR1 : Rd V xa (ivs (vgJ q fr l k))))
  have HRV := hid (upg hWV HR.out)
  have HBV := hid (upr hWV HRB.out)
  have WV := hid (after_below hWV)
  rw [← hV]
  clear hi1 hB1 hE hR1
  have ekk : ((k : Int) != (k : Int)) = false := by simp
  go_wp2_with fail
  clear ekk
  go_loopw [47] (fun i wr => EACHL k V i wr) (fun i _ => k - (intOf i).toNat)
  case atStart => exact ⟨0, After.here V, by omega, rfl, by first | rfl | exact hV.symm⟩
  case round =>
    clear hV
    obtain ⟨j, z, hj, rfl, rfl⟩ := hrel
    by_cases hlt : j < k
    case neg =>
      have e1 : decide ((j : Int) < (k : Int)) = false := decide_eq_false (by omega)
      have e2 : decide (j < k) = false := decide_eq_false hlt
      go_wp2_with fail
      exact bodyPost_ret (v := .bool true) (by simp [results, Try.results9, go_sem]) rfl ⟨rfl, WV.out z⟩
    have e1 : decide ((j : Int) < (k : Int)) = true := decide_eq_true (by omega)
    have e2 : decide (j < k) = true := decide_eq_true hlt
    have hjk : (j : Int) < (k : Int) := by omega
    obtain ⟨bb, off, rfl, hbb⟩ := (HBV.out z).addr (by rw [ivs_len, HK.out]; omega)
    obtain ⟨x, hx⟩ : ∃ x, q[j]? = some x := ⟨_, List.getElem?_eq_getElem (by rw [HK.out]; exact hlt)⟩
    have hgd : q.getD j 0 = x := by rw [List.getD_eq_getElem?_getD, hx]; rfl
    have hxr : R64 x := by rw [← hgd]; exact HBR.out j hlt
    have c0 : z.w.cell? ⟨bb, off + j, none⟩ = some (.int .i64 x) := iv_cell HBV.out hx z
    obtain ⟨Y, hY⟩ : ∃ Y, allV x l (fr + (j : Int)) = Y := ⟨_, rfl⟩
    have hxj : (vgJ q fr l k)[j]? = some Y := by
      unfold vgJ
      rw [List.getElem?_map, List.getElem?_range hlt]
      show some (allV (q.getD j 0) l (satA fr j)) = _
      rw [hgd, show satA fr j = fr + (j : Int) from if_pos (by omega), hY]
    have HXR := hid hxr
    obtain ⟨t, ht⟩ : ∃ t, fr + (j : Int) = t := ⟨_, rfl⟩
    have hwt : IntKind.i64.wrap t = t := IntWalk.i64_in _ (by omega)
    have HVV := hid (show vgv x l t = Y by rw [vgv_ok HC.out, ← ht, hY])
    obtain ⟨b2, off2, rfl, hb2⟩ := (HR1.out z).addr (by rw [ivs_len, vgJ_len]; omega)
    have q0 := iv_cell HR1.out hxj
    clear hx hgd hxr hY hxj
    go_wp2_with fail
    refine (met (gValue_any l nn HN.out a c x t HXR.out z.w hb (HRV.out z))).mono ?_
    rintro e _ ⟨rfl, u4, rfl⟩
    rw [HC.out, HVV.out]
    have c1 := q0 u4
    have eY : (Y != Y) = false := by simp
    clear c0 ht hwt
    go_wp2_with fail
    go_roundw
    case rel => exact ⟨j + 1, u4, by omega, by go_num, rfl⟩
    case measure => first | (simp [intOf]; done) | (simp [intOf]; omega)
end Go.Proofs.Ytbppajenihjfhaa
namespace Go.Proofs.Ytbppajenihjfhaa.Gs9
open Go.ChangeShapes Go.WideShapes Go.ChangeAt Go.RowKit Go.Joins

theorem own : ownKnob Try.prog.godebug = none := by kernel_rfl
theorem laidOut : laidOutB Try.prog = true := by kernel_rfl

set_option maxRecDepth 100000 in
theorem lifted (os : Os) (started : os.Started) (H : Type) (enc : TypeId × Value → H) :
    ReturnsInHanded {} Try.checked os 9 .any (Rows.gesturesEachSpec.pre6 enc Try.prog Try.f9 Rows.gesturesEachRow.domain false) (Rows.gesturesEachSpec.post enc Try.prog Try.f9 false true false false) := by
  refine returnsInHanded_of_change (C := Try.checked) own started (by kernel_rfl) Try.func9
    (ChangeSpec.witness6 (enc := enc) (C := Try.checked) false ⟨#[], #[.slice none 0 0, .int .u32 0, .slice none 0 0], []⟩ 8 (by kernel_rfl) (by kernel_rfl) (by kernel_rfl) (by kernel_rfl)) ?_
  intro W base args ds gs before hval0 hW hcnd _
  have hval : ∀ (j : Nat) t v, Try.f9.params[j]? = some t → args[j]? = some v → Value.okWide Try.prog W .any base t v := hval0
  have hW' := hW
  obtain ⟨p, q, hA0, hV, rfl, hfz, hnd⟩ := hW
  have hA : DataW.TrodAll enc Try.prog W 0 (fun _ => true) true Try.f9.params.toList args.toList ds p := hA0
  rw [Try.params9] at hA hval
  obtain ⟨v0, vs0, d0, ds0, p0, q0, hargs, rfl, rfl, h0, r0⟩ := trodAll_cons hA
  obtain ⟨v1, vs1, d1, ds1, p1, q1, rfl, rfl, rfl, h1, r1⟩ := trodAll_cons r0
  obtain ⟨v2, vs2, d2, ds2, p2, q2, rfl, rfl, rfl, h2, r2⟩ := trodAll_cons r1
  obtain ⟨rfl, rfl, rfl⟩ := trodAll_nil r2
  obtain rfl : args = #[v0, v1, v2] := by cases args; simp_all
  obtain ⟨rfl, rfl⟩ := trodVars_none hV
  have k0 := h0
  have lt0 : ∀ x ∈ p0, x.block < W.heap.size := by obtain ⟨m, hm⟩ := k0; exact DataW.trod_lt m _ _ _ hm
  obtain ⟨xa0, xn0, xc0, rfl⟩ := okWide_slice Try.underlying30 (hval 0 30 v0 rfl rfl)
  obtain ⟨m0, hm0⟩ := h0
  obtain ⟨a0, n0, c0, e0, lc0, mc0, fz0, ⟨l0, ln0, rd0, rg0⟩⟩ := open_ints3 hm0
  cases e0
  have nb0 := Nat.le_trans lc0 (max_len mc0)
  obtain ⟨a1, rfl, rfl, rfl, w1⟩ := open_int Try.underlying46 (hval 1 46 v1 rfl rfl) h1
  have k2 := h2
  have lt2 : ∀ x ∈ p2, x.block < W.heap.size := by obtain ⟨m, hm⟩ := k2; exact DataW.trod_lt m _ _ _ hm
  obtain ⟨xa2, xn2, xc2, rfl⟩ := okWide_slice Try.underlying22 (hval 2 22 v2 rfl rfl)
  obtain ⟨m2, hm2⟩ := h2
  obtain ⟨a2, n2, c2, e2, lc2, mc2, fz2, ⟨l2, ln2, rd2⟩⟩ := open_ges hm2
  cases e2
  have nb2 := Nat.le_trans lc2 (max_len mc2)
  clear hA0 hval0
  refine (geSpec_walk l0 xn0 ln0 rg0 xa0 xc0 a1 (gu32_rng w1) l2 xn2 ln2 xa2 xc2 nb2 W rd2 nb0 rd0).mono fun e W' ⟨he, bel⟩ => ?_
  subst he
  exact ⟨_, rfl, _, _, _, [], _, [], hW', trodAll_mk1 (shut_bool Try.underlying4 _), (trodAll_cons_mk (Below.trod laidOut (by kernel_rfl) (of_decide_eq_true (by kernel_rfl)) k0 bel lt0) (trodAll_cons_mk (shut_int Try.underlying46 w1) (trodAll_cons_mk (Below.trod laidOut (by kernel_rfl) (of_decide_eq_true (by kernel_rfl)) k2 bel lt2) trodAll_mk0))), rfl, bel.frame _, fun h => by cases h⟩

theorem over : Rows.gesturesEachRow.holds Try.pinned (OpenSpec.ofChange Rows.gesturesEachSpec) :=
  OpenClaim.holds_of_wide 9 Try.f9 rfl rfl rfl rfl rfl rfl rfl ⟨rfl, rfl, rfl, rfl, rfl⟩ rfl rfl rfl rfl rfl (by kernel_rfl) Try.func9 (by show joinedFacts Try.prog _ _ _ _ = true; unfold joinedFacts; rw [may0, lift0, make0]; kernel_rfl)
    (of_decide_eq_true (by kernel_rfl)) (by unfold Func.isWrapper; first | (rw [if_pos (by decide +kernel)]; kernel_rfl) | (rw [if_neg (by decide +kernel)]; exact ⟨rfl, rfl⟩))
    (fun os started H enc _ => lifted os started H enc)
end Go.Proofs.Ytbppajenihjfhaa.Gs9
namespace Go.Proofs.Ytbppajenihjfhaa
/-- The statement. -/
theorem gesturesEach_holds : Rows.GesturesEachSaid := Gs9.over
end Go.Proofs.Ytbppajenihjfhaa
