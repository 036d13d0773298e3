/- CalibrateCounts. -/
import Derived.Test.YtdnjpfjiaomlgaaW
import Derived.Test.YtdnjpfjiaomlgaaCX
import Derived.Deep.DeepCutAuto
import Derived.IntWalk
namespace Go.Proofs.Ytdnjpfjiaomlgaa
open Go.RowKit
open Go.Lib (hid)

@[irreducible] def CNL (l : List Rc) (dev pos kn : Int) (n : Nat) (V : World) (s i : Value) (wr : World) : Prop := ∃ (j : Nat) (sb : Bool) (b : Rc), j ≤ n ∧ i = .int .i64 ((j : Int) - 1) ∧ s = .bool sb ∧ Hid (CntIs l dev pos kn j sb b) ∧ BoxV V V.heap.size b.cs wr
theorem CNL.mk {l : List Rc} {dev pos kn : Int} {n : Nat} {V : World} {i : Value} {wr : World} (j : Nat) {sb : Bool} {b : Rc} (h1 : j ≤ n) (h2 : i = .int .i64 ((j : Int) - 1)) (h3 : CntIs l dev pos kn j sb b) (h4 : BoxV V V.heap.size b.cs wr) : CNL l dev pos kn n V (.bool sb) i wr := by
  unfold CNL
  exact ⟨j, sb, b, h1, h2, rfl, hid h3, h4⟩
theorem CNL.of {l : List Rc} {dev pos kn : Int} {n : Nat} {V : World} {s i : Value} {wr : World} (h : CNL l dev pos kn n V s i wr) : ∃ (j : Nat) (sb : Bool) (b : Rc), j ≤ n ∧ i = .int .i64 ((j : Int) - 1) ∧ s = .bool sb ∧ Hid (CntIs l dev pos kn j sb b) ∧ BoxV V V.heap.size b.cs wr := by
  unfold CNL at h
  exact h
@[irreducible] def CNC (V : World) (g : Nat) (vs : List Value) (s : Value) (wx : World) : Prop := s = .bool true ∧ BoxV V g vs wx
theorem CNC.mk {V : World} {g : Nat} {vs : List Value} {wx : World} (h : BoxV V g vs wx) : CNC V g vs (.bool true) wx := by unfold CNC; exact ⟨rfl, h⟩
theorem CNC.of {V : World} {g : Nat} {vs : List Value} {s : Value} {wx : World} (h : CNC V g vs s wx) : s = .bool true ∧ BoxV V g vs wx := by unfold CNC at h; exact h
set_option maxRecDepth 100000 in
set_option maxHeartbeats 4000000 in
theorem ccounts_walk (l : List Rc) (nn : Nat) (hnn : l.length = nn) (a : Option Addr) (c : Nat) (_hf : a = none → nn = 0 ∧ c = 0) (_hc : nn ≤ c) (dev pos kn : Int) (hb : nn ≤ 9223372036854775807) (W : World) (hr : Rd W a (l.flatMap Rc.cs)) :
    Calls Try.prog 5 #[.slice a nn c, .int .i64 dev, .int .i64 pos, .int .i64 kn] W fun e w' => e = .returned (.bool true) ∧ Below W.heap.size W w' := by
  have HN := hid hnn; have HR := hid (after_rd hr)
  clear hnn hr _hf
  go_enter Try.func5, Try.ntmps5
  go_wp2_with fail
  refine (met0 (sane42_any W)).mono ?_
  rintro e _ ⟨rfl, u1, rfl⟩
  by_cases h300 : nn ≤ 300
  case neg =>
    have d0 : decide ((300 : Int) < (nn : Int)) = true := decide_eq_true (by omega)
    have d0' : decide (300 < nn) = true := decide_eq_true (by omega)
    go_wp2_with fail
    exact bodyPost_ret (v := .bool true) (by simp [results, Try.results5, go_sem]) rfl ⟨rfl, u1.2⟩
  have d0 : decide ((300 : Int) < (nn : Int)) = false := decide_eq_false (by omega)
  have d0' : decide (300 < nn) = false := decide_eq_false (by omega)
  go_wp2_with fail
  clear d0 d0'
  refine (met (rcheck_any l nn HN.out a c u1.w hb (HR.out u1))).mono ?_
  rintro e _ ⟨rfl, u2, rfl⟩
  by_cases hk : chkR l = 0
  case neg =>
    have hne : (chkR l != 0) = true := by simpa using hk
    clear hk
    go_wp2_with fail
    exact bodyPost_ret (v := .bool true) (by simp [results, Try.results5, go_sem]) rfl ⟨rfl, u2.2⟩
  rw [hk]
  have HL := hid (chkR_good hk).2
  have hae := atE_good hk dev pos kn
  clear hk
  go_wp2_with fail
  refine (met (at_any l nn HN.out a c dev pos kn u2.w hb (HR.out u2))).mono ?_
  rintro e _ ⟨rfl, u3, rfl⟩
  rcases hae with hae | hae
  case inr =>
    rw [atV_no (by rw [hae]; decide), hae]
    dsimp only
    clear hae
    go_wp2_with fail
    exact bodyPost_ret (v := .bool true) (by simp [results, Try.results5, go_sem]) rfl ⟨rfl, u3.2⟩
  rw [atV_ok hae, hae]
  clear hae
  obtain ⟨⟨ri, ro, rs⟩, hR⟩ : ∃ q, resR (fnd l dev pos kn) = q := ⟨_, rfl⟩
  rw [hR]
  have HRR := hid hR; clear hR
  dsimp only
  go_upto_region 9 with (fail)
  obtain ⟨V, hV⟩ : ∃ V : World, V = u3.w := ⟨_, rfl⟩
  have hWV : Below W.heap.size W V := by rw [hV]; exact u3.2
  rw [← hV]
  clear hV
  have RV := hid (fun v : After V => HR.out (After.to (b_then hWV v.2)))
  have HB0 := hid (show BoxV V V.heap.size [.int .i64 0, .int .i64 0, .int .i64 0, .int .i64 0, .int .i64 0] (V.alloc (.cells #[.int .i64 0, .int .i64 0, .int .i64 0, .int .i64 0, .int .i64 0] 24)) from BoxV.new (Below.refl _ _) #[.int .i64 0, .int .i64 0, .int .i64 0, .int .i64 0, .int .i64 0] 24)
  go_wp2_with fail
  go_loopw [13, 15] (fun s i wr => CNL l dev pos kn nn V s i wr) (fun _ i _ => (intOf i + 1).toNat)
  case atStart => exact CNL.mk nn (Nat.le_refl _) rfl (by rw [← HN.out]; exact CntIs.start l dev pos kn) (HB0.out.eq rfl)
  case round =>
    clear HB0
    obtain ⟨j, sb, b, hj, rfl, rfl, HCN, hbb⟩ := hrel.of
    have HBB := hid hbb
    have HWR := hid (b_then hWV hbb.below)
    have hzz := hbb.below.size
    clear hbb
    rcases Nat.eq_zero_or_pos j with rfl | hpos
    · rw [show ((0 : Nat) : Int) - 1 = -1 from rfl]
      have hd := HCN.out.done
      rw [HRR.out] at hd
      simp only [Prod.mk.injEq] at hd
      obtain ⟨rfl, rfl, rfl⟩ := hd
      have b3 := HBB.out.cell 3 _ rfl
      have b4 := HBB.out.cell 4 _ rfl
      cases rs
      · go_wp2_with fail
        exact bodyPost_ret (v := .bool true) (by simp [results, Try.results5, go_sem]) rfl ⟨rfl, HWR.out⟩
      · go_wp2_with fail
        exact bodyPost_ret (v := .bool true) (by simp [results, Try.results5, go_sem]) rfl ⟨rfl, HWR.out⟩
    obtain ⟨j, rfl⟩ : ∃ i, j = i + 1 := ⟨j - 1, by omega⟩
    rw [show ((j + 1 : Nat) : Int) - 1 = (j : Int) by omega]
    have hlt : j < l.length := by rw [HN.out]; omega
    have hjj : (j : Int) < (nn : Int) := by omega
    have hj0 : (0 : Int) ≤ (j : Int) := by omega
    have RW := hid (fun v : After wr => RV.out (After.to (b_then HBB.out.below v.2)))
    obtain ⟨blk, off, rfl, hbl⟩ := (RW.out (After.here wr)).addr (by rw [flat_len Rc.cs 5 Rc.c5]; omega)
    obtain ⟨⟨xd, xf, xk, xi, xo⟩, hx⟩ : ∃ t, rc l j = t := ⟨_, rfl⟩
    have x0 : wr.cell? ⟨blk, off + j * 5, none⟩ = some (.int .i64 xd) := rc_cell RW.out (j := j) (hlt) 0 (by decide) (by rw [hx]; rfl) rfl (After.here _)
    have x1 : wr.cell? ⟨blk, off + j * 5 + 1, none⟩ = some (.int .i64 xf) := rc_cell RW.out (j := j) (hlt) 1 (by decide) (by rw [hx]; rfl) (by omega) (After.here _)
    have x2 : wr.cell? ⟨blk, off + j * 5 + 2, none⟩ = some (.int .i64 xk) := rc_cell RW.out (j := j) (hlt) 2 (by decide) (by rw [hx]; rfl) (by omega) (After.here _)
    have x3 : wr.cell? ⟨blk, off + j * 5 + 3, none⟩ = some (.int .i64 xi) := rc_cell RW.out (j := j) (hlt) 3 (by decide) (by rw [hx]; rfl) (by omega) (After.here _)
    have x4 : wr.cell? ⟨blk, off + j * 5 + 4, none⟩ = some (.int .i64 xo) := rc_cell RW.out (j := j) (hlt) 4 (by decide) (by rw [hx]; rfl) (by omega) (After.here _)
    have Hx := hid hx; clear hx
    have hr0 : (wr.alloc (.cells #[.int .i64 xd, .int .i64 xf, .int .i64 xk, .int .i64 xi, .int .i64 xo] 24)).cell? ⟨wr.heap.size, 0, none⟩ = some (.int .i64 xd) := bn rfl rfl
    have HBB0 := HBB
    have HBB := hid (HBB0.out.alloc (.cells #[.int .i64 xd, .int .i64 xf, .int .i64 xk, .int .i64 xi, .int .i64 xo] 24))
    clear HBB0 hr0
    go_upto_region 13 with (fail)
    clear x0 x1 x2 x3 x4
    rcases h0 : (xd != dev) with _ | _
    · skip
      rcases h1 : decide (pos < xf) with _ | _
      · skip
        rcases h2 : decide (kn < xk) with _ | _
        · skip
          have HH := hid (show hitR dev pos kn (rc l j) = true by
            rw [Hx.out, hitR_iff]
            simp at h0 h1 h2
            exact ⟨h0, h1, h2⟩)
          cases sb
          · have b0 := HBB.out.cell 0 _ rfl
            have b1 := HBB.out.cell 1 _ rfl
            have b2 := HBB.out.cell 2 _ rfl
            have b3 := HBB.out.cell 3 _ rfl
            have b4 := HBB.out.cell 4 _ rfl
            have f0 := HBB.out.froz 0 (by simp [Rc.cs])
            have f1 := HBB.out.froz 1 (by simp [Rc.cs])
            have f2 := HBB.out.froz 2 (by simp [Rc.cs])
            have f3 := HBB.out.froz 3 (by simp [Rc.cs])
            have f4 := HBB.out.froz 4 (by simp [Rc.cs])
            go_upto_region 15 with (fail)
            clear h0 h1 h2
            go_region
            generalize hZ : World.drew _ = Z
            have HBX := hid (show BoxV V V.heap.size [.int .i64 xd, .int .i64 xf, .int .i64 xk, .int .i64 xi, .int .i64 xo] Z by rw [← hZ]; exact (((((((HBB.out.set1 (Nat.le_refl _) 0 (.int .i64 xd)).set1 (Nat.le_refl _) 1 (.int .i64 xf)).set1 (Nat.le_refl _) 2 (.int .i64 xk)).set1 (Nat.le_refl _) 3 (.int .i64 xi)).set1 (Nat.le_refl _) 4 (.int .i64 xo)).eq rfl).after ((Below.refl _ _).drew)))
            clear hZ b0 b1 b2 b3 b4 f0 f1 f2 f3 f4
            go_wp2_with fail
            go_roundw
            case rel => exact CNL.mk j (by omega) rfl (HCN.out.first (by rw [HN.out]; omega) HH.out) (HBX.out.eq (by rw [Hx.out]; rfl))
            case measure => first | (simp [intOf]; done) | (simp [intOf]; omega)
          · obtain ⟨hc1, hc2⟩ := HCN.out.later HL.out (by rw [HN.out]; omega) HH.out
            rw [Hx.out] at hc2
            rw [Bool.or_eq_false_iff] at hc2
            have e1 : decide (b.f < xf) = false := hc2.1
            have b1 := HBB.out.cell 1 _ rfl
            have b2 := HBB.out.cell 2 _ rfl
            have HC1 := hid hc1
            rcases e2 : (xf == b.f) with _ | _
            · clear hc1 hc2
              go_wp2_with fail
              clear h0 h1 h2 e1 e2 b1 b2
              go_roundw
              case rel => exact CNL.mk j (by omega) rfl HC1.out HBB.out
              case measure => first | (simp [intOf]; done) | (simp [intOf]; omega)
            · have e3 : decide (b.k < xk) = false := by
                have := hc2.2
                dsimp only at this
                rw [e2, Bool.true_and] at this
                exact this
              clear hc1 hc2
              go_wp2_with fail
              clear h0 h1 h2 e1 e2 e3 b1 b2
              go_roundw
              case rel => exact CNL.mk j (by omega) rfl HC1.out HBB.out
              case measure => first | (simp [intOf]; done) | (simp [intOf]; omega)
        · skip
          have HH := hid (show hitR dev pos kn (rc l j) = false by
            rw [Hx.out, Bool.eq_false_iff]
            intro h
            have := (hitR_iff _ _ _ _).1 h
            dsimp only at this
            simp at h0 h1 h2
            omega)
          go_wp2_with fail
          clear h0 h1 h2
          go_roundw
          case rel => exact CNL.mk j (by omega) rfl (HCN.out.skip HH.out) HBB.out
          case measure => first | (simp [intOf]; done) | (simp [intOf]; omega)

      · skip
        have HH := hid (show hitR dev pos kn (rc l j) = false by
          rw [Hx.out, Bool.eq_false_iff]
          intro h
          have := (hitR_iff _ _ _ _).1 h
          dsimp only at this
          simp at h0 h1
          omega)
        go_wp2_with fail
        clear h0 h1
        go_roundw
        case rel => exact CNL.mk j (by omega) rfl (HCN.out.skip HH.out) HBB.out
        case measure => first | (simp [intOf]; done) | (simp [intOf]; omega)

    · skip
      have HH := hid (show hitR dev pos kn (rc l j) = false by
        rw [Hx.out, Bool.eq_false_iff]
        intro h
        have := (hitR_iff _ _ _ _).1 h
        dsimp only at this
        simp at h0
        omega)
      go_wp2_with fail
      clear h0
      go_roundw
      case rel => exact CNL.mk j (by omega) rfl (HCN.out.skip HH.out) HBB.out
      case measure => first | (simp [intOf]; done) | (simp [intOf]; omega)

end Go.Proofs.Ytdnjpfjiaomlgaa
namespace Go.Proofs.Ytdnjpfjiaomlgaa.Cc5
open Go.ChangeShapes Go.WideShapes Go.ChangeAt Go.RowKit Go.Joins

theorem own : ownKnob Try.prog.godebug = none := by kernel_rfl
theorem laidOut : laidOutB Try.prog = true := by kernel_rfl

set_option maxRecDepth 100000 in
theorem lifted (os : Os) (started : os.Started) (H : Type) (enc : TypeId × Value → H) :
    ReturnsInHanded {} Try.checked os 5 .any (Rows.calibrateCountsSpec.pre6 enc Try.prog Try.f5 Rows.calibrateCountsRow.domain false) (Rows.calibrateCountsSpec.post enc Try.prog Try.f5 false true false false) := by
  refine returnsInHanded_of_change (C := Try.checked) own started (by kernel_rfl) Try.func5
    (ChangeSpec.witness6 (enc := enc) (C := Try.checked) false ⟨#[], #[.slice none 0 0, .int .i64 0, .int .i64 0, .int .i64 0], []⟩ 8 (by kernel_rfl) (by kernel_rfl) (by kernel_rfl) (by kernel_rfl)) ?_
  intro W base args ds gs before hval0 hW hcnd _
  have hval : ∀ (j : Nat) t v, Try.f5.params[j]? = some t → args[j]? = some v → Value.okWide Try.prog W .any base t v := hval0
  have hW' := hW
  obtain ⟨p, q, hA0, hV, rfl, hfz, hnd⟩ := hW
  have hA : DataW.TrodAll enc Try.prog W 0 (fun _ => true) true Try.f5.params.toList args.toList ds p := hA0
  rw [Try.params5] at hA hval
  obtain ⟨v0, vs0, d0, ds0, p0, q0, hargs, rfl, rfl, h0, r0⟩ := trodAll_cons hA
  obtain ⟨v1, vs1, d1, ds1, p1, q1, rfl, rfl, rfl, h1, r1⟩ := trodAll_cons r0
  obtain ⟨v2, vs2, d2, ds2, p2, q2, rfl, rfl, rfl, h2, r2⟩ := trodAll_cons r1
  obtain ⟨v3, vs3, d3, ds3, p3, q3, rfl, rfl, rfl, h3, r3⟩ := trodAll_cons r2
  obtain ⟨rfl, rfl, rfl⟩ := trodAll_nil r3
  obtain rfl : args = #[v0, v1, v2, v3] := by cases args; simp_all
  obtain ⟨rfl, rfl⟩ := trodVars_none hV
  have k0 := h0
  have lt0 : ∀ x ∈ p0, x.block < W.heap.size := by obtain ⟨m, hm⟩ := k0; exact DataW.trod_lt m _ _ _ hm
  obtain ⟨xa0, xn0, xc0, rfl⟩ := okWide_slice Try.underlying22 (hval 0 22 v0 rfl rfl)
  obtain ⟨m0, hm0⟩ := h0
  obtain ⟨a0, n0, c0, e0, lc0, mc0, fz0, ⟨l0, ln0, rd0⟩⟩ := open_rcs hm0
  cases e0
  have nb0 := Nat.le_trans lc0 (max_len mc0)
  obtain ⟨a1, rfl, rfl, rfl, w1⟩ := open_int Try.underlying3 (hval 1 3 v1 rfl rfl) h1
  obtain ⟨a2, rfl, rfl, rfl, w2⟩ := open_int Try.underlying3 (hval 2 3 v2 rfl rfl) h2
  obtain ⟨a3, rfl, rfl, rfl, w3⟩ := open_int Try.underlying3 (hval 3 3 v3 rfl rfl) h3
  clear hA0 hval0
  refine (ccounts_walk l0 xn0 ln0 xa0 xc0 fz0 lc0 a1 a2 a3 nb0 W rd0).mono fun e W' ⟨he, bel⟩ => ?_
  subst he
  exact ⟨_, rfl, _, _, _, [], _, [], hW', trodAll_mk1 (shut_bool Try.underlying4 _), (trodAll_cons_mk (Below.trod laidOut (by kernel_rfl) (of_decide_eq_true (by kernel_rfl)) k0 bel lt0) (trodAll_cons_mk (shut_int Try.underlying3 w1) (trodAll_cons_mk (shut_int Try.underlying3 w2) (trodAll_cons_mk (shut_int Try.underlying3 w3) trodAll_mk0)))), rfl, bel.frame _, fun h => by cases h⟩

theorem over : Rows.calibrateCountsRow.holds Try.pinned (OpenSpec.ofChange Rows.calibrateCountsSpec) :=
  OpenClaim.holds_of_wide 5 Try.f5 rfl rfl rfl rfl rfl rfl rfl ⟨rfl, rfl, rfl, rfl, rfl⟩ rfl rfl rfl rfl rfl (by kernel_rfl) Try.func5 (by show joinedFacts Try.prog _ _ _ _ = true; kernel_rfl)
    (of_decide_eq_true (by kernel_rfl)) (by unfold Func.isWrapper; first | (rw [if_pos (by decide +kernel)]; kernel_rfl) | (rw [if_neg (by decide +kernel)]; exact ⟨rfl, rfl⟩))
    (fun os started H enc _ => lifted os started H enc)
end Go.Proofs.Ytdnjpfjiaomlgaa.Cc5
namespace Go.Proofs.Ytdnjpfjiaomlgaa
/-- The statement. -/
theorem calibrateCounts_holds : Rows.CalibrateCountsSaid := Cc5.over
end Go.Proofs.Ytdnjpfjiaomlgaa
