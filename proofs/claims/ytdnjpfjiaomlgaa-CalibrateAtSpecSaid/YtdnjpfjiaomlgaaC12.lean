/- The reference's Changed. -/
import Derived.Test.YtdnjpfjiaomlgaaC10
import Derived.Test.YtdnjpfjiaomlgaaCH0
import Derived.Test.YtdnjpfjiaomlgaaCH
import Derived.Test.YtdnjpfjiaomlgaaR2
import Derived.IntWalk
import Derived.Deep.DeepCutAuto
namespace Go.Proofs.Ytdnjpfjiaomlgaa
open Go.RowKit
open Go.Lib (hid)

theorem und62 : Try.prog.underlying 62 = some (.slice 3) := by kernel_rfl
theorem info3 : (Try.prog.info? 3).map (fun i => (i.zero, i.size, i.bytes)) = some (some (.int .i64 0), 1, 8) := by kernel_rfl
def ivA (xs : List Int) : List Value := xs.map fun p => .int .i64 p
theorem ivA_at {xs : List Int} {i : Nat} {x : Int} (h : i < xs.length) (hx : xs.getD i 0 = x) : (ivA xs)[i]? = some (.int .i64 x) := by
  unfold ivA
  rw [List.getElem?_map, List.getElem?_eq_getElem h]
  rw [List.getD_eq_getElem?_getD, List.getElem?_eq_getElem h] at hx
  rw [← hx]
  rfl
theorem own_apart {w : World} {b1 b2 : Nat} {e1 e2 : TypeId} {s1 s2 n1 n2 : Nat} {v1 v2 : Value} {x1 x2 : List Value} (h1 : w.ownsRow b1 e1 s1 v1 n1 x1) (h2 : w.ownsRow b2 e2 s2 v2 n2 x2) (he : e1 ≠ e2) : v1.ownBlock = none ∨ v1.ownBlock ≠ v2.ownBlock := by
  rcases h1.2 with ⟨rfl, _⟩ | ⟨g1, c1, cur1, rfl, _, hg1, _⟩
  · exact .inl rfl
  · refine .inr fun e => ?_
    rcases h2.2 with ⟨rfl, _⟩ | ⟨g2, c2, cur2, rfl, _, hg2, _⟩
    · simp [Value.ownBlock] at e
    · simp [Value.ownBlock] at e
      subst e
      rw [hg1] at hg2
      cases hg2
      exact he rfl
@[irreducible] def OCL (l : List Rc) (k1 k2 : Int) (V : World) (m i : Value) (wr : World) : Prop := ∃ (d : Nat) (z : After V), d ≤ 16 ∧ i = .int .i64 d ∧ wr = z.w ∧ Hid (z.w.ownsRow V.heap.size 40 3 m (chgN l k1 k2 d).length ((chgN l k1 k2 d).flatMap Sp.cs))
theorem OCL.mk {l : List Rc} {k1 k2 : Int} {V : World} {m i : Value} (d : Nat) (z : After V) (h1 : d ≤ 16) (h2 : i = .int .i64 d) (h3 : z.w.ownsRow V.heap.size 40 3 m (chgN l k1 k2 d).length ((chgN l k1 k2 d).flatMap Sp.cs)) : OCL l k1 k2 V m i z.w := by unfold OCL; exact ⟨d, z, h1, h2, rfl, hid h3⟩
theorem OCL.of {l : List Rc} {k1 k2 : Int} {V : World} {m i : Value} {wr : World} (h : OCL l k1 k2 V m i wr) : ∃ (d : Nat) (z : After V), d ≤ 16 ∧ i = .int .i64 d ∧ wr = z.w ∧ Hid (z.w.ownsRow V.heap.size 40 3 m (chgN l k1 k2 d).length ((chgN l k1 k2 d).flatMap Sp.cs)) := by unfold OCL at h; exact h
@[irreducible] def ACL (l : List Rc) (dev : Int) (n : Nat) (V : World) (mo : Value) (on : Nat) (xo : List Value) (m i : Value) (wr : World) : Prop := ∃ (j : Nat) (z : After V), j ≤ n ∧ i = .int .i64 j ∧ wr = z.w ∧ Hid (z.w.ownsRow V.heap.size 40 3 mo on xo) ∧ Hid (z.w.ownsRow V.heap.size 3 1 m (ats l dev j).length (ivA (ats l dev j)))
theorem ACL.mk {l : List Rc} {dev : Int} {n : Nat} {V : World} {mo : Value} {on : Nat} {xo : List Value} {m i : Value} (j : Nat) (z : After V) (h1 : j ≤ n) (h2 : i = .int .i64 j) (h3 : z.w.ownsRow V.heap.size 40 3 mo on xo) (h4 : z.w.ownsRow V.heap.size 3 1 m (ats l dev j).length (ivA (ats l dev j))) : ACL l dev n V mo on xo m i z.w := by unfold ACL; exact ⟨j, z, h1, h2, rfl, hid h3, hid h4⟩
theorem ACL.of {l : List Rc} {dev : Int} {n : Nat} {V : World} {mo : Value} {on : Nat} {xo : List Value} {m i : Value} {wr : World} (h : ACL l dev n V mo on xo m i wr) : ∃ (j : Nat) (z : After V), j ≤ n ∧ i = .int .i64 j ∧ wr = z.w ∧ Hid (z.w.ownsRow V.heap.size 40 3 mo on xo) ∧ Hid (z.w.ownsRow V.heap.size 3 1 m (ats l dev j).length (ivA (ats l dev j))) := by unfold ACL at h; exact h
@[irreducible] def BCL (l : List Rc) (k1 k2 dev : Int) (out0 : List Sp) (n : Nat) (V : World) (va : Value) (an : Nat) (xa : List Value) (m i : Value) (wr : World) : Prop := ∃ (k : Nat) (z : After V), k ≤ n ∧ i = .int .i64 k ∧ wr = z.w ∧ Hid (z.w.ownsRow V.heap.size 40 3 m (fld l k1 k2 dev out0 k).length ((fld l k1 k2 dev out0 k).flatMap Sp.cs)) ∧ Hid (z.w.ownsRow V.heap.size 3 1 va an xa)
theorem BCL.mk {l : List Rc} {k1 k2 dev : Int} {out0 : List Sp} {n : Nat} {V : World} {va : Value} {an : Nat} {xa : List Value} {m i : Value} (k : Nat) (z : After V) (h1 : k ≤ n) (h2 : i = .int .i64 k) (h3 : z.w.ownsRow V.heap.size 40 3 m (fld l k1 k2 dev out0 k).length ((fld l k1 k2 dev out0 k).flatMap Sp.cs)) (h4 : z.w.ownsRow V.heap.size 3 1 va an xa) : BCL l k1 k2 dev out0 n V va an xa m i z.w := by unfold BCL; exact ⟨k, z, h1, h2, rfl, hid h3, hid h4⟩
theorem BCL.of {l : List Rc} {k1 k2 dev : Int} {out0 : List Sp} {n : Nat} {V : World} {va : Value} {an : Nat} {xa : List Value} {m i : Value} {wr : World} (h : BCL l k1 k2 dev out0 n V va an xa m i wr) : ∃ (k : Nat) (z : After V), k ≤ n ∧ i = .int .i64 k ∧ wr = z.w ∧ Hid (z.w.ownsRow V.heap.size 40 3 m (fld l k1 k2 dev out0 k).length ((fld l k1 k2 dev out0 k).flatMap Sp.cs)) ∧ Hid (z.w.ownsRow V.heap.size 3 1 va an xa) := by unfold BCL at h; exact h
theorem own_other {w : World} {base : Nat} {e : TypeId} {size n : Nat} {v : Value} {xs : List Value} (h : w.ownsRow base e size v n xs) {b o : Nat} {u : Value} (hb : v.ownBlock = none ∨ v.ownBlock ≠ some b) : (w.setCell ⟨b, o, none⟩ u).ownsRow base e size v n xs := by
  obtain ⟨hl, h2⟩ := h
  refine ⟨hl, ?_⟩
  rcases h2 with h2 | ⟨g, cap, cur, hv, hg, hh, hn, hm, hs, ht⟩
  · exact .inl h2
  · subst hv
    refine .inr ⟨g, cap, cur, rfl, hg, (Below.heap_setCell w ⟨b, o, none⟩ u g (fun e => ?_)).trans hh, hn, hm, hs, ht⟩
    rcases hb with hb | hb
    · cases hb
    · exact hb (by rw [e]; rfl)
theorem bnd24 {m : Nat} (h : m ≤ 4412) : m + 1 + 1 ≤ maxLen ∧ (m + 1 + 1) * 24 ≤ 140737488355328 := ⟨by unfold maxLen; omega, by omega⟩
set_option maxRecDepth 100000 in
set_option maxHeartbeats 4000000 in
theorem rchg_any (l : List Rc) (nn : Nat) (hnn : l.length = nn) (a : Option Addr) (c : Nat) (k1 k2 : Int) (w : World) (hb : nn ≤ 9223372036854775807) (hr : Rd w a (l.flatMap Rc.cs)) :
    Calls Try.prog 18 #[.slice a nn c, .int .i64 k1, .int .i64 k2] w fun e w' => ∃ v, e = .returned (.tuple #[v, .int .i64 (chE l k1 k2)]) ∧ SpIs w' v (chV l k1 k2) ∧ Below w.heap.size w w' := by
  have HN := hid hnn; have HR := hid (after_rd hr)
  clear hnn hr
  obtain ⟨i0, hi, hz0, hz1, hz2⟩ := info_parts info40
  obtain ⟨i3, hi3, hz30, hz31, hz32⟩ := info_parts info3
  go_enter Try.func18, Try.ntmps18
  go_wp2_with fail
  refine (met0 (rcheck_any l nn HN.out a c w hb (HR.out (After.here w)))).mono ?_
  rintro e _ ⟨rfl, u1, rfl⟩
  by_cases hc : chkR l = 0
  case neg =>
    have HE := hid (chE_bad (k1 := k1) (k2 := k2) hc)
    have hne : (chkR l != 0) = true := by simpa using hc
    obtain ⟨E, hE⟩ : ∃ E, chkR l = E := ⟨_, rfl⟩
    rw [hE] at hne HE ⊢
    have HK := hid (show ¬ E = 0 by rw [← hE]; exact hc)
    clear hc hE
    go_wp2_with fail
    exact bodyPost_ret (v := .tuple #[.slice none 0 0, .int .i64 E]) (by simp [results, Try.results18, go_sem]) rfl ⟨_, by rw [HE.out], by rw [chV_no (by rw [HE.out]; exact HK.out)]; exact SpIs.nil _, u1.2⟩
  rw [hc]
  have HC := hid hc; clear hc
  have h256 := (chkR_good HC.out).1
  have HL := hid (chkR_good HC.out).2
  rw [HN.out] at h256
  obtain ⟨B, hB⟩ : ∃ B : Bool, decide (k1 < 0 ∨ 16777216 < k1 ∨ k2 < 0 ∨ 16777216 < k2) = B := ⟨_, rfl⟩
  have HB := hid hB; clear hB
  go_upto_region 4 with (fail)
  go_cut [33] (fun q wx => CutB w B q wx)
  case first =>
    rcases h0 : decide (k1 < 0) with _ | _
    · skip
      rcases h1 : decide (16777216 < k1) with _ | _
      · skip
        rcases h2 : decide (k2 < 0) with _ | _
        · skip
          rcases h3 : decide (16777216 < k2) with _ | _
          · skip
            obtain rfl : B = false := by rw [← HB.out]; simp at h0 h1 h2 h3; simp; omega
            go_wp2_with fail
            go_meet
            case rel => first | exact CutB.mk u1 | ((repeat apply Exists.intro); exact ⟨CutB.mk u1, rfl⟩)

          · skip
            obtain rfl : B = true := by rw [← HB.out]; simp at h0 h1 h2 h3; simp; omega
            go_wp2_with fail
            go_meet
            case rel => first | exact CutB.mk u1 | ((repeat apply Exists.intro); exact ⟨CutB.mk u1, rfl⟩)

        · skip
          obtain rfl : B = true := by rw [← HB.out]; simp at h0 h1 h2; simp; omega
          go_wp2_with fail
          go_meet
          case rel => first | exact CutB.mk u1 | ((repeat apply Exists.intro); exact ⟨CutB.mk u1, rfl⟩)

      · skip
        obtain rfl : B = true := by rw [← HB.out]; simp at h0 h1; simp; omega
        go_wp2_with fail
        go_meet
        case rel => first | exact CutB.mk u1 | ((repeat apply Exists.intro); exact ⟨CutB.mk u1, rfl⟩)

    · skip
      obtain rfl : B = true := by rw [← HB.out]; simp at h0; simp; omega
      go_wp2_with fail
      go_meet
      case rel => first | exact CutB.mk u1 | ((repeat apply Exists.intro); exact ⟨CutB.mk u1, rfl⟩)

  case rest =>
  obtain ⟨rfl, u3, rfl⟩ := hcut
  clear u1
  cases B
  case true =>
    have HE := hid (chE_arg (l := l) (k1 := k1) (k2 := k2) HC.out (of_decide_eq_true HB.out))
    go_wp2_with fail
    exact bodyPost_ret (v := .tuple #[.slice none 0 0, .int .i64 1]) (by simp [results, Try.results18, go_sem]) rfl ⟨_, by rw [HE.out], by rw [chV_no (by rw [HE.out]; decide)]; exact SpIs.nil _, u3.2⟩
  have HE := hid (chE_ok (l := l) (k1 := k1) (k2 := k2) HC.out (of_decide_eq_false HB.out))
  clear HB
  obtain ⟨V, hV⟩ : ∃ V : World, V = u3.w := ⟨_, rfl⟩
  have hWV : Below w.heap.size w V := by rw [hV]; exact u3.2
  have RV := hid (fun v : After V => HR.out (After.to (b_then hWV v.2)))
  rw [← hV]
  clear hV HR
  have HO0 := hid (World.ownsRow_made V #[] 0 (base := V.heap.size) (e := 40) (size := 3) (Nat.le_refl _) (by unfold maxLen; omega) (by simp))
  go_wp2_with fail
  go_loopw [9, 10] (fun m i wr => OCL l k1 k2 V m i wr) (fun _ i _ => 16 - (intOf i).toNat)
  case atStart => exact OCL.mk 0 ⟨_, b_alloc (Below.refl _ _) _⟩ (by omega) rfl HO0.out
  case round =>
    clear HO0
    obtain ⟨d, z, hd, rfl, rfl, HO⟩ := hrel.of
    by_cases hlt : d < 16
    case neg =>
      have d1 : decide ((d : Int) < 16) = false := decide_eq_false (by omega)
      have d1' : decide (d < 16) = false := decide_eq_false hlt
      obtain rfl : d = 16 := by omega
      obtain ⟨n, hn'⟩ : ∃ n, (chgN l k1 k2 16).length = n := ⟨_, rfl⟩
      have ho := HO.out
      rw [hn'] at ho
      obtain ⟨xa, xc, rfl, hxc, -, hxR, -⟩ := own_slice ho
      have HXR := hid hxR; have HXN := hid hn'
      clear ho hxR hn' HO hrel
      go_wp2_with fail
      exact bodyPost_ret (v := .tuple #[.slice xa n xc, .int .i64 0]) (by simp [results, Try.results18, go_sem]) rfl ⟨_, by rw [HE.out], by rw [chV_ok HE.out]; exact ⟨xa, xc, by rw [HXN.out], HXR.out, by rw [HXN.out]; exact hxc⟩, b_then hWV z.2⟩
    have d1 : decide ((d : Int) < 16) = true := decide_eq_true (by omega)
    have d1' : decide (d < 16) = true := decide_eq_true hlt
    clear hrel
    obtain ⟨out0, hout0⟩ : ∃ o, chgN l k1 k2 d = o := ⟨_, rfl⟩
    have hol : out0.length ≤ 4112 := by
      have := chgN_len (l := l) (by rw [HN.out]; exact h256) k1 k2 d
      rw [hout0] at this
      omega
    have ho := HO.out
    rw [hout0] at ho
    have HO := hid ho
    have HOUT := hid hout0
    clear hout0 ho
    have own0 : (z.w.alloc (.cells #[.int .i64 0] 3)).ownsRow V.heap.size 3 1 (.slice (some ⟨z.w.heap.size, 0, none⟩) 1 1) 1 [.int .i64 0] := ⟨rfl, .inr ⟨z.w.heap.size, 1, #[.int .i64 0], rfl, z.w_below.size, World.alloc_heap_new _ _, Nat.le_refl _, by unfold maxLen; omega, rfl, rfl⟩⟩
    have HA0 := hid own0
    have HO0 := hid (own_after HO.out (w' := z.w.alloc (.cells #[.int .i64 0] 3)) (b_alloc (Below.refl _ _) _))
    clear own0 HO
    obtain ⟨z2, hz2⟩ : ∃ y : After V, y.w = z.w.alloc (.cells #[.int .i64 0] 3) := ⟨z.on (b_alloc (Below.refl _ _) _), rfl⟩
    rw [← hz2] at HA0 HO0
    go_upto_region 11 with (fail)
    rw [← hz2]
    clear hz2 d1 d1'
    go_wp2_with fail
    go_loopw [11, 12] (fun m i wr => ACL l (d : Int) nn V u9 out0.length (out0.flatMap Sp.cs) m i wr) (fun _ i _ => nn - (intOf i).toNat)
    case atStart => exact ACL.mk 0 z2 (Nat.zero_le _) rfl HO0.out HA0.out
    case round =>
      clear HA0 HO0
      obtain ⟨j, y, hj, rfl, rfl, HO, HA⟩ := hrel.of
      obtain ⟨an, han⟩ : ∃ q, (pcsJ l (d : Int) j).length = q := ⟨_, rfl⟩
      have hal : (ats l (d : Int) j).length = an + 1 := by rw [ats_len, han]
      have ha := HA.out
      rw [hal] at ha
      obtain ⟨ga, ca, rfl⟩ := ownsRow_succ ha
      have hkl := pcsJ_len l (d : Int) j
      rw [han] at hkl
      have HAN := hid han; have HAL := hid hal; have HAA := hid ha
      clear hrel HA
      by_cases hlt2 : j < nn
      case pos =>
        have hlj : j < l.length := by rw [HN.out]; exact hlt2
        obtain ⟨fr, hfr⟩ : ∃ q, bnd l (d : Int) j = q := ⟨_, rfl⟩
        have hlast : (ivA (ats l (d : Int) j))[an]? = some (.int .i64 fr) := ivA_at (by rw [hal]; omega) (by rw [← han, ats_last, hfr])
        have c9 : ∀ v : After y.w, v.w.cell? ⟨ga, an, none⟩ = some (.int .i64 fr) := fun v => own_cell (own_after HAA.out v.2) hlast
        have HFR := hid hfr
        have RY := hid (fun v : After y.w => RV.out (After.to (b_then y.2 v.2)))
        obtain ⟨blk, off, rfl, hbl⟩ := (RY.out (After.here y.w)).addr (by rw [flat_len Rc.cs 5 Rc.c5]; omega)
        obtain ⟨⟨xd, xf, xk, xi, xo⟩, hx⟩ : ∃ t, rc l j = t := ⟨_, rfl⟩
        have x0 : ∀ v : After y.w, v.w.cell? ⟨blk, off + j * 5, none⟩ = some (.int .i64 xd) := rc_cell RY.out (j := j) (hlj) 0 (by decide) (by rw [hx]; rfl) rfl
        have x1 : ∀ v : After y.w, v.w.cell? ⟨blk, off + j * 5 + 1, none⟩ = some (.int .i64 xf) := rc_cell RY.out (j := j) (hlj) 1 (by decide) (by rw [hx]; rfl) (by omega)
        have Hx := hid hx; clear hx
        have d1 : decide ((j : Int) < (nn : Int)) = true := decide_eq_true (by omega)
        have d1' : decide (j < nn) = true := decide_eq_true hlt2
        have hjj : (j : Int) < (nn : Int) := by omega
        have hn0 : (0 : Int) ≤ (an : Int) := by omega
        have hn1 : (an : Int) < (an : Int) + 1 := by omega
        have wan : IntKind.i64.wrap (an : Int) = (an : Int) := IntWalk.i64_in _ (by omega)
        clear han hal ha hfr hlast
        go_upto_region 14 with (fail)
        obtain ⟨yz, hyz⟩ : ∃ u : After y.w, u.w = y.w := ⟨After.here y.w, rfl⟩
        rw [← hyz]
        clear hyz
        by_cases h1 : xd = (d : Int)
        case neg =>
          have e1 : (xd == (d : Int)) = false := beq_eq_false_iff_ne.2 h1
          have HST := hid (ats_stay (l := l) (dev := (d : Int)) (j := j) (by rw [Hx.out]; exact fun h => h1 h.1))
          clear h1
          refine wp_region_since (by kernel_rfl) (by kernel_rfl) ?_
          repeat (go_big_quiet_step (fail))
          refine wpQuiet_nil ?_
          intro uq
          go_wp2_with fail
          clear e1 d1 d1'
          go_roundw
          case rel => exact ACL.mk (j + 1) ⟨uq.w, b_then y.2 uq.2⟩ (by omega) (by go_num) (own_after HO.out uq.2) (by rw [HST.out, HAL.out]; exact own_after HAA.out uq.2)
          case measure => first | (simp [intOf]; done) | (simp [intOf]; omega)
        subst h1
        by_cases h2 : fr < xf
        case neg =>
          have e2 : decide (fr < xf) = false := decide_eq_false h2
          have HST := hid (ats_stay (l := l) (dev := (d : Int)) (j := j) (by rw [Hx.out, HFR.out]; exact fun h => h2 h.2))
          clear h2
          refine wp_region_since (by kernel_rfl) (by kernel_rfl) ?_
          repeat (go_big_quiet_step (fail))
          refine wpQuiet_nil ?_
          intro uq
          go_wp2_with fail
          clear e2 d1 d1'
          go_roundw
          case rel => exact ACL.mk (j + 1) ⟨uq.w, b_then y.2 uq.2⟩ (by omega) (by go_num) (own_after HO.out uq.2) (by rw [HST.out, HAL.out]; exact own_after HAA.out uq.2)
          case measure => first | (simp [intOf]; done) | (simp [intOf]; omega)
        have e2 : decide (fr < xf) = true := decide_eq_true h2
        have HST := hid (ats_next (l := l) (dev := (d : Int)) (j := j) (by rw [Hx.out, HFR.out]; exact ⟨rfl, h2⟩))
        rw [Hx.out] at HST
        dsimp only at HST
        clear h2
        refine wp_region_since (by kernel_rfl) (by kernel_rfl) ?_
        repeat (go_big_quiet_step (fail))
        refine wpQuiet_nil ?_
        intro uq
        obtain ⟨y2, hy2⟩ : ∃ q : After V, q.w = uq.w := ⟨⟨uq.w, b_then y.2 uq.2⟩, rfl⟩
        have ha2 : y2.w.ownsRow V.heap.size 3 1 (.slice (some ⟨ga, 0, none⟩) (an + 1) ca) (an + 1) (ivA (ats l (d : Int) j)) := by rw [hy2]; exact own_after HAA.out uq.2
        have ho2 : y2.w.ownsRow V.heap.size 40 3 u9 out0.length (out0.flatMap Sp.cs) := by rw [hy2]; exact own_after HO.out uq.2
        have x1q : y2.w.cell? ⟨blk, off + j * 5 + 1, none⟩ = some (.int .i64 xf) := by rw [hy2]; exact x1 uq
        rw [← hy2]
        have HA2 := hid ha2; have HO2 := hid ho2
        clear hy2 c9 x0 x1 ha2 ho2 e2
        go_wp2_with (at_builtin; refine wpList_append_rd _ rfl (.tmp 67) (.tmp 73) 62 rfl V.heap.size 3 i3 (.int .i64 0) 1 8 und62 hi3 hz30 hz31 hz32 rfl (by decide) _ _ _ rfl (own_after HA2.out (b_alloc (Below.refl _ _) (.cells #[.int .i64 xf] 3))) (some ⟨y2.w.heap.size, 0, none⟩) 1 1 [.int .i64 xf] rfl rfl (rd_new _ _ _ (by rfl)) (fun u hu => by rw [List.mem_singleton.1 hu]; rfl) (by unfold maxLen; omega) (by omega) (by have := y2.w_below.size; simp; omega) ?_; intro v' w1 hown' hgrow)
        have hA9 := own_after HA2.out (w' := y2.w.alloc (.cells #[.int .i64 xf] 3)) (b_alloc (Below.refl _ _) _)
        have hO9 := own_after HO2.out (w' := y2.w.alloc (.cells #[.int .i64 xf] 3)) (b_alloc (Below.refl _ _) _)
        have hO8 := hO9.kept hgrow (own_apart hO9 hA9 (by decide))
        have hw1 : Below V.heap.size V w1 := Below.trans (b_alloc y2.w_below _) (own_below hA9 hgrow (b_alloc y2.w_below _).size)
        obtain ⟨y9, rfl⟩ : ∃ y : After V, w1 = y.w := ⟨⟨w1, hw1⟩, rfl⟩
        clear hA9 hO9 hw1 hgrow
        have HO9 := hid hO8
        have HA9 := hid (show y9.w.ownsRow V.heap.size 3 1 v' (ats l (d : Int) (j + 1)).length (ivA (ats l (d : Int) (j + 1))) by
          rw [HST.out, List.length_append, HAL.out]
          unfold ivA at hown' ⊢
          rw [List.map_append]
          exact hown')
        clear hO8 hown' x1q d1 d1'
        go_roundw
        case rel => exact ACL.mk (j + 1) y9 (by omega) (by go_num) HO9.out HA9.out
        case measure => first | (simp [intOf]; done) | (simp [intOf]; omega)
      have d1 : decide ((j : Int) < (nn : Int)) = false := decide_eq_false (by omega)
      have d1' : decide (j < nn) = false := decide_eq_false hlt2
      have hjl : j = l.length := by rw [HN.out]; omega
      obtain ⟨np, hnp⟩ : ∃ q, (pcs l (d : Int)).length = q := ⟨_, rfl⟩
      have hnp2 : np = an + 1 := by rw [← hnp, pcs_len, ← hjl, han]
      have HAS := hid (show atsA l (d : Int) = ats l (d : Int) j ++ [1099511627777] by rw [hjl]; rfl)
      have HNP := hid hnp; have HNP2 := hid hnp2
      have hap : an ≤ 256 := by omega
      clear hjl han hal ha hnp hnp2
      go_wp2_with (at_builtin; refine wpList_append_rd _ rfl (.tmp 75) (.tmp 76) 62 rfl V.heap.size 3 i3 (.int .i64 0) 1 8 und62 hi3 hz30 hz31 hz32 rfl (by decide) _ _ _ rfl (own_after HAA.out (b_alloc (Below.refl _ _) (.cells #[.int .i64 1099511627777] 3))) (some ⟨y.w.heap.size, 0, none⟩) 1 1 [.int .i64 1099511627777] rfl rfl (rd_new _ _ _ (by rfl)) (fun u hu => by rw [List.mem_singleton.1 hu]; rfl) (by unfold maxLen; omega) (by omega) (by have := y.w_below.size; simp; omega) ?_; intro v' w1 hown' hgrow)
      clear d1 d1'
      have hA9 := own_after HAA.out (w' := y.w.alloc (.cells #[.int .i64 1099511627777] 3)) (b_alloc (Below.refl _ _) _)
      have hO9 := own_after HO.out (w' := y.w.alloc (.cells #[.int .i64 1099511627777] 3)) (b_alloc (Below.refl _ _) _)
      have hO8 := hO9.kept hgrow (own_apart hO9 hA9 (by decide))
      have hw1 : Below V.heap.size V w1 := Below.trans (b_alloc y.w_below _) (own_below hA9 hgrow (b_alloc y.w_below _).size)
      obtain ⟨y9, rfl⟩ : ∃ y : After V, w1 = y.w := ⟨⟨w1, hw1⟩, rfl⟩
      clear hA9 hO9 hw1 hgrow
      have hat : y9.w.ownsRow V.heap.size 3 1 v' (np + 1) (ivA (atsA l (d : Int))) := by
        rw [HAS.out, HNP2.out]
        unfold ivA at hown' ⊢
        rw [List.map_append]
        exact hown'
      obtain ⟨gb, cb, rfl⟩ := ownsRow_succ hat
      have HAT0 := hid hat; have HO0 := hid hO8
      have hnpb : np ≤ 257 := by have := HNP2.out; omega
      clear hat hO8 hown'
      go_loopw [9, 13] (fun m i wr => BCL l k1 k2 (d : Int) out0 np V (.slice (some ⟨gb, 0, none⟩) (np + 1) cb) (np + 1) (ivA (atsA l (d : Int))) m i wr) (fun _ i _ => np - (intOf i).toNat)
      case atStart => exact BCL.mk 0 y9 (Nat.zero_le _) rfl HO0.out HAT0.out
      case round =>
        clear HO0 HAT0
        obtain ⟨k, z8, hk, rfl, rfl, HO, HAT⟩ := hrel.of
        clear hrel
        by_cases hlt3 : k < np
        case neg =>
          have d1 : decide ((k : Int) + 1 < (np : Int) + 1) = false := decide_eq_false (by omega)
          have d1' : decide (k + 1 < np + 1) = false := decide_eq_false (by omega)
          have d1'' : decide (k < np) = false := decide_eq_false hlt3
          have hkn : k = np := by omega
          have HF := hid (show fld l k1 k2 (d : Int) out0 k = chgN l k1 k2 (d + 1) by rw [hkn, ← HNP.out, fld_all, ← HOUT.out]; rfl)
          rw [HF.out] at HO
          clear hkn
          go_wp2_with fail
          clear d1 d1' d1''
          go_roundw
          case rel => exact OCL.mk (d + 1) z8 (by omega) (by go_num) HO.out
          case measure => first | (simp [intOf]; done) | (simp [intOf]; omega)
        have d1 : decide ((k : Int) + 1 < (np : Int) + 1) = true := decide_eq_true (by omega)
        have d1' : decide (k + 1 < np + 1) = true := decide_eq_true (by omega)
        have d1'' : decide (k < np) = true := decide_eq_true hlt3
        have hk0 : (k : Int) < (np : Int) + 1 := by omega
        have hk1 : (k : Int) + 1 < (np : Int) + 1 := by omega
        have hk2 : (0 : Int) ≤ (k : Int) + 1 := by omega
        have wk : IntKind.i64.wrap ((k : Int) + 1) = (k : Int) + 1 := IntWalk.i64_in _ (by omega)
        have wk2 : ((k : Int) + 1).toNat = k + 1 := by omega
        obtain ⟨FL, hFL⟩ : ∃ q, fld l k1 k2 (d : Int) out0 k = q := ⟨_, rfl⟩
        obtain ⟨on, hon⟩ : ∃ q, FL.length = q := ⟨_, rfl⟩
        obtain ⟨⟨fr, te⟩, hp⟩ : ∃ q, pc l (d : Int) k = q := ⟨_, rfl⟩
        have hNX := fld_next l k1 k2 (d : Int) out0 (k := k) (by rw [HNP.out]; exact hlt3)
        rw [hFL, hp] at hNX
        dsimp only at hNX
        have hlo : (atsA l (d : Int)).getD k 0 = fr := by rw [atsA_lo (by rw [HNP.out]; exact hlt3), hp]
        have hhi : (atsA l (d : Int)).getD (k + 1) 0 = te := by rw [atsA_hi, hp]
        have hasl : (atsA l (d : Int)).length = np + 1 := by rw [atsA_len, HNP.out]
        have HLO := hid (ivA_at (by rw [hasl]; omega) hlo); have HHI := hid (ivA_at (by rw [hasl]; omega) hhi)
        have hbnd := fld_len l k1 k2 (d : Int) out0 k (by rw [HNP.out]; omega)
        rw [hFL, hon] at hbnd
        have ho := HO.out
        rw [hFL, hon] at ho
        obtain ⟨oa, oc, rfl, hoc, -, -, -⟩ := own_slice ho
        have HO := hid ho; have HFN := hid hon
        have b0 := own_cell HAT.out HLO.out
        clear ho hFL hon hp hlo hhi hasl
        go_wp2_with fail
        refine (differ_any l nn HN.out a c (d : Int) fr k1 k2 z8.w hb (RV.out z8)).mono ?_
        rintro e w9 ⟨rfl, hB9⟩
        obtain ⟨z9, hz9⟩ : ∃ q : After V, q.w = w9 := ⟨⟨w9, b_then z8.2 hB9⟩, rfl⟩
        have ho := own_after HO.out hB9
        have hat := own_after HAT.out hB9
        rw [← hz9] at ho hat
        rw [← hz9]
        have HO := hid ho; have HAT := hid hat
        clear ho hat hz9 hB9 b0
        rcases hdf : difR l (d : Int) fr k1 k2 with _ | _
        · have HNX := hid (show fld l k1 k2 (d : Int) out0 (k + 1) = FL by rw [hNX, pieceR, if_neg (by rw [hdf]; decide)])
          clear hdf hNX
          go_wp2_with fail
          clear d1 d1' d1'' wk wk2
          go_roundw
          case rel => exact BCL.mk (k + 1) z9 (by omega) (by go_num) (by rw [HNX.out, HFN.out]; exact HO.out) HAT.out
          case measure => first | (simp [intOf]; done) | (simp [intOf]; omega)
        have HNX := hid (show fld l k1 k2 (d : Int) out0 (k + 1) = addP FL (d : Int) fr te by rw [hNX, pieceR, if_pos hdf])
        clear hdf hNX d1 d1' d1''
        have cA : ∀ v : After z9.w, v.w.cell? ⟨gb, k, none⟩ = some (.int .i64 fr) := fun v => own_cell (own_after HAT.out v.2) HLO.out
        have cB : ∀ v : After z9.w, v.w.cell? ⟨gb, k + 1, none⟩ = some (.int .i64 te) := fun v => own_cell (own_after HAT.out v.2) HHI.out
        rcases List.eq_nil_or_concat FL with hFL | ⟨init, ⟨sd, sa, sb⟩, hFL⟩
        · obtain rfl : on = 0 := by have := HFN.out; rw [hFL] at this; exact this.symm
          have hap : addP FL (d : Int) fr te = FL ++ [(⟨(d : Int), fr, te⟩ : Sp)] := by rw [hFL]; rfl
          clear hFL
          go_upto_region 22 with (fail)
          obtain ⟨z0, hz0⟩ : ∃ u : After z9.w, u.w = z9.w := ⟨After.here _, rfl⟩
          rw [← hz0]
          clear hz0
          refine wp_region_since (by kernel_rfl) (by kernel_rfl) ?_
          repeat (go_big_quiet_step (fail))
          refine wpQuiet_nil ?_
          intro uq
          have HAP := hid (show addP FL (d : Int) fr te = FL ++ [(⟨(d : Int), fr, te⟩ : Sp)] from hap)
          have HO := hid (own_after HO.out uq.2)
          have HAT := hid (own_after HAT.out uq.2)
          go_upto_region 24 with (fail)
          obtain ⟨Vz, hVzz⟩ : ∃ y : World, y = uq.w := ⟨_, rfl⟩
          have hVz : Below V.heap.size V Vz := by rw [hVzz]; exact b_then z9.w_below uq.2
          have HO := hid (hVzz ▸ HO.out : Vz.ownsRow V.heap.size 40 3 (.slice oa 0 oc) (0) (FL.flatMap Sp.cs))
          have HAT := hid (hVzz ▸ HAT.out : Vz.ownsRow V.heap.size 3 1 (.slice (some ⟨gb, 0, none⟩) (np + 1) cb) (np + 1) (ivA (atsA l (d : Int))))
          rw [← hVzz]
          have c4 : ∀ v : After Vz, v.w.cell? ⟨gb, k, none⟩ = some (.int .i64 fr) := fun v => own_cell (own_after HAT.out v.2) HLO.out
          have c5 : ∀ v : After Vz, v.w.cell? ⟨gb, k + 1, none⟩ = some (.int .i64 te) := fun v => own_cell (own_after HAT.out v.2) HHI.out
          obtain ⟨zz, hzz⟩ : ∃ u : After Vz, u.w = Vz := ⟨After.here Vz, rfl⟩
          rw [← hzz]
          clear hzz hVzz
          clear hap
          refine D6.region_split 13 (by kernel_rfl) (by kernel_rfl) rfl ?_
          intro u0
          simp only [List.take_succ_cons, List.take_zero]
          refine h_take 0 (x := ?_) rfl (by kernel_rfl) (by kernel_rfl) (by kernel_rfl) (fun _ _ _ h => h) (by rfl) (fun v => ?_) ?_
          rotate_left
          · (go_simp; try with_reducible rfl)
          try simp only [Act.put, List.setIfInBounds_toArray, List.set_cons_zero, List.set_cons_succ]
          refine h_take 1 (x := ?_) rfl (by kernel_rfl) (by kernel_rfl) (by kernel_rfl) (fun _ _ _ h => h) (by rfl) (fun v => ?_) ?_
          rotate_left
          · (go_simp; try with_reducible rfl)
          try simp only [Act.put, List.setIfInBounds_toArray, List.set_cons_zero, List.set_cons_succ]
          refine h_take 2 (x := ?_) rfl (by kernel_rfl) (by kernel_rfl) (by kernel_rfl) (fun _ _ _ h => h) (by rfl) (fun v => ?_) ?_
          rotate_left
          · (go_simp; try with_reducible rfl)
          try simp only [Act.put, List.setIfInBounds_toArray, List.set_cons_zero, List.set_cons_succ]
          refine h_take 3 (x := ?_) rfl (by kernel_rfl) (by kernel_rfl) (by kernel_rfl) (fun _ _ _ h => h) (by rfl) (fun v => ?_) ?_
          rotate_left
          · (go_simp; try with_reducible rfl)
          try simp only [Act.put, List.setIfInBounds_toArray, List.set_cons_zero, List.set_cons_succ]
          refine h_take 4 (x := ?_) rfl (by kernel_rfl) (by kernel_rfl) (by kernel_rfl) (fun _ _ _ h => h) (by rfl) (fun v => ?_) ?_
          rotate_left
          · (go_simp; try with_reducible rfl)
          try simp only [Act.put, List.setIfInBounds_toArray, List.set_cons_zero, List.set_cons_succ]
          refine h_take 5 (x := ?_) rfl (by kernel_rfl) (by kernel_rfl) (by kernel_rfl) (fun _ _ _ h => h) (by rfl) (fun v => ?_) ?_
          rotate_left
          · (go_simp; try with_reducible rfl)
          try simp only [Act.put, List.setIfInBounds_toArray, List.set_cons_zero, List.set_cons_succ]
          refine h_take 6 (x := ?_) rfl (by kernel_rfl) (by kernel_rfl) (by kernel_rfl) (fun _ _ _ h => h) (by rfl) (fun v => ?_) ?_
          rotate_left
          · (go_simp; try with_reducible rfl)
          try simp only [Act.put, List.setIfInBounds_toArray, List.set_cons_zero, List.set_cons_succ]
          refine h_take 7 (x := ?_) rfl (by kernel_rfl) (by kernel_rfl) (by kernel_rfl) (fun _ _ _ h => h) (by rfl) (fun v => ?_) ?_
          rotate_left
          · (go_simp; try with_reducible rfl)
          try simp only [Act.put, List.setIfInBounds_toArray, List.set_cons_zero, List.set_cons_succ]
          refine h_take 8 (x := ?_) rfl (by kernel_rfl) (by kernel_rfl) (by kernel_rfl) (fun _ _ _ h => h) (by rfl) (fun v => ?_) ?_
          rotate_left
          · (go_simp; try with_reducible rfl)
          try simp only [Act.put, List.setIfInBounds_toArray, List.set_cons_zero, List.set_cons_succ]
          refine h_take 9 (x := ?_) rfl (by kernel_rfl) (by kernel_rfl) (by kernel_rfl) (fun _ _ _ h => h) (by rfl) (fun v => ?_) ?_
          rotate_left
          · (go_simp; try with_reducible rfl)
          try simp only [Act.put, List.setIfInBounds_toArray, List.set_cons_zero, List.set_cons_succ]
          refine h_take 10 (x := ?_) rfl (by kernel_rfl) (by kernel_rfl) (by kernel_rfl) (fun _ _ _ h => h) (by rfl) (fun v => ?_) ?_
          rotate_left
          · (go_simp; try with_reducible rfl)
          try simp only [Act.put, List.setIfInBounds_toArray, List.set_cons_zero, List.set_cons_succ]
          refine h_take 11 (x := ?_) rfl (by kernel_rfl) (by kernel_rfl) (by kernel_rfl) (fun _ _ _ h => h) (by rfl) (fun v => ?_) ?_
          rotate_left
          · (go_simp; try with_reducible rfl)
          try simp only [Act.put, List.setIfInBounds_toArray, List.set_cons_zero, List.set_cons_succ]
          refine h_step 12 (by kernel_rfl) rfl (fun K hK => ?_)
          go_simp
          obtain ⟨vb, hvb⟩ : ∃ y9 : After Vz, y9.w = u0.w.alloc (.cells #[.int .i64 (d : Int), .int .i64 fr, .int .i64 te] 40) := ⟨u0.on (b_alloc (Below.refl _ _) _), rfl⟩
          rw [← hvb]
          have hrb : Rd vb.w (some ⟨u0.w.heap.size, 0, none⟩) (Sp.cs (⟨(d : Int), fr, te⟩ : Sp)) := by rw [hvb]; exact rd_new _ _ _ rfl
          have hbz : Below Vz.heap.size Vz vb.w := vb.2
          have hsz9 : V.heap.size ≤ vb.w.heap.size := Nat.le_trans hVz.size hbz.size
          clear hvb
          refine hK _ vb ?_
          clear hK K
          try simp only [Act.put, List.setIfInBounds_toArray, List.set_cons_zero, List.set_cons_succ]
          refine tail_go (by kernel_rfl) ?_
          refine tail_in ?_
          refine t_step 13 (by kernel_rfl) rfl (fun K hK => ?_)
          refine step_append_rd _ rfl (.tmp 132) (.tmp 144) 34 rfl V.heap.size 40 i0 (.agg #[.int .i64 0, .int .i64 0, .int .i64 0]) 3 24 und34 hi hz0 hz1 hz2 rfl (by decide) _ _ _ (by rfl) (own_after HO.out hbz) (some ⟨u0.w.heap.size, 0, none⟩) 1 _ (Sp.cs (⟨(d : Int), fr, te⟩ : Sp)) (by rfl) rfl hrb (Sp.one _) (by unfold maxLen; omega) (by omega) hsz9 ?_
          intro v' w1 hown' hgrow
          refine hK _ _ ?_
          clear hK K
          try simp only [Act.put, List.setIfInBounds_toArray, List.set_cons_zero, List.set_cons_succ]
          refine t_take 14 (x := ?_) rfl (by kernel_rfl) (by kernel_rfl) (by kernel_rfl) (fun _ _ _ h => h) (by rfl) (fun w => ?_) ?_
          rotate_left
          · (go_simp; try with_reducible rfl)
          try simp only [Act.put, List.setIfInBounds_toArray, List.set_cons_zero, List.set_cons_succ]
          refine wpAnyH_done (by kernel_rfl) ?_ _
          refine NoPanic.normal ?_
          have hO9 := own_after HO.out hbz
          have hA9 := own_after HAT.out hbz
          have hA8 := hA9.kept hgrow (own_apart hA9 hO9 (by decide))
          have hw1 : Below V.heap.size V w1 := Below.trans (b_then hVz hbz) (own_below hO9 hgrow hsz9)
          obtain ⟨y9, rfl⟩ : ∃ y : After V, w1 = y.w := ⟨⟨w1, hw1⟩, rfl⟩
          have HO9 := hid (show y9.w.ownsRow V.heap.size 40 3 v' (fld l k1 k2 (d : Int) out0 (k + 1)).length ((fld l k1 k2 (d : Int) out0 (k + 1)).flatMap Sp.cs) by
            rw [HNX.out, HAP.out, List.length_append, HFN.out, List.flatMap_append]
            exact hown')
          have HA9 := hid hA8
          clear hO9 hA9 hA8 hw1 hgrow hown' hrb hbz hsz9
          go_wp2_with fail
          go_roundw
          case rel => exact BCL.mk (k + 1) y9 (by omega) (by go_num) HO9.out HA9.out
          case measure => first | (simp [intOf]; done) | (simp [intOf]; omega)
          

        rw [List.concat_eq_append] at hFL
        obtain ⟨m, hm⟩ : ∃ m, init.length = m := ⟨_, rfl⟩
        obtain rfl : on = m + 1 := by have := HFN.out; rw [hFL, List.length_append, hm] at this; exact this.symm
        obtain ⟨g, cap, hv⟩ := ownsRow_succ HO.out
        cases hv
        have y0 : ∀ v : After z9.w, v.w.cell? ⟨g, m * 3, none⟩ = some (.int .i64 sd) := fun v => own_cell (own_after HO.out v.2) (by rw [hFL, List.flatMap_append, List.getElem?_append_right (by rw [flat_len Sp.cs 3 Sp.c3, hm]; omega), flat_len Sp.cs 3 Sp.c3, hm, Nat.sub_self]; rfl)
        have y2 : ∀ v : After z9.w, v.w.cell? ⟨g, m * 3 + 2, none⟩ = some (.int .i64 sb) := fun v => own_cell (own_after HO.out v.2) (by rw [hFL, List.flatMap_append, List.getElem?_append_right (by rw [flat_len Sp.cs 3 Sp.c3, hm]; omega), flat_len Sp.cs 3 Sp.c3, hm, show m * 3 + 2 - m * 3 = 2 by omega]; rfl)
        have n0 : (0 : Int) ≤ (m : Int) := by omega
        have n1 : (m : Int) < (m : Int) + 1 := by omega
        have n2 : decide ((0 : Int) < (m : Int) + 1) = true := decide_eq_true (by omega)
        have n2' : (0 : Int) < (m : Int) + 1 := by omega
        have hm9 : m ≤ 4412 := by omega
        have w3 : IntKind.i64.wrap (m : Int) = (m : Int) := IntWalk.i64_in _ (by omega)
        have w4 : wrap64 (m : Int) = (m : Int) := by unfold wrap64; omega
        by_cases hsd : sd = (d : Int)
        case neg =>
          have e1 : (sd == (d : Int)) = false := beq_eq_false_iff_ne.2 hsd
          have hap : addP FL (d : Int) fr te = FL ++ [(⟨(d : Int), fr, te⟩ : Sp)] := by rw [hFL, addP_snoc, if_neg (fun h => hsd h.1)]
          clear hsd hFL
          go_upto_region 22 with (fail)
          obtain ⟨z0, hz0⟩ : ∃ u : After z9.w, u.w = z9.w := ⟨After.here _, rfl⟩
          rw [← hz0]
          clear hz0
          refine wp_region_since (by kernel_rfl) (by kernel_rfl) ?_
          repeat (go_big_quiet_step (fail))
          refine wpQuiet_nil ?_
          intro uq
          have HAP := hid (show addP FL (d : Int) fr te = FL ++ [(⟨(d : Int), fr, te⟩ : Sp)] from hap)
          have HO := hid (own_after HO.out uq.2)
          have HAT := hid (own_after HAT.out uq.2)
          go_upto_region 24 with (fail)
          obtain ⟨Vz, hVzz⟩ : ∃ y : World, y = uq.w := ⟨_, rfl⟩
          have hVz : Below V.heap.size V Vz := by rw [hVzz]; exact b_then z9.w_below uq.2
          have HO := hid (hVzz ▸ HO.out : Vz.ownsRow V.heap.size 40 3 (.slice (some ⟨g, 0, none⟩) (m + 1) oc) (m + 1) (FL.flatMap Sp.cs))
          have HAT := hid (hVzz ▸ HAT.out : Vz.ownsRow V.heap.size 3 1 (.slice (some ⟨gb, 0, none⟩) (np + 1) cb) (np + 1) (ivA (atsA l (d : Int))))
          rw [← hVzz]
          have c4 : ∀ v : After Vz, v.w.cell? ⟨gb, k, none⟩ = some (.int .i64 fr) := fun v => own_cell (own_after HAT.out v.2) HLO.out
          have c5 : ∀ v : After Vz, v.w.cell? ⟨gb, k + 1, none⟩ = some (.int .i64 te) := fun v => own_cell (own_after HAT.out v.2) HHI.out
          obtain ⟨zz, hzz⟩ : ∃ u : After Vz, u.w = Vz := ⟨After.here Vz, rfl⟩
          rw [← hzz]
          clear hzz hVzz
          clear hap e1 y0 y2
          refine D6.region_split 13 (by kernel_rfl) (by kernel_rfl) rfl ?_
          intro u0
          simp only [List.take_succ_cons, List.take_zero]
          refine h_take 0 (x := ?_) rfl (by kernel_rfl) (by kernel_rfl) (by kernel_rfl) (fun _ _ _ h => h) (by rfl) (fun v => ?_) ?_
          rotate_left
          · (go_simp; try with_reducible rfl)
          try simp only [Act.put, List.setIfInBounds_toArray, List.set_cons_zero, List.set_cons_succ]
          refine h_take 1 (x := ?_) rfl (by kernel_rfl) (by kernel_rfl) (by kernel_rfl) (fun _ _ _ h => h) (by rfl) (fun v => ?_) ?_
          rotate_left
          · (go_simp; try with_reducible rfl)
          try simp only [Act.put, List.setIfInBounds_toArray, List.set_cons_zero, List.set_cons_succ]
          refine h_take 2 (x := ?_) rfl (by kernel_rfl) (by kernel_rfl) (by kernel_rfl) (fun _ _ _ h => h) (by rfl) (fun v => ?_) ?_
          rotate_left
          · (go_simp; try with_reducible rfl)
          try simp only [Act.put, List.setIfInBounds_toArray, List.set_cons_zero, List.set_cons_succ]
          refine h_take 3 (x := ?_) rfl (by kernel_rfl) (by kernel_rfl) (by kernel_rfl) (fun _ _ _ h => h) (by rfl) (fun v => ?_) ?_
          rotate_left
          · (go_simp; try with_reducible rfl)
          try simp only [Act.put, List.setIfInBounds_toArray, List.set_cons_zero, List.set_cons_succ]
          refine h_take 4 (x := ?_) rfl (by kernel_rfl) (by kernel_rfl) (by kernel_rfl) (fun _ _ _ h => h) (by rfl) (fun v => ?_) ?_
          rotate_left
          · (go_simp; try with_reducible rfl)
          try simp only [Act.put, List.setIfInBounds_toArray, List.set_cons_zero, List.set_cons_succ]
          refine h_take 5 (x := ?_) rfl (by kernel_rfl) (by kernel_rfl) (by kernel_rfl) (fun _ _ _ h => h) (by rfl) (fun v => ?_) ?_
          rotate_left
          · (go_simp; try with_reducible rfl)
          try simp only [Act.put, List.setIfInBounds_toArray, List.set_cons_zero, List.set_cons_succ]
          refine h_take 6 (x := ?_) rfl (by kernel_rfl) (by kernel_rfl) (by kernel_rfl) (fun _ _ _ h => h) (by rfl) (fun v => ?_) ?_
          rotate_left
          · (go_simp; try with_reducible rfl)
          try simp only [Act.put, List.setIfInBounds_toArray, List.set_cons_zero, List.set_cons_succ]
          refine h_take 7 (x := ?_) rfl (by kernel_rfl) (by kernel_rfl) (by kernel_rfl) (fun _ _ _ h => h) (by rfl) (fun v => ?_) ?_
          rotate_left
          · (go_simp; try with_reducible rfl)
          try simp only [Act.put, List.setIfInBounds_toArray, List.set_cons_zero, List.set_cons_succ]
          refine h_take 8 (x := ?_) rfl (by kernel_rfl) (by kernel_rfl) (by kernel_rfl) (fun _ _ _ h => h) (by rfl) (fun v => ?_) ?_
          rotate_left
          · (go_simp; try with_reducible rfl)
          try simp only [Act.put, List.setIfInBounds_toArray, List.set_cons_zero, List.set_cons_succ]
          refine h_take 9 (x := ?_) rfl (by kernel_rfl) (by kernel_rfl) (by kernel_rfl) (fun _ _ _ h => h) (by rfl) (fun v => ?_) ?_
          rotate_left
          · (go_simp; try with_reducible rfl)
          try simp only [Act.put, List.setIfInBounds_toArray, List.set_cons_zero, List.set_cons_succ]
          refine h_take 10 (x := ?_) rfl (by kernel_rfl) (by kernel_rfl) (by kernel_rfl) (fun _ _ _ h => h) (by rfl) (fun v => ?_) ?_
          rotate_left
          · (go_simp; try with_reducible rfl)
          try simp only [Act.put, List.setIfInBounds_toArray, List.set_cons_zero, List.set_cons_succ]
          refine h_take 11 (x := ?_) rfl (by kernel_rfl) (by kernel_rfl) (by kernel_rfl) (fun _ _ _ h => h) (by rfl) (fun v => ?_) ?_
          rotate_left
          · (go_simp; try with_reducible rfl)
          try simp only [Act.put, List.setIfInBounds_toArray, List.set_cons_zero, List.set_cons_succ]
          refine h_step 12 (by kernel_rfl) rfl (fun K hK => ?_)
          go_simp
          obtain ⟨vb, hvb⟩ : ∃ y9 : After Vz, y9.w = u0.w.alloc (.cells #[.int .i64 (d : Int), .int .i64 fr, .int .i64 te] 40) := ⟨u0.on (b_alloc (Below.refl _ _) _), rfl⟩
          rw [← hvb]
          have hrb : Rd vb.w (some ⟨u0.w.heap.size, 0, none⟩) (Sp.cs (⟨(d : Int), fr, te⟩ : Sp)) := by rw [hvb]; exact rd_new _ _ _ rfl
          have hbz : Below Vz.heap.size Vz vb.w := vb.2
          have hsz9 : V.heap.size ≤ vb.w.heap.size := Nat.le_trans hVz.size hbz.size
          clear hvb
          refine hK _ vb ?_
          clear hK K
          try simp only [Act.put, List.setIfInBounds_toArray, List.set_cons_zero, List.set_cons_succ]
          refine tail_go (by kernel_rfl) ?_
          refine tail_in ?_
          refine t_step 13 (by kernel_rfl) rfl (fun K hK => ?_)
          refine step_append_rd _ rfl (.tmp 132) (.tmp 144) 34 rfl V.heap.size 40 i0 (.agg #[.int .i64 0, .int .i64 0, .int .i64 0]) 3 24 und34 hi hz0 hz1 hz2 rfl (by decide) _ _ _ (by rfl) (own_after HO.out hbz) (some ⟨u0.w.heap.size, 0, none⟩) 1 _ (Sp.cs (⟨(d : Int), fr, te⟩ : Sp)) (by rfl) rfl hrb (Sp.one _) ((bnd24 hm9).1) ((bnd24 hm9).2) hsz9 ?_
          intro v' w1 hown' hgrow
          refine hK _ _ ?_
          clear hK K
          try simp only [Act.put, List.setIfInBounds_toArray, List.set_cons_zero, List.set_cons_succ]
          refine t_take 14 (x := ?_) rfl (by kernel_rfl) (by kernel_rfl) (by kernel_rfl) (fun _ _ _ h => h) (by rfl) (fun w => ?_) ?_
          rotate_left
          · (go_simp; try with_reducible rfl)
          try simp only [Act.put, List.setIfInBounds_toArray, List.set_cons_zero, List.set_cons_succ]
          refine wpAnyH_done (by kernel_rfl) ?_ _
          refine NoPanic.normal ?_
          have hO9 := own_after HO.out hbz
          have hA9 := own_after HAT.out hbz
          have hA8 := hA9.kept hgrow (own_apart hA9 hO9 (by decide))
          have hw1 : Below V.heap.size V w1 := Below.trans (b_then hVz hbz) (own_below hO9 hgrow hsz9)
          obtain ⟨y9, rfl⟩ : ∃ y : After V, w1 = y.w := ⟨⟨w1, hw1⟩, rfl⟩
          have HO9 := hid (show y9.w.ownsRow V.heap.size 40 3 v' (fld l k1 k2 (d : Int) out0 (k + 1)).length ((fld l k1 k2 (d : Int) out0 (k + 1)).flatMap Sp.cs) by
            rw [HNX.out, HAP.out, List.length_append, HFN.out, List.flatMap_append]
            exact hown')
          have HA9 := hid hA8
          clear hO9 hA9 hA8 hw1 hgrow hown' hrb hbz hsz9
          go_wp2_with fail
          go_roundw
          case rel => exact BCL.mk (k + 1) y9 (by omega) (by go_num) HO9.out HA9.out
          case measure => first | (simp [intOf]; done) | (simp [intOf]; omega)
          

        subst hsd
        by_cases hsb : fr = sb
        case neg =>
          have e2 : (sb == fr) = false := beq_eq_false_iff_ne.2 (fun e => hsb e.symm)
          have hap : addP FL (d : Int) fr te = FL ++ [(⟨(d : Int), fr, te⟩ : Sp)] := by rw [hFL, addP_snoc, if_neg (fun h => hsb h.2.symm)]
          clear hsb hFL
          go_upto_region 22 with (fail)
          obtain ⟨z0, hz0⟩ : ∃ u : After z9.w, u.w = z9.w := ⟨After.here _, rfl⟩
          rw [← hz0]
          clear hz0
          refine wp_region_since (by kernel_rfl) (by kernel_rfl) ?_
          repeat (go_big_quiet_step (fail))
          refine wpQuiet_nil ?_
          intro uq
          have HAP := hid (show addP FL (d : Int) fr te = FL ++ [(⟨(d : Int), fr, te⟩ : Sp)] from hap)
          have HO := hid (own_after HO.out uq.2)
          have HAT := hid (own_after HAT.out uq.2)
          go_upto_region 24 with (fail)
          obtain ⟨Vz, hVzz⟩ : ∃ y : World, y = uq.w := ⟨_, rfl⟩
          have hVz : Below V.heap.size V Vz := by rw [hVzz]; exact b_then z9.w_below uq.2
          have HO := hid (hVzz ▸ HO.out : Vz.ownsRow V.heap.size 40 3 (.slice (some ⟨g, 0, none⟩) (m + 1) oc) (m + 1) (FL.flatMap Sp.cs))
          have HAT := hid (hVzz ▸ HAT.out : Vz.ownsRow V.heap.size 3 1 (.slice (some ⟨gb, 0, none⟩) (np + 1) cb) (np + 1) (ivA (atsA l (d : Int))))
          rw [← hVzz]
          have c4 : ∀ v : After Vz, v.w.cell? ⟨gb, k, none⟩ = some (.int .i64 fr) := fun v => own_cell (own_after HAT.out v.2) HLO.out
          have c5 : ∀ v : After Vz, v.w.cell? ⟨gb, k + 1, none⟩ = some (.int .i64 te) := fun v => own_cell (own_after HAT.out v.2) HHI.out
          obtain ⟨zz, hzz⟩ : ∃ u : After Vz, u.w = Vz := ⟨After.here Vz, rfl⟩
          rw [← hzz]
          clear hzz hVzz
          clear hap e2 y0 y2
          refine D6.region_split 13 (by kernel_rfl) (by kernel_rfl) rfl ?_
          intro u0
          simp only [List.take_succ_cons, List.take_zero]
          refine h_take 0 (x := ?_) rfl (by kernel_rfl) (by kernel_rfl) (by kernel_rfl) (fun _ _ _ h => h) (by rfl) (fun v => ?_) ?_
          rotate_left
          · (go_simp; try with_reducible rfl)
          try simp only [Act.put, List.setIfInBounds_toArray, List.set_cons_zero, List.set_cons_succ]
          refine h_take 1 (x := ?_) rfl (by kernel_rfl) (by kernel_rfl) (by kernel_rfl) (fun _ _ _ h => h) (by rfl) (fun v => ?_) ?_
          rotate_left
          · (go_simp; try with_reducible rfl)
          try simp only [Act.put, List.setIfInBounds_toArray, List.set_cons_zero, List.set_cons_succ]
          refine h_take 2 (x := ?_) rfl (by kernel_rfl) (by kernel_rfl) (by kernel_rfl) (fun _ _ _ h => h) (by rfl) (fun v => ?_) ?_
          rotate_left
          · (go_simp; try with_reducible rfl)
          try simp only [Act.put, List.setIfInBounds_toArray, List.set_cons_zero, List.set_cons_succ]
          refine h_take 3 (x := ?_) rfl (by kernel_rfl) (by kernel_rfl) (by kernel_rfl) (fun _ _ _ h => h) (by rfl) (fun v => ?_) ?_
          rotate_left
          · (go_simp; try with_reducible rfl)
          try simp only [Act.put, List.setIfInBounds_toArray, List.set_cons_zero, List.set_cons_succ]
          refine h_take 4 (x := ?_) rfl (by kernel_rfl) (by kernel_rfl) (by kernel_rfl) (fun _ _ _ h => h) (by rfl) (fun v => ?_) ?_
          rotate_left
          · (go_simp; try with_reducible rfl)
          try simp only [Act.put, List.setIfInBounds_toArray, List.set_cons_zero, List.set_cons_succ]
          refine h_take 5 (x := ?_) rfl (by kernel_rfl) (by kernel_rfl) (by kernel_rfl) (fun _ _ _ h => h) (by rfl) (fun v => ?_) ?_
          rotate_left
          · (go_simp; try with_reducible rfl)
          try simp only [Act.put, List.setIfInBounds_toArray, List.set_cons_zero, List.set_cons_succ]
          refine h_take 6 (x := ?_) rfl (by kernel_rfl) (by kernel_rfl) (by kernel_rfl) (fun _ _ _ h => h) (by rfl) (fun v => ?_) ?_
          rotate_left
          · (go_simp; try with_reducible rfl)
          try simp only [Act.put, List.setIfInBounds_toArray, List.set_cons_zero, List.set_cons_succ]
          refine h_take 7 (x := ?_) rfl (by kernel_rfl) (by kernel_rfl) (by kernel_rfl) (fun _ _ _ h => h) (by rfl) (fun v => ?_) ?_
          rotate_left
          · (go_simp; try with_reducible rfl)
          try simp only [Act.put, List.setIfInBounds_toArray, List.set_cons_zero, List.set_cons_succ]
          refine h_take 8 (x := ?_) rfl (by kernel_rfl) (by kernel_rfl) (by kernel_rfl) (fun _ _ _ h => h) (by rfl) (fun v => ?_) ?_
          rotate_left
          · (go_simp; try with_reducible rfl)
          try simp only [Act.put, List.setIfInBounds_toArray, List.set_cons_zero, List.set_cons_succ]
          refine h_take 9 (x := ?_) rfl (by kernel_rfl) (by kernel_rfl) (by kernel_rfl) (fun _ _ _ h => h) (by rfl) (fun v => ?_) ?_
          rotate_left
          · (go_simp; try with_reducible rfl)
          try simp only [Act.put, List.setIfInBounds_toArray, List.set_cons_zero, List.set_cons_succ]
          refine h_take 10 (x := ?_) rfl (by kernel_rfl) (by kernel_rfl) (by kernel_rfl) (fun _ _ _ h => h) (by rfl) (fun v => ?_) ?_
          rotate_left
          · (go_simp; try with_reducible rfl)
          try simp only [Act.put, List.setIfInBounds_toArray, List.set_cons_zero, List.set_cons_succ]
          refine h_take 11 (x := ?_) rfl (by kernel_rfl) (by kernel_rfl) (by kernel_rfl) (fun _ _ _ h => h) (by rfl) (fun v => ?_) ?_
          rotate_left
          · (go_simp; try with_reducible rfl)
          try simp only [Act.put, List.setIfInBounds_toArray, List.set_cons_zero, List.set_cons_succ]
          refine h_step 12 (by kernel_rfl) rfl (fun K hK => ?_)
          go_simp
          obtain ⟨vb, hvb⟩ : ∃ y9 : After Vz, y9.w = u0.w.alloc (.cells #[.int .i64 (d : Int), .int .i64 fr, .int .i64 te] 40) := ⟨u0.on (b_alloc (Below.refl _ _) _), rfl⟩
          rw [← hvb]
          have hrb : Rd vb.w (some ⟨u0.w.heap.size, 0, none⟩) (Sp.cs (⟨(d : Int), fr, te⟩ : Sp)) := by rw [hvb]; exact rd_new _ _ _ rfl
          have hbz : Below Vz.heap.size Vz vb.w := vb.2
          have hsz9 : V.heap.size ≤ vb.w.heap.size := Nat.le_trans hVz.size hbz.size
          clear hvb
          refine hK _ vb ?_
          clear hK K
          try simp only [Act.put, List.setIfInBounds_toArray, List.set_cons_zero, List.set_cons_succ]
          refine tail_go (by kernel_rfl) ?_
          refine tail_in ?_
          refine t_step 13 (by kernel_rfl) rfl (fun K hK => ?_)
          refine step_append_rd _ rfl (.tmp 132) (.tmp 144) 34 rfl V.heap.size 40 i0 (.agg #[.int .i64 0, .int .i64 0, .int .i64 0]) 3 24 und34 hi hz0 hz1 hz2 rfl (by decide) _ _ _ (by rfl) (own_after HO.out hbz) (some ⟨u0.w.heap.size, 0, none⟩) 1 _ (Sp.cs (⟨(d : Int), fr, te⟩ : Sp)) (by rfl) rfl hrb (Sp.one _) ((bnd24 hm9).1) ((bnd24 hm9).2) hsz9 ?_
          intro v' w1 hown' hgrow
          refine hK _ _ ?_
          clear hK K
          try simp only [Act.put, List.setIfInBounds_toArray, List.set_cons_zero, List.set_cons_succ]
          refine t_take 14 (x := ?_) rfl (by kernel_rfl) (by kernel_rfl) (by kernel_rfl) (fun _ _ _ h => h) (by rfl) (fun w => ?_) ?_
          rotate_left
          · (go_simp; try with_reducible rfl)
          try simp only [Act.put, List.setIfInBounds_toArray, List.set_cons_zero, List.set_cons_succ]
          refine wpAnyH_done (by kernel_rfl) ?_ _
          refine NoPanic.normal ?_
          have hO9 := own_after HO.out hbz
          have hA9 := own_after HAT.out hbz
          have hA8 := hA9.kept hgrow (own_apart hA9 hO9 (by decide))
          have hw1 : Below V.heap.size V w1 := Below.trans (b_then hVz hbz) (own_below hO9 hgrow hsz9)
          obtain ⟨y9, rfl⟩ : ∃ y : After V, w1 = y.w := ⟨⟨w1, hw1⟩, rfl⟩
          have HO9 := hid (show y9.w.ownsRow V.heap.size 40 3 v' (fld l k1 k2 (d : Int) out0 (k + 1)).length ((fld l k1 k2 (d : Int) out0 (k + 1)).flatMap Sp.cs) by
            rw [HNX.out, HAP.out, List.length_append, HFN.out, List.flatMap_append]
            exact hown')
          have HA9 := hid hA8
          clear hO9 hA9 hA8 hw1 hgrow hown' hrb hbz hsz9
          go_wp2_with fail
          go_roundw
          case rel => exact BCL.mk (k + 1) y9 (by omega) (by go_num) HO9.out HA9.out
          case measure => first | (simp [intOf]; done) | (simp [intOf]; omega)
          

        subst hsb
        have HJN := hid (show fld l k1 k2 (d : Int) out0 (k + 1) = init ++ [(⟨(d : Int), sa, te⟩ : Sp)] by rw [HNX.out, hFL, addP_snoc, if_pos ⟨rfl, rfl⟩])
        have HFL := hid hFL
        clear hFL
        go_upto_region 22 with (fail)
        obtain ⟨z0, hz0⟩ : ∃ u : After z9.w, u.w = z9.w := ⟨After.here _, rfl⟩
        rw [← hz0]
        clear hz0
        refine wp_region_since (by kernel_rfl) (by kernel_rfl) ?_
        repeat (go_big_quiet_step (fail))
        refine wpQuiet_nil ?_
        intro uq
        have hoq := own_after HO.out uq.below
        have haq := own_after HAT.out uq.below
        have y3 := hoq.frozenAt (m * 3 + 2)
        have hge := (own_heap hoq).1
        have hst := (hoq.stored (m * 3 + 2) (.int .i64 te)).1
        rw [HFL.out, ← hm, sp_set, hm] at hst
        have hap : some gb ≠ some g := by
          rcases own_apart haq hoq (by decide) with h | h
          · cases h
          · exact h
        have hat := own_other (o := m * 3 + 2) (u := .int .i64 te) haq (.inr hap)
        have hB9 : Below V.heap.size V (uq.w.setCell ⟨g, m * 3 + 2, none⟩ (.int .i64 te)) := b_set (b_then z9.w_below uq.2) hge _
        have HST := hid hst; have HAT9 := hid hat; have HM := hid hm; have HB9 := hid hB9
        have c5 := cB uq
        have y4 := y2 uq
        clear hoq haq hst hat hm hB9 hap y0 cA cB
        go_upto_region 23 with (fail)
        go_region
        generalize hZ : World.drew _ = Z
        have hro : Z.ownsRow V.heap.size 40 3 (.slice (some ⟨g, 0, none⟩) (m + 1) oc) (m + 1) ((init ++ [(⟨(d : Int), sa, te⟩ : Sp)]).flatMap Sp.cs) := by rw [← hZ]; exact own_after HST.out ((Below.refl _ _).drew)
        have hra : Z.ownsRow V.heap.size 3 1 (.slice (some ⟨gb, 0, none⟩) (np + 1) cb) (np + 1) (ivA (atsA l (d : Int))) := by rw [← hZ]; exact own_after HAT9.out ((Below.refl _ _).drew)
        have hbz : Below V.heap.size V Z := by rw [← hZ]; exact HB9.out.drew
        obtain ⟨y9, rfl⟩ : ∃ y : After V, Z = y.w := ⟨⟨Z, hbz⟩, rfl⟩
        have HO9 := hid hro; have HA9 := hid hra
        clear hZ hro hra hbz y2 y3 y4 c5 hge n2 n2' n0 n1 w3 w4
        go_wp2_with fail
        go_roundw
        case rel => exact BCL.mk (k + 1) y9 (by omega) (by go_num) (by rw [HJN.out, List.length_append, HM.out]; exact HO9.out) HA9.out
        case measure => first | (simp [intOf]; done) | (simp [intOf]; omega)
end Go.Proofs.Ytdnjpfjiaomlgaa
