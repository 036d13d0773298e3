/- CalibrateOrder. -/
import Derived.Test.YtdnjpfjiaomlgaaW2
import Derived.Test.YtdnjpfjiaomlgaaCX
import Derived.Test.YtdnjpfjiaomlgaaC13
import Derived.Deep.DeepCutAuto
import Derived.IntWalk
namespace Go.Proofs.Ytdnjpfjiaomlgaa
open Go.RowKit
open Go.Lib (hid)

/-- A record put into a list, as cells. -/
theorem flat_put (t : Rc) : ∀ (m : List Rc) (i : Nat), i < m.length → (m.set i t).flatMap Rc.cs = (((((m.flatMap Rc.cs).set (i * 5) (.int .i64 t.d)).set (i * 5 + 1) (.int .i64 t.f)).set (i * 5 + 2) (.int .i64 t.k)).set (i * 5 + 3) (.int .i64 t.i)).set (i * 5 + 4) (.int .i64 t.o)
  | [], i, h => by simp at h
  | y :: m, 0, _ => by simp [Rc.cs]
  | y :: m, i + 1, h => by
    have ih := flat_put t m i (by simpa using h)
    rw [List.set_cons_succ, List.flatMap_cons, List.flatMap_cons, ih]
    have e : ∀ (xs : List Value) (o : Nat) (v : Value), (y.cs ++ xs).set ((i + 1) * 5 + o) v = y.cs ++ xs.set (i * 5 + o) v := fun xs o v => by
      rw [List.set_append_right _ _ (by rw [Rc.c5]; omega), Rc.c5, show (i + 1) * 5 + o - 5 = i * 5 + o by omega]
    have e0 : ∀ (xs : List Value) (v : Value), (y.cs ++ xs).set ((i + 1) * 5) v = y.cs ++ xs.set (i * 5) v := fun xs v => e xs 0 v
    rw [e0, e, e, e, e]
theorem whole_drew {P : Program} {Q : Exit → Act → World → Prop} {id : Nat} {a : Act} {V : World} {u : After V} {l : List Oper} (n : Nat) (hn : l.length = n) (hm : P.follows .mixedOrders = true)
    (h : wpAnyH P .any l.toArray (NoPanic Q) (Since V) n (Array.replicate n false) a u.w.drew) : (Code.region id l.toArray true).wp P Q a u.w := by
  subst hn
  exact wp_region_noPanic (wp_region_held_drew hm (S := Since V) ⟨⟨u.w.drew, b_drew u.2⟩, rfl⟩ (fun _ => h))
@[irreducible] def ORL (l : List Rc) (n k : Nat) (V : World) (g : Nat) (i : Value) (wr : World) : Prop := ∃ (j : Nat) (m : List Rc) (vs : List Value), j ≤ k ∧ i = .int .i64 j ∧ Hid (Turned l m) ∧ Hid (vs.take (n * 5) = m.flatMap Rc.cs) ∧ BoxV V g vs wr
theorem ORL.mk {l : List Rc} {n k : Nat} {V : World} {g : Nat} {i : Value} {wr : World} (j : Nat) {m : List Rc} {vs : List Value} (h1 : j ≤ k) (h2 : i = .int .i64 j) (h3 : Turned l m) (h4 : vs.take (n * 5) = m.flatMap Rc.cs) (h5 : BoxV V g vs wr) : ORL l n k V g i wr := by
  unfold ORL
  exact ⟨j, m, vs, h1, h2, hid h3, hid h4, h5⟩
theorem ORL.of {l : List Rc} {n k : Nat} {V : World} {g : Nat} {i : Value} {wr : World} (h : ORL l n k V g i wr) : ∃ (j : Nat) (m : List Rc) (vs : List Value), j ≤ k ∧ i = .int .i64 j ∧ Hid (Turned l m) ∧ Hid (vs.take (n * 5) = m.flatMap Rc.cs) ∧ BoxV V g vs wr := by
  unfold ORL at h
  exact h
theorem box_of {V w : World} {g : Nat} {cur : Array Value} {t : TypeId} (hB : Below V.heap.size V w) (hh : w.heap[g]? = some (.cells cur t (0, 0))) : BoxV V g cur.toList w :=
  ⟨hB, (Array.getElem?_eq_some_iff.1 hh).1, fun i v hi => by rw [cell_of_row w g i cur t (0, 0) hh]; simpa using hi, fun i _ => by simp [World.frozen?, hh]⟩
theorem box_rd {V w : World} {g n : Nat} {vs xs : List Value} (h : BoxV V g vs w) (ht : vs.take n = xs) : Rd w (some ⟨g, 0, none⟩) xs := .inr ⟨g, 0, rfl, h.size, fun j u hu => by
  rw [Nat.zero_add]
  refine h.cell j u ?_
  rw [← ht, List.getElem?_take] at hu
  split at hu
  · exact hu
  · cases hu⟩
theorem vs_at {vs : List Value} {n : Nat} {m : List Rc} (h : vs.take (n * 5) = m.flatMap Rc.cs) {j : Nat} (hj : j < m.length) (o : Nat) (ho : o < 5) : vs[j * 5 + o]? = (rc m j).cs[o]? := by
  have h1 := flat_at Rc.cs 5 Rc.c5 m j hj o ho
  rw [← h, List.getElem?_take] at h1
  split at h1
  · rw [h1, rc_eq hj]
  · exfalso
    rw [rc_eq hj] at h1
    rw [List.getElem?_eq_getElem (by rw [Rc.c5]; exact ho)] at h1
    cases h1
set_option maxRecDepth 100000 in
set_option maxHeartbeats 4000000 in
theorem corder_walk (l : List Rc) (nn : Nat) (hnn : l.length = nn) (a : Option Addr) (c : Nat) (hf : a = none → nn = 0 ∧ c = 0) (hc : nn ≤ c) (bs : List Int) (k : Nat) (hk : bs.length = k) (hbr : ∀ i, i < k → 0 ≤ bs.getD i 0 ∧ bs.getD i 0 ≤ 255) (ba : Option Addr) (bc : Nat) (hb : nn ≤ 9223372036854775807) (W : World) (hr : Rd W a (l.flatMap Rc.cs)) (hkb : k ≤ 9223372036854775807) (hrb : Rd W ba (bys bs)) :
    Calls Try.prog 8 #[.slice a nn c, .slice ba k bc] W fun e w' => e = .returned (.bool true) ∧ Below W.heap.size W w' := by
  have HN := hid hnn; have HR := hid (after_rd hr); have HF := hid hf
  have HK := hid hk; have HBR := hid hbr; have HRB := hid (after_rd hrb)
  clear hnn hr hf hk hbr hrb
  obtain ⟨i0, hi, hz0, hz1, hz2⟩ := info_parts info24
  go_enter Try.func8, Try.ntmps8
  go_wp2_with fail
  refine (met0 (sane42_any W)).mono ?_
  rintro e _ ⟨rfl, u1, rfl⟩
  by_cases hn40 : nn ≤ 40
  case neg =>
    have d0 : decide ((40 : Int) < (nn : Int)) = true := decide_eq_true (by omega)
    have d0' : decide (40 < nn) = true := decide_eq_true (by omega)
    go_wp2_with fail
    exact bodyPost_ret (v := .bool true) (by simp [results, Try.results8, go_sem]) rfl ⟨rfl, u1.2⟩
  have d0 : decide ((40 : Int) < (nn : Int)) = false := decide_eq_false (by omega)
  have d0' : decide (40 < nn) = false := decide_eq_false (by omega)
  go_wp2_with fail
  clear d0 d0'
  refine (ordadd_any l nn HN.out a c u1.w hn40 (HR.out u1)).mono ?_
  rintro e w9 ⟨v1, rfl, hi1, hB1⟩
  obtain ⟨u2, rfl⟩ : ∃ y : After W, w9 = y.w := ⟨u1.on hB1, rfl⟩
  obtain ⟨V, hV⟩ : ∃ V : World, V = u2.w := ⟨_, rfl⟩
  have hWV : Below W.heap.size W V := by rw [hV]; exact u2.w_below
  have RV := hid (fun v : After V => HR.out (After.to (b_then hWV v.2)))
  have RBV := hid (fun v : After V => HRB.out (After.to (b_then hWV v.2)))
  rw [← hV] at hi1
  rw [← hV]
  have HI0 := hid hi1
  clear hi1 hB1 hV
  go_upto_region 7 with (fail)
  go_upto_region 8 with (at_builtin; refine wpList_append_rd _ rfl (.tmp 25) (.tmp 26) 22 rfl V.heap.size 24 i0 (.agg #[.int .i64 0, .int .i64 0, .int .i64 0, .int .i64 0, .int .i64 0]) 5 40 und22 hi hz0 hz1 hz2 rfl (by decide) _ _ _ rfl (World.ownsRow_made V #[] 0 (Nat.le_refl _) (by unfold maxLen; omega) (by simp)) a nn c (l.flatMap Rc.cs) rfl (by rw [flat_len Rc.cs 5 Rc.c5, HN.out]) ((RV.out (After.here V)).alloc _) (Rc.ones _) (by unfold maxLen; omega) (by omega) (by simp) ?_; intro v' w1 hown' hgrow)
  have ho : w1.ownsRow V.heap.size 24 5 v' nn (l.flatMap Rc.cs) := by simpa using hown'
  have hB1 : Below V.heap.size V w1 := (own_below (World.ownsRow_made V #[] 0 (base := V.heap.size) (size := 5) (Nat.le_refl _) (by unfold maxLen; omega) (by simp)) hgrow (by simp) |> (((Below.refl V.heap.size V).alloc (Nat.le_refl _) _).trans ·))
  clear hown' hgrow
  rcases Nat.eq_zero_or_pos nn with rfl | hpos
  · obtain ⟨ta, tc, rfl, -, -, hR0, -⟩ := own_slice ho
    have HR0 := hid hR0
    have HEQ := hid (show allA l 0 = allA l 0 from rfl)
    have HWR := hid (b_then hWV hB1)
    have HI1 := hid (HI0.out.below hB1)
    clear ho hR0
    have RB1 := hid (fun v : After w1 => RBV.out (After.to (b_then hB1 v.2)))
    go_wp2_with fail
    go_loopw [30] (fun i wr => ∃ j : Nat, j ≤ k ∧ i = .int .i64 j ∧ wr = w1) (fun i _ => k - (intOf i).toNat)
    case atStart => exact ⟨0, Nat.zero_le _, rfl, rfl⟩
    case round =>
      obtain ⟨j, hj, rfl, rfl⟩ := hrel
      by_cases hlt : j < k
      case neg =>
        have d1 : decide ((j : Int) < (k : Int)) = false := decide_eq_false (by omega)
        have d1' : decide (j < k) = false := decide_eq_false hlt
        go_wp2_with fail
        refine (ordadd_any (l) 0 HN.out ta tc _ hn40 HR0.out).mono ?_
        rintro e w9 ⟨v2, rfl, hi2, hB2⟩
        have hi1 := HI1.out.below hB2
        have HB2 := hid (b_then HWR.out hB2)
        rcases hS : (allA l 0).isSome with _ | _
        · clear hi1 hi2 hB2
          go_wp2_with fail
          exact bodyPost_ret (v := .bool true) (by simp [results, Try.results8, go_sem]) rfl ⟨rfl, HB2.out⟩
        · obtain ⟨X, hA1⟩ := Option.isSome_iff_exists.1 hS
          rw [hA1] at hi1 hi2
          dsimp only [Option.getD] at hi1 hi2
          have hxl : X.length = 0 := (allA_some (by rw [HN.out]; omega) (by rw [HN.out]; omega) hA1).2.1
          have hxg : chkR X = 0 := chkR_ok (by omega) ((goodR_iff X).2 (allA_some (by rw [HN.out]; omega) (by rw [HN.out]; omega) hA1).1)
          obtain ⟨xa, xc, rfl, hR1, -, -⟩ := hi1.form hxl
          obtain ⟨ya, yc, rfl, hR2, -, -⟩ := hi2.form hxl
          have HXL := hid hxl; have HXG := hid hxg; have HR1 := hid hR1; have HR2 := hid hR2
          clear hi1 hi2 hB2 hA1 hS hxl hxg hR1 hR2
          have enn : ((0 : Int) == (0 : Int)) = true := by simp
          go_wp2_with fail
          refine (rsame_any X X 0 0 HXL.out HXL.out xa ya xc yc (by omega) w9 HR1.out HR2.out).mono ?_
          rintro e w8 ⟨rfl, hB8⟩
          rw [decide_eq_true rfl]
          have HR3 := hid (HR1.out.below hB8)
          have HB8 := hid (b_then HB2.out hB8)
          clear hB8
          go_wp2_with fail
          refine (check_any X 0 HXL.out xa xc w8 (by omega) HR3.out).mono ?_
          rintro e w7 ⟨rfl, hB7⟩
          rw [HXG.out]
          have HB7 := hid (b_then HB8.out hB7)
          clear hB7
          go_wp2_with fail
          exact bodyPost_ret (v := .bool true) (by simp [results, Try.results8, go_sem]) rfl ⟨rfl, HB7.out⟩
      have d1 : decide ((j : Int) < (k : Int)) = true := decide_eq_true (by omega)
      have d1' : decide (j < k) = true := decide_eq_true hlt
      have hjk : (j : Int) < (k : Int) := by omega
      obtain ⟨blk, off, rfl, hbl⟩ := (RB1.out (After.here wr)).addr (by rw [bys_len, HK.out]; omega)
      obtain ⟨x, hx⟩ : ∃ x, bs[j]? = some x := ⟨_, List.getElem?_eq_getElem (by rw [HK.out]; exact hlt)⟩
      have c0 := by_cell RB1.out hx (After.here wr)
      have c1 : wr.cell? ⟨blk, off + j, none⟩ = some (.int .u8 x) := c0
      have d2 : decide ((j : Int) < 0) = false := decide_eq_false (by omega)
      clear c0 hx
      go_wp2_with fail
      go_roundw
      case rel => exact ⟨j + 1, by omega, by go_num, by first | rfl | trivial⟩
      case measure => first | (simp [intOf]; done) | (simp [intOf]; omega)
  · obtain ⟨hl8, h8⟩ := ho
    rcases h8 with ⟨hv, hz⟩ | ⟨g, cap, cur, hv, hg, hh, hnc, hcm, hcs, ht⟩
    · omega
    subst hv
    have HBX0 := hid (box_of hB1 hh)
    have HT0 := hid ht
    have hzg : V.heap.size ≤ g := hg
    have hcapn : nn ≤ cap := hnc
    clear hl8 hh hnc hcm hcs ht hg
    go_wp2_with fail
    go_loopw [30] (fun i wr => ORL l nn k V g i wr) (fun i _ => k - (intOf i).toNat)
    case atStart => exact ORL.mk 0 (Nat.zero_le _) rfl (Turned.refl l) HT0.out HBX0.out
    case round =>
      clear HBX0 HT0
      obtain ⟨j, m, vs, hj, rfl, HT, HVS, hbx⟩ := hrel.of
      have HML := hid (show m.length = nn by rw [HT.out.len, HN.out])
      have hvl : nn * 5 ≤ vs.length := by
        have := congrArg List.length HVS.out
        rw [List.length_take, flat_len Rc.cs 5 Rc.c5, HML.out] at this
        omega
      obtain ⟨uw, huw⟩ : ∃ u : After V, u.w = wr := ⟨⟨wr, hbx.below⟩, rfl⟩
      have HBX := hid (huw ▸ hbx : BoxV V g vs uw.w)
      rw [← huw]
      clear hbx huw hrel
      have RB1 := RBV.out
      have HWR := hid (b_then hWV uw.2)
      have HI1 := hid (HI0.out.below uw.2)
      by_cases hlt : j < k
      case neg =>
        have d1 : decide ((j : Int) < (k : Int)) = false := decide_eq_false (by omega)
        have d1' : decide (j < k) = false := decide_eq_false hlt
        have HEQ := hid (show allA l nn = allA m nn by have := order_same HT.out (by rw [HN.out]; omega); rw [HN.out, HML.out] at this; exact this)
        have HRD := hid (box_rd HBX.out HVS.out)
        go_wp2_with fail
        refine (ordadd_any (m) nn HML.out (some ⟨g, 0, none⟩) cap _ hn40 HRD.out).mono ?_
        rintro e w9 ⟨v2, rfl, hi2, hB2⟩
        have hi1 := HI1.out.below hB2
        have HB2 := hid (b_then HWR.out hB2)
        rw [← HEQ.out] at hi2
        rw [← HEQ.out]
        rcases hS : (allA l nn).isSome with _ | _
        · clear hi1 hi2 hB2
          go_wp2_with fail
          exact bodyPost_ret (v := .bool true) (by simp [results, Try.results8, go_sem]) rfl ⟨rfl, HB2.out⟩
        · obtain ⟨X, hA1⟩ := Option.isSome_iff_exists.1 hS
          rw [hA1] at hi1 hi2
          dsimp only [Option.getD] at hi1 hi2
          have hxl : X.length = nn := (allA_some (by rw [HN.out]; omega) (by rw [HN.out]; omega) hA1).2.1
          have hxg : chkR X = 0 := chkR_ok (by omega) ((goodR_iff X).2 (allA_some (by rw [HN.out]; omega) (by rw [HN.out]; omega) hA1).1)
          obtain ⟨xa, xc, rfl, hR1, -, -⟩ := hi1.form hxl
          obtain ⟨ya, yc, rfl, hR2, -, -⟩ := hi2.form hxl
          have HXL := hid hxl; have HXG := hid hxg; have HR1 := hid hR1; have HR2 := hid hR2
          clear hi1 hi2 hB2 hA1 hS hxl hxg hR1 hR2
          have enn : ((nn : Int) == (nn : Int)) = true := by simp
          go_wp2_with fail
          refine (rsame_any X X nn nn HXL.out HXL.out xa ya xc yc (by omega) w9 HR1.out HR2.out).mono ?_
          rintro e w8 ⟨rfl, hB8⟩
          rw [decide_eq_true rfl]
          have HR3 := hid (HR1.out.below hB8)
          have HB8 := hid (b_then HB2.out hB8)
          clear hB8
          go_wp2_with fail
          refine (check_any X nn HXL.out xa xc w8 (by omega) HR3.out).mono ?_
          rintro e w7 ⟨rfl, hB7⟩
          rw [HXG.out]
          have HB7 := hid (b_then HB8.out hB7)
          clear hB7
          go_wp2_with fail
          exact bodyPost_ret (v := .bool true) (by simp [results, Try.results8, go_sem]) rfl ⟨rfl, HB7.out⟩
      have d1 : decide ((j : Int) < (k : Int)) = true := decide_eq_true (by omega)
      have d1' : decide (j < k) = true := decide_eq_true hlt
      have hjk : (j : Int) < (k : Int) := by omega
      obtain ⟨blk, off, rfl, hbl⟩ := (RBV.out uw).addr (by rw [bys_len, HK.out]; omega)
      obtain ⟨x, hx⟩ : ∃ x, bs[j]? = some x := ⟨_, List.getElem?_eq_getElem (by rw [HK.out]; exact hlt)⟩
      have hxr := HBR.out j hlt
      rw [List.getD_eq_getElem?_getD, hx] at hxr
      dsimp only [Option.getD] at hxr
      have c1 := by_cell RBV.out hx uw
      clear hx RB1
      by_cases hjn : j < nn
      case neg =>
        have d2 : decide ((j : Int) < (nn : Int)) = false := decide_eq_false (by omega)
        have d2' : decide (j < nn) = false := decide_eq_false hjn
        go_wp2_with fail
        go_roundw
        case rel => exact ORL.mk (j + 1) (by omega) (by go_num) HT.out HVS.out HBX.out
        case measure => first | (simp [intOf]; done) | (simp [intOf]; omega)
      case pos =>
        have d2 : decide ((j : Int) < (nn : Int)) = true := decide_eq_true (by omega)
        have d2' : decide (j < nn) = true := decide_eq_true hjn
        obtain ⟨sp, hsp⟩ : ∃ y, (nn : Int) - (j : Int) = y := ⟨_, rfl⟩
        obtain ⟨rm, hrm⟩ : ∃ y, x.tmod sp = y := ⟨_, rfl⟩
        have r1 := Int.emod_nonneg x (show sp ≠ 0 by omega)
        have r2 := Int.emod_lt_of_pos x (show 0 < sp by omega)
        have hre : x.tmod sp = x % sp := Int.tmod_eq_emod_of_nonneg hxr.1
        rw [hre] at hrm
        rw [hrm] at r1 r2 hre
        obtain ⟨kN, hkN⟩ : ∃ q : Nat, (j : Int) + rm = (q : Int) := ⟨((j : Int) + rm).toNat, by omega⟩
        have hk0 : kN < nn := by omega
        have hk1 : (0 : Int) ≤ (kN : Int) := by omega
        have hk2 : (kN : Int) < (nn : Int) := by omega
        have hj0 : (0 : Int) ≤ (j : Int) := by omega
        have hj2 : (j : Int) < (nn : Int) := by omega
        have hsp0 : ¬ sp = 0 := by omega
        have e1 : (sp == 0) = false := beq_eq_false_iff_ne.2 hsp0
        have ws : IntKind.i64.wrap sp = sp := IntWalk.i64_in _ (by omega)
        have wr2 : IntKind.i64.wrap rm = rm := IntWalk.i64_in _ (by omega)
        have wk : IntKind.i64.wrap (kN : Int) = (kN : Int) := IntWalk.i64_in _ (by omega)
        have wx : IntKind.i64.wrap x = x := IntWalk.i64_in _ (by omega)
        obtain ⟨⟨xd, xf, xk, xi, xo⟩, hx⟩ : ∃ t, rc m j = t := ⟨_, rfl⟩
        obtain ⟨⟨yd, yf, yk, yi, yo⟩, hy⟩ : ∃ t, rc m kN = t := ⟨_, rfl⟩
        have Hx := hid hx; have Hy := hid hy
        clear hx hy
        go_upto_region 13 with (fail)
        clear c1 ws wr2 wx e1 hrm hre r1 r2 hxr
        refine whole_drew 16 rfl (by kernel_rfl) ?_
        obtain ⟨u0, hu0⟩ : ∃ u : After V, u.w = uw.w.drew := ⟨uw.on ((Below.refl _ _).drew), rfl⟩
        rw [← hu0]
        have hb0 := hid (HBX.out.after ((Below.refl _ _).drew : Below uw.w.heap.size uw.w uw.w.drew))
        rw [← hu0] at hb0
        have hb0 := hb0.out
        clear hu0
        have a0 := hb0.cell (j * 5) (.int .i64 xd) (by have h := vs_at HVS.out (j := j) (by rw [HML.out]; omega) 0 (by omega); rw [Hx.out] at h; exact h)
        have fa0 := hb0.froz (j * 5) (by omega)
        have b0 := hb0.cell (kN * 5) (.int .i64 yd) (by have h := vs_at HVS.out (j := kN) (by rw [HML.out]; omega) 0 (by omega); rw [Hy.out] at h; exact h)
        have fb0 := hb0.froz (kN * 5) (by omega)
        have a1 := hb0.cell (j * 5 + 1) (.int .i64 xf) (by have h := vs_at HVS.out (j := j) (by rw [HML.out]; omega) 1 (by omega); rw [Hx.out] at h; exact h)
        have fa1 := hb0.froz (j * 5 + 1) (by omega)
        have b1 := hb0.cell (kN * 5 + 1) (.int .i64 yf) (by have h := vs_at HVS.out (j := kN) (by rw [HML.out]; omega) 1 (by omega); rw [Hy.out] at h; exact h)
        have fb1 := hb0.froz (kN * 5 + 1) (by omega)
        have a2 := hb0.cell (j * 5 + 2) (.int .i64 xk) (by have h := vs_at HVS.out (j := j) (by rw [HML.out]; omega) 2 (by omega); rw [Hx.out] at h; exact h)
        have fa2 := hb0.froz (j * 5 + 2) (by omega)
        have b2 := hb0.cell (kN * 5 + 2) (.int .i64 yk) (by have h := vs_at HVS.out (j := kN) (by rw [HML.out]; omega) 2 (by omega); rw [Hy.out] at h; exact h)
        have fb2 := hb0.froz (kN * 5 + 2) (by omega)
        have a3 := hb0.cell (j * 5 + 3) (.int .i64 xi) (by have h := vs_at HVS.out (j := j) (by rw [HML.out]; omega) 3 (by omega); rw [Hx.out] at h; exact h)
        have fa3 := hb0.froz (j * 5 + 3) (by omega)
        have b3 := hb0.cell (kN * 5 + 3) (.int .i64 yi) (by have h := vs_at HVS.out (j := kN) (by rw [HML.out]; omega) 3 (by omega); rw [Hy.out] at h; exact h)
        have fb3 := hb0.froz (kN * 5 + 3) (by omega)
        have a4 := hb0.cell (j * 5 + 4) (.int .i64 xo) (by have h := vs_at HVS.out (j := j) (by rw [HML.out]; omega) 4 (by omega); rw [Hx.out] at h; exact h)
        have fa4 := hb0.froz (j * 5 + 4) (by omega)
        have b4 := hb0.cell (kN * 5 + 4) (.int .i64 yo) (by have h := vs_at HVS.out (j := kN) (by rw [HML.out]; omega) 4 (by omega); rw [Hy.out] at h; exact h)
        have fb4 := hb0.froz (kN * 5 + 4) (by omega)
        refine h_take 0 (x := ?_) rfl (by kernel_rfl) (by kernel_rfl) (by kernel_rfl) (fun _ _ _ h => h) (by rfl) (fun v => ?_) ?_
        rotate_left
        · (go_simp; try with_reducible rfl)
        try simp only [Act.put, List.setIfInBounds_toArray, List.set_cons_zero, List.set_cons_succ]
        refine h_take 1 (x := ?_) rfl (by kernel_rfl) (by kernel_rfl) (by kernel_rfl) (fun _ _ _ h => h) (by rfl) (fun v => ?_) ?_
        rotate_left
        · (go_simp; try with_reducible rfl)
        try simp only [Act.put, List.setIfInBounds_toArray, List.set_cons_zero, List.set_cons_succ]
        refine h_take 2 (x := ?_) rfl (by kernel_rfl) (by kernel_rfl) (by kernel_rfl) (fun _ _ _ h => h) (by rfl) (fun v => ?_) ?_
        rotate_left
        · (go_simp; try with_reducible rfl)
        try simp only [Act.put, List.setIfInBounds_toArray, List.set_cons_zero, List.set_cons_succ]
        refine h_take 3 (x := ?_) rfl (by kernel_rfl) (by kernel_rfl) (by kernel_rfl) (fun _ _ _ h => h) (by rfl) (fun v => ?_) ?_
        rotate_left
        · (go_simp; try with_reducible rfl)
        try simp only [Act.put, List.setIfInBounds_toArray, List.set_cons_zero, List.set_cons_succ]
        refine h_take 4 (x := ?_) rfl (by kernel_rfl) (by kernel_rfl) (by kernel_rfl) (fun _ _ _ h => h) (by rfl) (fun v => ?_) ?_
        rotate_left
        · (go_simp; try with_reducible rfl)
        try simp only [Act.put, List.setIfInBounds_toArray, List.set_cons_zero, List.set_cons_succ]
        refine h_take 5 (x := ?_) rfl (by kernel_rfl) (by kernel_rfl) (by kernel_rfl) (fun _ _ _ h => h) (by rfl) (fun v => ?_) ?_
        rotate_left
        · (go_simp; try with_reducible rfl)
        try simp only [Act.put, List.setIfInBounds_toArray, List.set_cons_zero, List.set_cons_succ]
        refine h_take 6 (x := ?_) rfl (by kernel_rfl) (by kernel_rfl) (by kernel_rfl) (fun _ _ _ h => h) (by rfl) (fun v => ?_) ?_
        rotate_left
        · (go_simp; try with_reducible rfl)
        try simp only [Act.put, List.setIfInBounds_toArray, List.set_cons_zero, List.set_cons_succ]
        refine h_take 8 (x := ?_) rfl (by kernel_rfl) (by kernel_rfl) (by kernel_rfl) (fun _ _ _ h => h) (by rfl) (fun v => ?_) ?_
        rotate_left
        · (go_simp; try with_reducible rfl)
        try simp only [Act.put, List.setIfInBounds_toArray, List.set_cons_zero, List.set_cons_succ]
        refine h_take 9 (x := ?_) rfl (by kernel_rfl) (by kernel_rfl) (by kernel_rfl) (fun _ _ _ h => h) (by rfl) (fun v => ?_) ?_
        rotate_left
        · (go_simp; try with_reducible rfl)
        try simp only [Act.put, List.setIfInBounds_toArray, List.set_cons_zero, List.set_cons_succ]
        refine h_take 10 (x := ?_) rfl (by kernel_rfl) (by kernel_rfl) (by kernel_rfl) (fun _ _ _ h => h) (by rfl) (fun v => ?_) ?_
        rotate_left
        · (go_simp; try with_reducible rfl)
        try simp only [Act.put, List.setIfInBounds_toArray, List.set_cons_zero, List.set_cons_succ]
        refine h_two 7 11 (by kernel_rfl) rfl rfl (fun K hK => ?_) (fun K hK => ?_)
        · go_simp
          refine hK _ u0 ?_
          clear hK K
          try simp only [Act.put, List.setIfInBounds_toArray, List.set_cons_zero, List.set_cons_succ]
          refine h_step 11 (by kernel_rfl) rfl (fun K hK => ?_)
          go_simp
          refine hK _ u0 ?_
          clear hK K
          try simp only [Act.put, List.setIfInBounds_toArray, List.set_cons_zero, List.set_cons_succ]
          refine h_take 12 (x := ?_) rfl (by kernel_rfl) (by kernel_rfl) (by kernel_rfl) (fun _ _ _ h => h) (by rfl) (fun v => ?_) ?_
          rotate_left
          · (go_simp; try with_reducible rfl)
          try simp only [Act.put, List.setIfInBounds_toArray, List.set_cons_zero, List.set_cons_succ]
          refine h_step 13 (by kernel_rfl) rfl (fun K hK => ?_)
          go_simp
          generalize hZ : World.setCell _ _ _ = Z
          have hb1 := (((((hb0.set1 hzg (j * 5) (.int .i64 yd)).set1 hzg (j * 5 + 1) (.int .i64 yf)).set1 hzg (j * 5 + 2) (.int .i64 yk)).set1 hzg (j * 5 + 3) (.int .i64 yi)).set1 hzg (j * 5 + 4) (.int .i64 yo))
          rw [hZ] at hb1
          obtain ⟨z1, rfl⟩ : ∃ z : After V, Z = z.w := ⟨⟨Z, hb1.below⟩, rfl⟩
          clear hZ a0 fa0 b0 fb0 a1 fa1 b1 fb1 a2 fa2 b2 fb2 a3 fa3 b3 fb3 a4 fa4 b4 fb4
          have b0 := hb1.cell (kN * 5) _ (List.getElem?_eq_getElem (by simp only [List.length_set]; omega))
          have fb0 := hb1.froz (kN * 5) (by simp only [List.length_set]; omega)
          have b1 := hb1.cell (kN * 5 + 1) _ (List.getElem?_eq_getElem (by simp only [List.length_set]; omega))
          have fb1 := hb1.froz (kN * 5 + 1) (by simp only [List.length_set]; omega)
          have b2 := hb1.cell (kN * 5 + 2) _ (List.getElem?_eq_getElem (by simp only [List.length_set]; omega))
          have fb2 := hb1.froz (kN * 5 + 2) (by simp only [List.length_set]; omega)
          have b3 := hb1.cell (kN * 5 + 3) _ (List.getElem?_eq_getElem (by simp only [List.length_set]; omega))
          have fb3 := hb1.froz (kN * 5 + 3) (by simp only [List.length_set]; omega)
          have b4 := hb1.cell (kN * 5 + 4) _ (List.getElem?_eq_getElem (by simp only [List.length_set]; omega))
          have fb4 := hb1.froz (kN * 5 + 4) (by simp only [List.length_set]; omega)
          refine hK _ z1 ?_
          clear hK K
          try simp only [Act.put, List.setIfInBounds_toArray, List.set_cons_zero, List.set_cons_succ]
          refine h_take 14 (x := ?_) rfl (by kernel_rfl) (by kernel_rfl) (by kernel_rfl) (fun _ _ _ h => h) (by rfl) (fun v => ?_) ?_
          rotate_left
          · (go_simp; try with_reducible rfl)
          try simp only [Act.put, List.setIfInBounds_toArray, List.set_cons_zero, List.set_cons_succ]
          refine h_step 15 (by kernel_rfl) rfl (fun K hK => ?_)
          go_simp
          generalize hZ : World.setCell _ _ _ = Z
          have hb2 := (((((hb1.set1 hzg (kN * 5) (.int .i64 xd)).set1 hzg (kN * 5 + 1) (.int .i64 xf)).set1 hzg (kN * 5 + 2) (.int .i64 xk)).set1 hzg (kN * 5 + 3) (.int .i64 xi)).set1 hzg (kN * 5 + 4) (.int .i64 xo))
          rw [hZ] at hb2
          obtain ⟨z2, rfl⟩ : ∃ z : After V, Z = z.w := ⟨⟨Z, hb2.below⟩, rfl⟩
          clear hZ b0 fb0 b1 fb1 b2 fb2 b3 fb3 b4 fb4
          refine hK _ z2 ?_
          clear hK K
          try simp only [Act.put, List.setIfInBounds_toArray, List.set_cons_zero, List.set_cons_succ]
          refine wpAnyH_done (by kernel_rfl) ?_ _
          refine NoPanic.normal ?_
          have HB2 := hid hb2
          clear hb0 hb1 hb2
          go_wp2_with fail
          go_roundw
          case rel => exact ORL.mk (j + 1) (by omega) (by go_num) (HT.out.swap (i := j) (k := kN) (by rw [HML.out]; omega) (by rw [HML.out]; omega)) (by
            rw [swapL, flat_put _ _ _ (by rw [List.length_set, HML.out]; omega), flat_put _ _ _ (by rw [HML.out]; omega), Hx.out, Hy.out, ← HVS.out]
            simp only [List.take_set]) HB2.out
          case measure => first | (simp [intOf]; done) | (simp [intOf]; omega)
          
        · go_simp
          refine hK _ u0 ?_
          clear hK K
          try simp only [Act.put, List.setIfInBounds_toArray, List.set_cons_zero, List.set_cons_succ]
          refine h_step 7 (by kernel_rfl) rfl (fun K hK => ?_)
          go_simp
          refine hK _ u0 ?_
          clear hK K
          try simp only [Act.put, List.setIfInBounds_toArray, List.set_cons_zero, List.set_cons_succ]
          refine h_take 12 (x := ?_) rfl (by kernel_rfl) (by kernel_rfl) (by kernel_rfl) (fun _ _ _ h => h) (by rfl) (fun v => ?_) ?_
          rotate_left
          · (go_simp; try with_reducible rfl)
          try simp only [Act.put, List.setIfInBounds_toArray, List.set_cons_zero, List.set_cons_succ]
          refine h_step 13 (by kernel_rfl) rfl (fun K hK => ?_)
          go_simp
          generalize hZ : World.setCell _ _ _ = Z
          have hb1 := (((((hb0.set1 hzg (j * 5) (.int .i64 yd)).set1 hzg (j * 5 + 1) (.int .i64 yf)).set1 hzg (j * 5 + 2) (.int .i64 yk)).set1 hzg (j * 5 + 3) (.int .i64 yi)).set1 hzg (j * 5 + 4) (.int .i64 yo))
          rw [hZ] at hb1
          obtain ⟨z1, rfl⟩ : ∃ z : After V, Z = z.w := ⟨⟨Z, hb1.below⟩, rfl⟩
          clear hZ a0 fa0 b0 fb0 a1 fa1 b1 fb1 a2 fa2 b2 fb2 a3 fa3 b3 fb3 a4 fa4 b4 fb4
          have b0 := hb1.cell (kN * 5) _ (List.getElem?_eq_getElem (by simp only [List.length_set]; omega))
          have fb0 := hb1.froz (kN * 5) (by simp only [List.length_set]; omega)
          have b1 := hb1.cell (kN * 5 + 1) _ (List.getElem?_eq_getElem (by simp only [List.length_set]; omega))
          have fb1 := hb1.froz (kN * 5 + 1) (by simp only [List.length_set]; omega)
          have b2 := hb1.cell (kN * 5 + 2) _ (List.getElem?_eq_getElem (by simp only [List.length_set]; omega))
          have fb2 := hb1.froz (kN * 5 + 2) (by simp only [List.length_set]; omega)
          have b3 := hb1.cell (kN * 5 + 3) _ (List.getElem?_eq_getElem (by simp only [List.length_set]; omega))
          have fb3 := hb1.froz (kN * 5 + 3) (by simp only [List.length_set]; omega)
          have b4 := hb1.cell (kN * 5 + 4) _ (List.getElem?_eq_getElem (by simp only [List.length_set]; omega))
          have fb4 := hb1.froz (kN * 5 + 4) (by simp only [List.length_set]; omega)
          refine hK _ z1 ?_
          clear hK K
          try simp only [Act.put, List.setIfInBounds_toArray, List.set_cons_zero, List.set_cons_succ]
          refine h_take 14 (x := ?_) rfl (by kernel_rfl) (by kernel_rfl) (by kernel_rfl) (fun _ _ _ h => h) (by rfl) (fun v => ?_) ?_
          rotate_left
          · (go_simp; try with_reducible rfl)
          try simp only [Act.put, List.setIfInBounds_toArray, List.set_cons_zero, List.set_cons_succ]
          refine h_step 15 (by kernel_rfl) rfl (fun K hK => ?_)
          go_simp
          generalize hZ : World.setCell _ _ _ = Z
          have hb2 := (((((hb1.set1 hzg (kN * 5) (.int .i64 xd)).set1 hzg (kN * 5 + 1) (.int .i64 xf)).set1 hzg (kN * 5 + 2) (.int .i64 xk)).set1 hzg (kN * 5 + 3) (.int .i64 xi)).set1 hzg (kN * 5 + 4) (.int .i64 xo))
          rw [hZ] at hb2
          obtain ⟨z2, rfl⟩ : ∃ z : After V, Z = z.w := ⟨⟨Z, hb2.below⟩, rfl⟩
          clear hZ b0 fb0 b1 fb1 b2 fb2 b3 fb3 b4 fb4
          refine hK _ z2 ?_
          clear hK K
          try simp only [Act.put, List.setIfInBounds_toArray, List.set_cons_zero, List.set_cons_succ]
          refine wpAnyH_done (by kernel_rfl) ?_ _
          refine NoPanic.normal ?_
          have HB2 := hid hb2
          clear hb0 hb1 hb2
          go_wp2_with fail
          go_roundw
          case rel => exact ORL.mk (j + 1) (by omega) (by go_num) (HT.out.swap (i := j) (k := kN) (by rw [HML.out]; omega) (by rw [HML.out]; omega)) (by
            rw [swapL, flat_put _ _ _ (by rw [List.length_set, HML.out]; omega), flat_put _ _ _ (by rw [HML.out]; omega), Hx.out, Hy.out, ← HVS.out]
            simp only [List.take_set]) HB2.out
          case measure => first | (simp [intOf]; done) | (simp [intOf]; omega)
          
end Go.Proofs.Ytdnjpfjiaomlgaa
namespace Go.Proofs.Ytdnjpfjiaomlgaa.Co8
open Go.ChangeShapes Go.WideShapes Go.ChangeAt Go.RowKit Go.Joins

theorem own : ownKnob Try.prog.godebug = none := by kernel_rfl
theorem laidOut : laidOutB Try.prog = true := by kernel_rfl

set_option maxRecDepth 100000 in
theorem lifted (os : Os) (started : os.Started) (H : Type) (enc : TypeId × Value → H) :
    ReturnsInHanded {} Try.checked os 8 .any (Rows.calibrateOrderSpec.pre6 enc Try.prog Try.f8 Rows.calibrateOrderRow.domain false) (Rows.calibrateOrderSpec.post enc Try.prog Try.f8 false true false false) := by
  refine returnsInHanded_of_change (C := Try.checked) own started (by kernel_rfl) Try.func8
    (ChangeSpec.witness6 (enc := enc) (C := Try.checked) false ⟨#[], #[.slice none 0 0, .slice none 0 0], []⟩ 8 (by kernel_rfl) (by kernel_rfl) (by kernel_rfl) (by kernel_rfl)) ?_
  intro W base args ds gs before hval0 hW hcnd _
  have hval : ∀ (j : Nat) t v, Try.f8.params[j]? = some t → args[j]? = some v → Value.okWide Try.prog W .any base t v := hval0
  have hW' := hW
  obtain ⟨p, q, hA0, hV, rfl, hfz, hnd⟩ := hW
  have hA : DataW.TrodAll enc Try.prog W 0 (fun _ => true) true Try.f8.params.toList args.toList ds p := hA0
  rw [Try.params8] at hA hval
  obtain ⟨v0, vs0, d0, ds0, p0, q0, hargs, rfl, rfl, h0, r0⟩ := trodAll_cons hA
  obtain ⟨v1, vs1, d1, ds1, p1, q1, rfl, rfl, rfl, h1, r1⟩ := trodAll_cons r0
  obtain ⟨rfl, rfl, rfl⟩ := trodAll_nil r1
  obtain rfl : args = #[v0, v1] := by cases args; simp_all
  obtain ⟨rfl, rfl⟩ := trodVars_none hV
  have k0 := h0
  have lt0 : ∀ x ∈ p0, x.block < W.heap.size := by obtain ⟨m, hm⟩ := k0; exact DataW.trod_lt m _ _ _ hm
  obtain ⟨xa0, xn0, xc0, rfl⟩ := okWide_slice Try.underlying22 (hval 0 22 v0 rfl rfl)
  obtain ⟨m0, hm0⟩ := h0
  obtain ⟨a0, n0, c0, e0, lc0, mc0, fz0, ⟨l0, ln0, rd0⟩⟩ := open_rcs hm0
  cases e0
  have nb0 := Nat.le_trans lc0 (max_len mc0)
  have k1 := h1
  have lt1 : ∀ x ∈ p1, x.block < W.heap.size := by obtain ⟨m, hm⟩ := k1; exact DataW.trod_lt m _ _ _ hm
  obtain ⟨xa1, xn1, xc1, rfl⟩ := okWide_slice Try.underlying44 (hval 1 44 v1 rfl rfl)
  obtain ⟨m1, hm1⟩ := h1
  obtain ⟨a1, n1, c1, e1, lc1, mc1, fz1, ⟨l1, ln1, rg1, rd1⟩⟩ := open_u8s hm1
  cases e1
  have nb1 := Nat.le_trans lc1 (max_len mc1)
  clear hA0 hval0
  refine (corder_walk l0 xn0 ln0 xa0 xc0 fz0 lc0 l1 xn1 ln1 rg1 xa1 xc1 nb0 W rd0 nb1 rd1).mono fun e W' ⟨he, bel⟩ => ?_
  subst he
  exact ⟨_, rfl, _, _, _, [], _, [], hW', trodAll_mk1 (shut_bool Try.underlying4 _), (trodAll_cons_mk (Below.trod laidOut (by kernel_rfl) (of_decide_eq_true (by kernel_rfl)) k0 bel lt0) (trodAll_cons_mk (Below.trod laidOut (by kernel_rfl) (of_decide_eq_true (by kernel_rfl)) k1 bel lt1) trodAll_mk0)), rfl, bel.frame _, fun h => by cases h⟩

theorem over : Rows.calibrateOrderRow.holds Try.pinned (OpenSpec.ofChange Rows.calibrateOrderSpec) :=
  OpenClaim.holds_of_wide 8 Try.f8 rfl rfl rfl rfl rfl rfl rfl ⟨rfl, rfl, rfl, rfl, rfl⟩ rfl rfl rfl rfl rfl (by kernel_rfl) Try.func8 (by show joinedFacts Try.prog _ _ _ _ = true; kernel_rfl)
    (of_decide_eq_true (by kernel_rfl)) (by unfold Func.isWrapper; first | (rw [if_pos (by decide +kernel)]; kernel_rfl) | (rw [if_neg (by decide +kernel)]; exact ⟨rfl, rfl⟩))
    (fun os started H enc _ => lifted os started H enc)
end Go.Proofs.Ytdnjpfjiaomlgaa.Co8
namespace Go.Proofs.Ytdnjpfjiaomlgaa
/-- The statement. -/
theorem calibrateOrder_holds : Rows.CalibrateOrderSaid := Co8.over
end Go.Proofs.Ytdnjpfjiaomlgaa
