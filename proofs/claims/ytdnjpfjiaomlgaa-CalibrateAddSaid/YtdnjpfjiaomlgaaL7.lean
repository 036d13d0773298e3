/- CalibrateAdd. -/
import Derived.Test.YtdnjpfjiaomlgaaW
import Derived.Test.YtdnjpfjiaomlgaaCX
import Derived.Deep.DeepCutAuto
import Derived.IntWalk
namespace Go.Proofs.Ytdnjpfjiaomlgaa
open Go.RowKit
open Go.Lib (hid)

/-- Does one of the first j records count instead? -/
def latJ (l : List Rc) (t : Rc) (dev pos kn : Int) (j : Nat) : Bool := (List.range j).any fun i => latR t dev pos kn (rc l i)
theorem latJ_next (l : List Rc) (t : Rc) (dev pos kn : Int) (j : Nat) : latJ l t dev pos kn (j + 1) = (latJ l t dev pos kn j || latR t dev pos kn (rc l j)) := by
  unfold latJ
  rw [List.range_succ, List.any_append]
  simp
theorem latJ_none {l : List Rc} {t : Rc} {dev pos kn : Int} {j : Nat} (h : latJ l t dev pos kn j = false) : ∀ i, i < j → latR t dev pos kn (rc l i) = false := fun i hi => by
  have := List.any_eq_false.1 h i (List.mem_range.2 hi)
  simpa using this
theorem latJ_some {l : List Rc} {t : Rc} {dev pos kn : Int} {j : Nat} (h : latJ l t dev pos kn j = true) : ∃ i, i < j ∧ latR t dev pos kn (rc l i) = true := by
  obtain ⟨i, hi, h⟩ := List.any_eq_true.1 h
  exact ⟨i, List.mem_range.1 hi, h⟩
@[irreducible] def LTL (l : List Rc) (t : Rc) (dev pos kn : Int) (n : Nat) (V : World) (s i : Value) (wr : World) : Prop := ∃ (j : Nat) (b : Bool) (z : After V), j ≤ n ∧ i = .int .i64 j ∧ s = .bool b ∧ wr = z.w ∧ Hid (latJ l t dev pos kn j = b)
theorem LTL.mk {l : List Rc} {t : Rc} {dev pos kn : Int} {n : Nat} {V : World} {s i : Value} (j : Nat) {b : Bool} (z : After V) (h1 : j ≤ n) (h2 : i = .int .i64 j) (h3 : latJ l t dev pos kn j = b) (hs : s = .bool b := by rfl) : LTL l t dev pos kn n V s i z.w := by
  unfold LTL
  exact ⟨j, b, z, h1, h2, hs, rfl, hid h3⟩
theorem LTL.of {l : List Rc} {t : Rc} {dev pos kn : Int} {n : Nat} {V : World} {s i : Value} {wr : World} (h : LTL l t dev pos kn n V s i wr) : ∃ (j : Nat) (b : Bool) (z : After V), j ≤ n ∧ i = .int .i64 j ∧ s = .bool b ∧ wr = z.w ∧ Hid (latJ l t dev pos kn j = b) := by
  unfold LTL at h
  exact h
theorem atE_two {l x : List Rc} {dev pos kn : Int} (h1 : chkR l = 0) (h2 : chkR x = 0) : atE x dev pos kn = atE l dev pos kn := by
  unfold atE
  rw [h1, h2]
set_option maxRecDepth 100000 in
set_option maxHeartbeats 4000000 in
theorem cadd_walk (l : List Rc) (nn : Nat) (hnn : l.length = nn) (a : Option Addr) (c : Nat) (hf : a = none → nn = 0 ∧ c = 0) (_hc : nn ≤ c) (t : Rc) (dev pos kn : Int) (hb : nn ≤ 9223372036854775807) (W : World) (hr : Rd W a (l.flatMap Rc.cs)) :
    Calls Try.prog 7 #[.slice a nn c, .agg #[.int .i64 t.d, .int .i64 t.f, .int .i64 t.k, .int .i64 t.i, .int .i64 t.o], .int .i64 dev, .int .i64 pos, .int .i64 kn] W fun e w' => e = .returned (.bool true) ∧ Below W.heap.size W w' := by
  have HN := hid hnn; have HR := hid (after_rd hr); have HF := hid hf
  clear hnn hr hf
  go_enter Try.func7, Try.ntmps7
  go_upto_region 1 with (fail)
  obtain ⟨V, hV⟩ : ∃ V, V = (W.alloc (.cells #[.int .i64 t.d, .int .i64 t.f, .int .i64 t.k, .int .i64 t.i, .int .i64 t.o] 24)) := ⟨_, rfl⟩
  have t0 : ∀ v : After V, v.w.cell? ⟨W.heap.size, 0, none⟩ = some (.int .i64 t.d) := after_cell (by rw [hV]; first | (simp; done) | omega | (simp; omega)) (by rw [hV]; (repeat (first | with_reducible assumption | exact bn (by first | (simp; done) | omega | (simp; omega)) rfl | refine bo (by first | (simp; done) | omega | (simp; omega)) ?_)))
  have ft0 : ∀ v : After V, v.w.frozen? ⟨W.heap.size, 0, none⟩ = false := after_frozen (by rw [hV]; first | (simp; done) | omega | (simp; omega)) (by rw [hV]; (repeat (first | exact fn (by first | (simp; done) | omega | (simp; omega)) | refine fo (by first | (simp; done) | omega | (simp; omega)) ?_)))
  have t1 : ∀ v : After V, v.w.cell? ⟨W.heap.size, 1, none⟩ = some (.int .i64 t.f) := after_cell (by rw [hV]; first | (simp; done) | omega | (simp; omega)) (by rw [hV]; (repeat (first | with_reducible assumption | exact bn (by first | (simp; done) | omega | (simp; omega)) rfl | refine bo (by first | (simp; done) | omega | (simp; omega)) ?_)))
  have ft1 : ∀ v : After V, v.w.frozen? ⟨W.heap.size, 1, none⟩ = false := after_frozen (by rw [hV]; first | (simp; done) | omega | (simp; omega)) (by rw [hV]; (repeat (first | exact fn (by first | (simp; done) | omega | (simp; omega)) | refine fo (by first | (simp; done) | omega | (simp; omega)) ?_)))
  have t2 : ∀ v : After V, v.w.cell? ⟨W.heap.size, 2, none⟩ = some (.int .i64 t.k) := after_cell (by rw [hV]; first | (simp; done) | omega | (simp; omega)) (by rw [hV]; (repeat (first | with_reducible assumption | exact bn (by first | (simp; done) | omega | (simp; omega)) rfl | refine bo (by first | (simp; done) | omega | (simp; omega)) ?_)))
  have ft2 : ∀ v : After V, v.w.frozen? ⟨W.heap.size, 2, none⟩ = false := after_frozen (by rw [hV]; first | (simp; done) | omega | (simp; omega)) (by rw [hV]; (repeat (first | exact fn (by first | (simp; done) | omega | (simp; omega)) | refine fo (by first | (simp; done) | omega | (simp; omega)) ?_)))
  have t3 : ∀ v : After V, v.w.cell? ⟨W.heap.size, 3, none⟩ = some (.int .i64 t.i) := after_cell (by rw [hV]; first | (simp; done) | omega | (simp; omega)) (by rw [hV]; (repeat (first | with_reducible assumption | exact bn (by first | (simp; done) | omega | (simp; omega)) rfl | refine bo (by first | (simp; done) | omega | (simp; omega)) ?_)))
  have ft3 : ∀ v : After V, v.w.frozen? ⟨W.heap.size, 3, none⟩ = false := after_frozen (by rw [hV]; first | (simp; done) | omega | (simp; omega)) (by rw [hV]; (repeat (first | exact fn (by first | (simp; done) | omega | (simp; omega)) | refine fo (by first | (simp; done) | omega | (simp; omega)) ?_)))
  have t4 : ∀ v : After V, v.w.cell? ⟨W.heap.size, 4, none⟩ = some (.int .i64 t.o) := after_cell (by rw [hV]; first | (simp; done) | omega | (simp; omega)) (by rw [hV]; (repeat (first | with_reducible assumption | exact bn (by first | (simp; done) | omega | (simp; omega)) rfl | refine bo (by first | (simp; done) | omega | (simp; omega)) ?_)))
  have ft4 : ∀ v : After V, v.w.frozen? ⟨W.heap.size, 4, none⟩ = false := after_frozen (by rw [hV]; first | (simp; done) | omega | (simp; omega)) (by rw [hV]; (repeat (first | exact fn (by first | (simp; done) | omega | (simp; omega)) | refine fo (by first | (simp; done) | omega | (simp; omega)) ?_)))
  have zt : ∀ v : After V, W.heap.size < v.w.heap.size := after_size (by rw [hV]; first | (simp; done) | omega | (simp; omega))
  have hwV : Below W.heap.size W V := by rw [hV]; exact (by repeat (first | exact Below.refl _ _ | assumption | refine b_then ?_ (by assumption) | refine b_alloc ?_ _ | refine b_drewN ?_ _ | refine b_drew ?_ | refine b_set ?_ (by omega) _ | refine b_set ?_ (by simp) _))
  have WV := hid (after_below hwV)
  rw [← hV]
  obtain ⟨u0, hu⟩ : ∃ u : After V, u.w = V := ⟨After.here V, rfl⟩
  rw [← hu]
  clear hu hV
  have RV := hid (fun v : After V => HR.out (After.to (WV.out v)))
  go_wp2_with fail
  refine (met (sane42_any u0.w)).mono ?_
  rintro e _ ⟨rfl, u1, rfl⟩
  by_cases h300 : nn ≤ 300
  case neg =>
    have d0 : decide ((300 : Int) < (nn : Int)) = true := decide_eq_true (by omega)
    have d0' : decide (300 < nn) = true := decide_eq_true (by omega)
    go_wp2_with fail
    exact bodyPost_ret (v := .bool true) (by simp [results, Try.results7, go_sem]) rfl ⟨rfl, WV.out u1⟩
  have d0 : decide ((300 : Int) < (nn : Int)) = false := decide_eq_false (by omega)
  have d0' : decide (300 < nn) = false := decide_eq_false (by omega)
  go_wp2_with fail
  clear d0 d0'
  refine (met (rcheck_any l nn HN.out a c u1.w hb (RV.out u1))).mono ?_
  rintro e _ ⟨rfl, u2, rfl⟩
  by_cases hk : chkR l = 0
  case neg =>
    have hne : (chkR l != 0) = true := by simpa using hk
    clear hk
    go_wp2_with fail
    exact bodyPost_ret (v := .bool true) (by simp [results, Try.results7, go_sem]) rfl ⟨rfl, WV.out u2⟩
  rw [hk]
  have HC := hid hk; clear hk
  have h256 := (chkR_good HC.out).1
  rw [HN.out] at h256
  go_wp2_with fail
  refine (add_any l nn HN.out a c t HF.out u2.w hb (RV.out u2)).mono ?_
  rintro e w9 ⟨v1, rfl, hi1, hB1⟩
  obtain ⟨u3, rfl⟩ : ∃ y : After V, w9 = y.w := ⟨u2.on hB1, rfl⟩
  clear hB1
  by_cases hae : addE l t = 0
  case neg =>
    rw [addV, if_neg hae] at hi1
    obtain ⟨xa, xc, rfl, -, -, -⟩ := hi1.form (n := 0) rfl
    have hne : (addE l t != 0) = true := by simpa using hae
    clear hae hi1
    go_wp2_with fail
    exact bodyPost_ret (v := .bool true) (by simp [results, Try.results7, go_sem]) rfl ⟨rfl, WV.out u3⟩
  rw [addV, if_pos hae] at hi1
  rw [hae]
  have HAE := hid hae; clear hae
  have HC2 := hid (chkR_add HAE.out)
  have HXN := hid (show (addL l t).length = nn + 1 by rw [addL_len, HN.out])
  obtain ⟨xa, xc, rfl, hxr, -, -⟩ := hi1.form HXN.out
  obtain ⟨V3, hV3⟩ : ∃ V3 : World, V3 = u3.w := ⟨_, rfl⟩
  have hW3 : Below W.heap.size W V3 := by rw [hV3]; exact WV.out u3
  have hB3 : Below V.heap.size V V3 := by rw [hV3]; exact u3.w_below
  have RV3 := hid (upr hB3 RV.out)
  have HXR := hid (after_rd (hV3 ▸ hxr : Rd V3 xa ((addL l t).flatMap Rc.cs)))
  have t0 := upc hB3 t0
  have t1 := upc hB3 t1
  have t2 := upc hB3 t2
  have t3 := upc hB3 t3
  have t4 := upc hB3 t4
  have zt2 := upz hB3 zt
  rw [← hV3]
  obtain ⟨z3, hz3⟩ : ∃ z : After V3, z.w = V3 := ⟨After.here V3, rfl⟩
  rw [← hz3]
  clear hz3 hi1 hxr hV3
  go_wp2_with fail
  refine (met (at_any l nn HN.out a c dev pos kn z3.w hb (RV3.out z3))).mono ?_
  rintro e _ ⟨rfl, z4, rfl⟩
  obtain ⟨⟨A, B, S⟩, hA⟩ : ∃ q, atV l dev pos kn = q := ⟨_, rfl⟩
  rw [hA]
  dsimp only
  obtain ⟨E, hE⟩ : ∃ y, atE l dev pos kn = y := ⟨_, rfl⟩
  rw [hE]
  have HE := hid hE
  have HAV := hid hA
  clear hA hE
  go_wp2_with fail
  refine (met (at_any (addL l t) (nn + 1) HXN.out xa xc dev pos kn z4.w (by omega) (HXR.out z4))).mono ?_
  rintro e _ ⟨rfl, z6, rfl⟩
  rw [atE_two HC.out HC2.out, HE.out]
  have eE : (E != E) = false := by simp
  by_cases he : E = 0
  case neg =>
    have hne : (E != 0) = true := by simpa using he
    clear he
    go_wp2_with fail
    exact bodyPost_ret (v := .bool true) (by simp [results, Try.results7, go_sem]) rfl ⟨rfl, b_then hW3 z6.2⟩
  subst he
  have hat := atE_zero HE.out
  rw [atV_ok (show atE (addL l t) dev pos kn = 0 by rw [atE_two HC.out HC2.out, HE.out])]
  have HA := hid (show resR (fnd l dev pos kn) = (A, B, S) by rw [← atV_ok HE.out, HAV.out])
  clear eE
  go_upto_region 14 with (fail)
  rcases m0 : decide (kn < t.k) with _ | _
  · skip
    rcases m1 : decide (pos < t.f) with _ | _
    · skip
      rcases m2 : (dev != t.d) with _ | _
      · skip
        have HH := hid (show hitR dev pos kn t = true by
          rw [hitR_iff]
          simp at m0 m1 m2
          exact ⟨m2.symm, by omega, by omega⟩)
        have g5 : decide (t.k ≤ kn) = true := by simp at m0; simp; omega
        obtain ⟨⟨A2, B2, S2⟩, hA2⟩ : ∃ q, resR (fnd (addL l t) dev pos kn) = q := ⟨_, rfl⟩
        rw [hA2]
        have HA2 := hid hA2; clear hA2
        dsimp only
        go_wp2_with fail
        clear m0 m1 m2
        go_loopw [21, 105] (fun s i wr => LTL l t dev pos kn nn V3 s i wr) (fun _ i _ => nn - (intOf i).toNat)
        case atStart => exact LTL.mk 0 (b := false) z6 (Nat.zero_le _) rfl rfl
        case round =>
          obtain ⟨j, b, z, hj, rfl, rfl, rfl, HLJ⟩ := hrel.of
          by_cases hlt' : j < nn
          case neg =>
            have d1 : decide ((j : Int) < (nn : Int)) = false := decide_eq_false (by omega)
            have d1' : decide (j < nn) = false := decide_eq_false (by omega)
            have hjn : j = nn := by omega
            cases b
            · have hq : resR (fnd (addL l t) dev pos kn) = resR (some t) := by
                rw [fnd_new HAE.out HH.out (fun y hy => by
                  obtain ⟨i, hi, rfl⟩ := mem_rc hy
                  exact latJ_none HLJ.out i (by rw [hjn, ← HN.out]; exact hi))]
              rw [HA2.out] at hq
              simp only [resR, Prod.mk.injEq] at hq
              obtain ⟨rfl, rfl, rfl⟩ := hq
              clear hjn HA2
              go_wp2_with fail
              exact bodyPost_ret (v := .bool true) (by simp [results, Try.results7, go_sem]) rfl ⟨rfl, b_then hW3 z.2⟩
            · obtain ⟨y, hy, hl⟩ : ∃ y ∈ l, latR t dev pos kn y = true := by
                obtain ⟨i, hi, h⟩ := latJ_some HLJ.out
                exact ⟨_, rc_mem (by rw [HN.out]; omega), h⟩
              obtain ⟨hq, u, hu⟩ := fnd_lat HAE.out HH.out hy hl
              have h1 := HA.out
              have h2 := HA2.out
              rw [hq] at h2
              rw [h1] at h2
              rw [hu] at h1
              simp only [resR, Prod.mk.injEq] at h1 h2
              obtain ⟨rfl, rfl, rfl⟩ := h2
              obtain ⟨e1, e2, rfl⟩ := h1
              have eA : (A != A) = false := by simp
              have eB : (B != B) = false := by simp
              clear hjn HA2 HA hq hu e1 e2
              go_wp2_with fail
              exact bodyPost_ret (v := .bool true) (by simp [results, Try.results7, go_sem]) rfl ⟨rfl, b_then hW3 z.2⟩
          have hlt : j < l.length := by rw [HN.out]; exact hlt'
          have d1 : decide ((j : Int) < (nn : Int)) = true := decide_eq_true (by omega)
          have d1' : decide (j < nn) = true := decide_eq_true (by omega)
          have hjj : (j : Int) < (nn : Int) := by omega
          obtain ⟨blk, off, rfl, hbl⟩ := (RV3.out z).addr (by rw [flat_len Rc.cs 5 Rc.c5]; omega)
          obtain ⟨⟨xd, xf, xk, xi, xo⟩, hx⟩ : ∃ t, rc l j = t := ⟨_, rfl⟩
          have x0 : ∀ v : After V3, v.w.cell? ⟨blk, off + j * 5, none⟩ = some (.int .i64 xd) := rc_cell RV3.out (j := j) (hlt) 0 (by decide) (by rw [hx]; rfl) rfl
          have x1 : ∀ v : After V3, v.w.cell? ⟨blk, off + j * 5 + 1, none⟩ = some (.int .i64 xf) := rc_cell RV3.out (j := j) (hlt) 1 (by decide) (by rw [hx]; rfl) (by omega)
          have x2 : ∀ v : After V3, v.w.cell? ⟨blk, off + j * 5 + 2, none⟩ = some (.int .i64 xk) := rc_cell RV3.out (j := j) (hlt) 2 (by decide) (by rw [hx]; rfl) (by omega)
          have x3 : ∀ v : After V3, v.w.cell? ⟨blk, off + j * 5 + 3, none⟩ = some (.int .i64 xi) := rc_cell RV3.out (j := j) (hlt) 3 (by decide) (by rw [hx]; rfl) (by omega)
          have x4 : ∀ v : After V3, v.w.cell? ⟨blk, off + j * 5 + 4, none⟩ = some (.int .i64 xo) := rc_cell RV3.out (j := j) (hlt) 4 (by decide) (by rw [hx]; rfl) (by omega)
          have Hx := hid hx; clear hx
          have hzt : W.heap.size < z.w.heap.size := zt2 z
          cases b
          · skip
            rcases c0 : (xd == dev) with _ | _
            · skip
              have HL1 := hid (show latR t dev pos kn (rc l j) = false by rw [Hx.out]; simp [latR, c0])
              go_wp2_with fail
              clear c0
              go_roundw
              case rel => exact LTL.mk (j + 1) (b := false) ⟨_, b_alloc z.2 _⟩ (by omega) (by go_num) (by rw [latJ_next, HLJ.out, HL1.out]; rfl)
              case measure => first | (simp [intOf]; done) | (simp [intOf]; omega)
            · skip
              rcases c1 : decide (xk ≤ kn) with _ | _
              · skip
                have HL1 := hid (show latR t dev pos kn (rc l j) = false by rw [Hx.out]; simp [latR, c0, c1])
                go_wp2_with fail
                clear c0 c1
                go_roundw
                case rel => exact LTL.mk (j + 1) (b := false) ⟨_, b_alloc z.2 _⟩ (by omega) (by go_num) (by rw [latJ_next, HLJ.out, HL1.out]; rfl)
                case measure => first | (simp [intOf]; done) | (simp [intOf]; omega)
              · skip
                rcases c2 : decide (xf ≤ pos) with _ | _
                · skip
                  have HL1 := hid (show latR t dev pos kn (rc l j) = false by rw [Hx.out]; simp [latR, c0, c1, c2])
                  go_wp2_with fail
                  clear c0 c1 c2
                  go_roundw
                  case rel => exact LTL.mk (j + 1) (b := false) ⟨_, b_alloc z.2 _⟩ (by omega) (by go_num) (by rw [latJ_next, HLJ.out, HL1.out]; rfl)
                  case measure => first | (simp [intOf]; done) | (simp [intOf]; omega)
                · skip
                  rcases c3 : decide (t.f < xf) with _ | _
                  · rcases c4 : (xf == t.f) with _ | _
                    · skip
                      have HL1 := hid (show latR t dev pos kn (rc l j) = false by rw [Hx.out]; simp [latR, c0, c1, c2, c3, c4])
                      go_wp2_with fail
                      clear c0 c1 c2 c3 c4
                      go_roundw
                      case rel => exact LTL.mk (j + 1) (b := false) ⟨_, b_alloc z.2 _⟩ (by omega) (by go_num) (by rw [latJ_next, HLJ.out, HL1.out]; rfl)
                      case measure => first | (simp [intOf]; done) | (simp [intOf]; omega)
                    · rcases c5 : decide (t.k < xk) with _ | _
                      · skip
                        have HL1 := hid (show latR t dev pos kn (rc l j) = false by rw [Hx.out]; simp [latR, c0, c1, c2, c3, c4, c5])
                        go_wp2_with fail
                        clear c0 c1 c2 c3 c4 c5
                        go_roundw
                        case rel => exact LTL.mk (j + 1) (b := false) ⟨_, b_alloc z.2 _⟩ (by omega) (by go_num) (by rw [latJ_next, HLJ.out, HL1.out]; rfl)
                        case measure => first | (simp [intOf]; done) | (simp [intOf]; omega)
                      · skip
                        have HL1 := hid (show latR t dev pos kn (rc l j) = true by rw [Hx.out]; simp [latR, c0, c1, c2, c3, c4, c5])
                        go_wp2_with fail
                        clear c0 c1 c2 c3 c4 c5
                        go_roundw
                        case rel => exact LTL.mk (j + 1) (b := true) ⟨_, b_alloc z.2 _⟩ (by omega) (by go_num) (by rw [latJ_next, HLJ.out, HL1.out]; rfl)
                        case measure => first | (simp [intOf]; done) | (simp [intOf]; omega)
                  · skip
                    have HL1 := hid (show latR t dev pos kn (rc l j) = true by rw [Hx.out]; simp [latR, c0, c1, c2, c3])
                    go_wp2_with fail
                    clear c0 c1 c2 c3
                    go_roundw
                    case rel => exact LTL.mk (j + 1) (b := true) ⟨_, b_alloc z.2 _⟩ (by omega) (by go_num) (by rw [latJ_next, HLJ.out, HL1.out]; rfl)
                    case measure => first | (simp [intOf]; done) | (simp [intOf]; omega)
          · go_wp2_with fail
            go_roundw
            case rel => exact LTL.mk (j + 1) (b := true) ⟨_, b_alloc z.2 _⟩ (by omega) (by go_num) (by rw [latJ_next, HLJ.out]; rfl)
            case measure => first | (simp [intOf]; done) | (simp [intOf]; omega)

      · skip
        have HM := hid (show hitR dev pos kn t = false by
          rw [Bool.eq_false_iff]
          intro h
          have := (hitR_iff _ _ _ _).1 h
          simp at m0 m1 m2
          omega)
        have hq : resR (fnd (addL l t) dev pos kn) = (A, B, S) := by rw [fnd_miss HAE.out HM.out, HA.out]
        rw [hq]
        clear hq
        dsimp only
        have eA : (A != A) = false := by simp
        have eB : (B != B) = false := by simp
        have eS : (S != S) = false := by simp
        have g5 : decide (t.k ≤ kn) = true := by simp at m0; simp; omega
        go_wp2_with fail
        exact bodyPost_ret (v := .bool true) (by simp [results, Try.results7, go_sem]) rfl ⟨rfl, b_then hW3 z6.2⟩
    · skip
      have HM := hid (show hitR dev pos kn t = false by
        rw [Bool.eq_false_iff]
        intro h
        have := (hitR_iff _ _ _ _).1 h
        simp at m0 m1
        omega)
      have hq : resR (fnd (addL l t) dev pos kn) = (A, B, S) := by rw [fnd_miss HAE.out HM.out, HA.out]
      rw [hq]
      clear hq
      dsimp only
      have eA : (A != A) = false := by simp
      have eB : (B != B) = false := by simp
      have eS : (S != S) = false := by simp
      have g5 : decide (t.k ≤ kn) = true := by simp at m0; simp; omega
      go_wp2_with fail
      exact bodyPost_ret (v := .bool true) (by simp [results, Try.results7, go_sem]) rfl ⟨rfl, b_then hW3 z6.2⟩
  · skip
    have HM := hid (show hitR dev pos kn t = false by
      rw [Bool.eq_false_iff]
      intro h
      have := (hitR_iff _ _ _ _).1 h
      simp at m0
      omega)
    have hq : resR (fnd (addL l t) dev pos kn) = (A, B, S) := by rw [fnd_miss HAE.out HM.out, HA.out]
    rw [hq]
    clear hq
    dsimp only
    have eA : (A != A) = false := by simp
    have eB : (B != B) = false := by simp
    have eS : (S != S) = false := by simp
    have HKN := hid (show kn < t.k by simpa using m0)
    have HE1 := hid (chE_ok (k1 := 0) (k2 := kn) HC.out (by omega))
    have HE2 := hid (chE_ok (k1 := 0) (k2 := kn) HC2.out (by omega))
    have HCV := hid (show chV (addL l t) 0 kn = chV l 0 kn by rw [chV_ok HE1.out, chV_ok HE2.out]; exact chg_add HAE.out hat.2.2.2.2.2.1 HKN.out)
    have g5 : decide (t.k ≤ kn) = false := by simp at m0; simp; omega
    go_wp2_with fail
    refine (changed_any l nn HN.out a c 0 kn z6.w hb (RV3.out z6)).mono ?_
    rintro e w9 ⟨v1, rfl, hi1, hB1⟩
    obtain ⟨z7, rfl⟩ : ∃ y : After V3, w9 = y.w := ⟨z6.on hB1, rfl⟩
    rw [HE1.out]
    have HI1 := hid hi1; clear hi1 hB1
    go_wp2_with fail
    refine (changed_any (addL l t) (nn + 1) HXN.out xa xc 0 kn z7.w (by omega) (HXR.out z7)).mono ?_
    rintro e w9 ⟨v2, rfl, hi2, hB2⟩
    have hi1 := HI1.out.below hB2
    obtain ⟨z8, rfl⟩ : ∃ y : After V3, w9 = y.w := ⟨z7.on hB2, rfl⟩
    rw [HE2.out]
    rw [HCV.out] at hi2
    obtain ⟨Y, hY⟩ : ∃ y, chV l 0 kn = y := ⟨_, rfl⟩
    have hyl : Y.length ≤ 4112 := by
      rw [← hY, chV_ok HE1.out]
      exact chg_len (by rw [HN.out]; exact h256) 0 kn
    rw [hY] at hi1 hi2
    obtain ⟨k, hk⟩ : ∃ k, Y.length = k := ⟨_, rfl⟩
    rw [hk] at hyl
    obtain ⟨ya, yc, rfl, hR1, -⟩ := hi1.form hk
    obtain ⟨za, zc, rfl, hR2, -⟩ := hi2.form hk
    have HK := hid hk; have HR1 := hid hR1; have HR2 := hid hR2
    clear hi1 hi2 hB2 hY hk hR1 hR2
    go_wp2_with fail
    refine (ssame_any Y Y k k HK.out HK.out ya za yc zc (by omega) z8.w HR1.out HR2.out).mono ?_
    rintro e w9 ⟨rfl, hB9⟩
    obtain ⟨z9, rfl⟩ : ∃ y : After V3, w9 = y.w := ⟨z8.on hB9, rfl⟩
    rw [decide_eq_true rfl]
    go_wp2_with fail
    exact bodyPost_ret (v := .bool true) (by simp [results, Try.results7, go_sem]) rfl ⟨rfl, b_then hW3 z9.2⟩

end Go.Proofs.Ytdnjpfjiaomlgaa
namespace Go.Proofs.Ytdnjpfjiaomlgaa.Ca7
open Go.ChangeShapes Go.WideShapes Go.ChangeAt Go.RowKit Go.Joins

theorem own : ownKnob Try.prog.godebug = none := by kernel_rfl
theorem laidOut : laidOutB Try.prog = true := by kernel_rfl

set_option maxRecDepth 100000 in
theorem lifted (os : Os) (started : os.Started) (H : Type) (enc : TypeId × Value → H) :
    ReturnsInHanded {} Try.checked os 7 .any (Rows.calibrateAddSpec.pre6 enc Try.prog Try.f7 Rows.calibrateAddRow.domain false) (Rows.calibrateAddSpec.post enc Try.prog Try.f7 false true false false) := by
  refine returnsInHanded_of_change (C := Try.checked) own started (by kernel_rfl) Try.func7
    (ChangeSpec.witness6 (enc := enc) (C := Try.checked) false ⟨#[], #[.slice none 0 0, .agg #[.int .i64 0, .int .i64 0, .int .i64 0, .int .i64 0, .int .i64 0], .int .i64 0, .int .i64 0, .int .i64 0], []⟩ 8 (by kernel_rfl) (by kernel_rfl) (by kernel_rfl) (by kernel_rfl)) ?_
  intro W base args ds gs before hval0 hW hcnd _
  have hval : ∀ (j : Nat) t v, Try.f7.params[j]? = some t → args[j]? = some v → Value.okWide Try.prog W .any base t v := hval0
  have hW' := hW
  obtain ⟨p, q, hA0, hV, rfl, hfz, hnd⟩ := hW
  have hA : DataW.TrodAll enc Try.prog W 0 (fun _ => true) true Try.f7.params.toList args.toList ds p := hA0
  rw [Try.params7] at hA hval
  obtain ⟨v0, vs0, d0, ds0, p0, q0, hargs, rfl, rfl, h0, r0⟩ := trodAll_cons hA
  obtain ⟨v1, vs1, d1, ds1, p1, q1, rfl, rfl, rfl, h1, r1⟩ := trodAll_cons r0
  obtain ⟨v2, vs2, d2, ds2, p2, q2, rfl, rfl, rfl, h2, r2⟩ := trodAll_cons r1
  obtain ⟨v3, vs3, d3, ds3, p3, q3, rfl, rfl, rfl, h3, r3⟩ := trodAll_cons r2
  obtain ⟨v4, vs4, d4, ds4, p4, q4, rfl, rfl, rfl, h4, r4⟩ := trodAll_cons r3
  obtain ⟨rfl, rfl, rfl⟩ := trodAll_nil r4
  obtain rfl : args = #[v0, v1, v2, v3, v4] := by cases args; simp_all
  obtain ⟨rfl, rfl⟩ := trodVars_none hV
  have k0 := h0
  have lt0 : ∀ x ∈ p0, x.block < W.heap.size := by obtain ⟨m, hm⟩ := k0; exact DataW.trod_lt m _ _ _ hm
  obtain ⟨xa0, xn0, xc0, rfl⟩ := okWide_slice Try.underlying22 (hval 0 22 v0 rfl rfl)
  obtain ⟨m0, hm0⟩ := h0
  obtain ⟨a0, n0, c0, e0, lc0, mc0, fz0, ⟨l0, ln0, rd0⟩⟩ := open_rcs hm0
  cases e0
  have nb0 := Nat.le_trans lc0 (max_len mc0)
  have k1 := h1
  have lt1 : ∀ x ∈ p1, x.block < W.heap.size := by obtain ⟨m, hm⟩ := k1; exact DataW.trod_lt m _ _ _ hm
  obtain ⟨t1, rfl⟩ := open_rcv (hval 1 24 v1 rfl rfl) h1
  obtain ⟨a2, rfl, rfl, rfl, w2⟩ := open_int Try.underlying3 (hval 2 3 v2 rfl rfl) h2
  obtain ⟨a3, rfl, rfl, rfl, w3⟩ := open_int Try.underlying3 (hval 3 3 v3 rfl rfl) h3
  obtain ⟨a4, rfl, rfl, rfl, w4⟩ := open_int Try.underlying3 (hval 4 3 v4 rfl rfl) h4
  clear hA0 hval0
  refine (cadd_walk l0 xn0 ln0 xa0 xc0 fz0 lc0 t1 a2 a3 a4 nb0 W rd0).mono fun e W' ⟨he, bel⟩ => ?_
  subst he
  exact ⟨_, rfl, _, _, _, [], _, [], hW', trodAll_mk1 (shut_bool Try.underlying4 _), (trodAll_cons_mk (Below.trod laidOut (by kernel_rfl) (of_decide_eq_true (by kernel_rfl)) k0 bel lt0) (trodAll_cons_mk (Below.trod laidOut (by kernel_rfl) (of_decide_eq_true (by kernel_rfl)) k1 bel lt1) (trodAll_cons_mk (shut_int Try.underlying3 w2) (trodAll_cons_mk (shut_int Try.underlying3 w3) (trodAll_cons_mk (shut_int Try.underlying3 w4) trodAll_mk0))))), rfl, bel.frame _, fun h => by cases h⟩

theorem over : Rows.calibrateAddRow.holds Try.pinned (OpenSpec.ofChange Rows.calibrateAddSpec) :=
  OpenClaim.holds_of_wide 7 Try.f7 rfl rfl rfl rfl rfl rfl rfl ⟨rfl, rfl, rfl, rfl, rfl⟩ rfl rfl rfl rfl rfl (by kernel_rfl) Try.func7 (by show joinedFacts Try.prog _ _ _ _ = true; kernel_rfl)
    (of_decide_eq_true (by kernel_rfl)) (by unfold Func.isWrapper; first | (rw [if_pos (by decide +kernel)]; kernel_rfl) | (rw [if_neg (by decide +kernel)]; exact ⟨rfl, rfl⟩))
    (fun os started H enc _ => lifted os started H enc)
end Go.Proofs.Ytdnjpfjiaomlgaa.Ca7
namespace Go.Proofs.Ytdnjpfjiaomlgaa
/-- The statement. -/
theorem calibrateAdd_holds : Rows.CalibrateAddSaid := Ca7.over
end Go.Proofs.Ytdnjpfjiaomlgaa
