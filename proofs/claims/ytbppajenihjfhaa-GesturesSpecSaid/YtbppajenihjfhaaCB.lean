/- The reference's Of and Value (curves). -/
import Derived.Test.YtbppajenihjfhaaC10
import Derived.Test.YtbppajenihjfhaaC5
import Derived.Test.YtbppajenihjfhaaC9
namespace Go.Proofs.Ytbppajenihjfhaa
open Go.RowKit
open Go.Lib (hid)

/-- The knot that the reference picks among the first j. -/
def PickK (l : List Kn) (at_ : Int) (j q : Nat) : Prop := (q = 0 ∧ ∀ i, i < j → at_ < (kn l i).k) ∨ (q < j ∧ (kn l q).k ≤ at_ ∧ ∀ i, q < i → i < j → at_ < (kn l i).k)
theorem PickK.miss {l : List Kn} {at_ : Int} {j q : Nat} (h : PickK l at_ j q) (hc : at_ < (kn l j).k) : PickK l at_ (j + 1) q := by
  rcases h with ⟨h1, h2⟩ | ⟨h1, h2, h3⟩
  · exact .inl ⟨h1, fun i hi => by
      by_cases he : i = j
      · rw [he]; exact hc
      · exact h2 i (by omega)⟩
  · exact .inr ⟨by omega, h2, fun i h4 hi => by
      by_cases he : i = j
      · rw [he]; exact hc
      · exact h3 i h4 (by omega)⟩
theorem PickK.hit {l : List Kn} {at_ : Int} {j : Nat} (hc : (kn l j).k ≤ at_) : PickK l at_ (j + 1) j := .inr ⟨by omega, hc, fun i h1 h2 => absurd h2 (by omega)⟩
def OL (l : List Kn) (at_ : Int) (n : Nat) (V : World) (k i : Value) (wr : World) : Prop := ∃ (j q : Nat) (z : After V), j ≤ n ∧ q < n ∧ i = .int .i64 j ∧ k = .int .i64 q ∧ wr = z.w ∧ Hid (PickK l at_ j q)
set_option maxRecDepth 100000 in
set_option maxHeartbeats 4000000 in
theorem of_any (l : List Kn) (nn : Nat) (hnn : l.length = nn) (a : Option Addr) (c : Nat) (at_ : Int) (w : World) (hcv : crvB l = true) (hr : Rd w a (l.flatMap Kn.c)) :
    Calls Try.prog 73 #[.slice a nn c, .int .i64 at_] w fun e w' => e = .returned (.int .i64 (ofK l at_)) ∧ Below w.heap.size w w' := by
  have HN := hid hnn; have HR := hid (after_rd hr)
  clear hnn hr
  have HCV := hid hcv
  have HVB := hid (((crvB_iff l).1 hcv).1); clear hcv
  have hn10 := len_K HVB.out
  rw [HN.out] at hn10
  go_enter Try.func73, Try.ntmps73
  rcases Nat.eq_zero_or_pos nn with rfl | hpos
  · have hl := hid (List.eq_nil_of_length_eq_zero HN.out)
    go_wp2_with fail
    exact bodyPost_ret (v := .int .i64 0) (by simp [results, Try.results73, go_sem]) rfl ⟨by rw [hl.out, ofK_nil], Below.refl _ _⟩
  have e0 : ((nn : Int) == 0) = false := beq_eq_false_iff_ne.2 (by omega)
  have hl0 : 0 < l.length := by rw [HN.out]; exact hpos
  obtain ⟨b, off, rfl, hb⟩ := (HR.out (After.here w)).addr (by rw [flat_len Kn.c 5 Kn.c5]; omega)
  go_wp2_with fail
  clear e0
  go_loopw [5, 6] (fun k i wr => OL l at_ nn w k i wr) (fun _ i _ => nn - (intOf i).toNat)
  case atStart => exact ⟨0, 0, After.here w, by omega, hpos, rfl, rfl, rfl, hid (.inl ⟨rfl, fun i hi => absurd hi (by omega)⟩)⟩
  case round =>
    obtain ⟨j, q, z, hj, hq, rfl, rfl, rfl, hp⟩ := hrel
    by_cases hlt' : j < nn
    · have hlt : j < l.length := by rw [HN.out]; exact hlt'
      have d1 : decide ((j : Int) < (nn : Int)) = true := decide_eq_true (by omega)
      have d1' : decide (j < nn) = true := decide_eq_true (by omega)
      have hjj : (j : Int) < (nn : Int) := by omega
      obtain ⟨⟨xk, xv, xs, xa, xb⟩, hx⟩ : ∃ t, kn l j = t := ⟨_, rfl⟩
      have x0 : ∀ v : After w, v.w.cell? ⟨b, off + j * 5, none⟩ = some (.int .i64 xk) := kn_cell HR.out (j := j) hlt 0 (by decide) (by rw [hx]; rfl) rfl
      have Hx := hid hx; clear hx
      rcases hg : decide (xk ≤ at_) with _ | _
      · have gg := hid hg
        go_wp2_with fail
        clear hg
        go_roundw
        case rel => exact ⟨j + 1, q, z, by omega, hq, by go_num, rfl, rfl, hid (hp.out.miss (by rw [Hx.out]; have := gg.out; simp at this; exact this))⟩
        case measure => first | (simp [intOf]; done) | (simp [intOf]; omega)
      · have gg := hid hg
        go_wp2_with fail
        clear hg
        go_roundw
        case rel => exact ⟨j + 1, j, z, by omega, by omega, by go_num, rfl, rfl, hid (PickK.hit (by rw [Hx.out]; simpa using gg.out))⟩
        case measure => first | (simp [intOf]; done) | (simp [intOf]; omega)
    obtain rfl : j = nn := by omega
    have d1 : decide ((j : Int) < (j : Int)) = false := decide_eq_false (by omega)
    have d1' : decide (j < j) = false := decide_eq_false (by omega)
    have hql : q < l.length := by rw [HN.out]; exact hq
    have hqq : (q : Int) < (j : Int) := by omega
    obtain ⟨⟨xk, xv, xs, xa, xb⟩, hx⟩ : ∃ t, kn l q = t := ⟨_, rfl⟩
    have x0 : ∀ v : After w, v.w.cell? ⟨b, off + q * 5, none⟩ = some (.int .i64 xk) := kn_cell HR.out (j := q) hql 0 (by decide) (by rw [hx]; rfl) rfl
    have x1 : ∀ v : After w, v.w.cell? ⟨b, off + q * 5 + 1, none⟩ = some (.int .i64 xv) := kn_cell HR.out (j := q) hql 1 (by decide) (by rw [hx]; rfl) (by omega)
    have x2 : ∀ v : After w, v.w.cell? ⟨b, off + q * 5 + 2, none⟩ = some (.int .i64 xs) := kn_cell HR.out (j := q) hql 2 (by decide) (by rw [hx]; rfl) (by omega)
    have x3 : ∀ v : After w, v.w.cell? ⟨b, off + q * 5 + 3, none⟩ = some (.int .i64 xa) := kn_cell HR.out (j := q) hql 3 (by decide) (by rw [hx]; rfl) (by omega)
    have x4 : ∀ v : After w, v.w.cell? ⟨b, off + q * 5 + 4, none⟩ = some (.int .i64 xb) := kn_cell HR.out (j := q) hql 4 (by decide) (by rw [hx]; rfl) (by omega)
    have xz0 := x0 z
    have xz1 := x1 z
    have xz2 := x2 z
    have xz3 := x3 z
    have xz4 := x4 z
    have Hx := hid hx; clear hx
    by_cases hlow : at_ ≤ xk
    · have d2 : decide (at_ ≤ xk) = true := decide_eq_true hlow
      have hof := hid (show ofK l at_ = xv by
        rcases hp.out with ⟨rfl, h2⟩ | ⟨h1, h2, h3⟩
        · rw [ofK_low hl0 (cnt_of HVB.out (by omega) (fun h => by omega) (fun _ => h2 0 (by omega))), Hx.out]
        · have he : at_ = (kn l q).k := by rw [Hx.out] at h2 ⊢; dsimp only at h2 ⊢; omega
          rw [he, ofK_at HVB.out hql, Hx.out])
      go_wp2_with fail
      exact bodyPost_ret (v := .int .i64 xv) (by simp [results, Try.results73, go_sem]) rfl ⟨by rw [hof.out], b_alloc z.2 _⟩
    have d2 : decide (at_ ≤ xk) = false := decide_eq_false hlow
    have hat : xk < at_ := by omega
    have hcnt : IsCnt l at_ (q + 1) := by
      rcases hp.out with ⟨rfl, h2⟩ | ⟨h1, h2, h3⟩
      · have := h2 0 (by omega)
        rw [Hx.out] at this
        dsimp only at this
        omega
      · exact cnt_of HVB.out (by omega) (fun _ => by rw [Nat.add_sub_cancel]; exact h2) (fun h => h3 (q + 1) (by omega) (by rw [HN.out] at h; exact h))
    have HC := hid hcnt; clear hcnt hp
    by_cases hlast : q + 1 = j
    · have d3 : ((q : Int) == (j : Int) - 1) = true := by simp; omega
      have hof := hid (show ofK l at_ = xv by
        rw [ofK_high hl0 (by rw [HN.out, ← hlast]; exact HC.out), HN.out, ← hlast, Nat.add_sub_cancel, Hx.out])
      have hjw : IntKind.i64.wrap ((j : Int) - 1) = (j : Int) - 1 := IntWalk.i64_in _ (by omega)
      clear hlast
      go_wp2_with fail
      exact bodyPost_ret (v := .int .i64 xv) (by simp [results, Try.results73, go_sem]) rfl ⟨by rw [hof.out], b_alloc z.2 _⟩
    have d3 : ((q : Int) == (j : Int) - 1) = false := beq_eq_false_iff_ne.2 (by omega)
    have hq1 : q + 1 < j := by omega
    have hql1 : q + 1 < l.length := by rw [HN.out]; exact hq1
    have hof := ofK_mid hql1 HC.out
    have bx := kn_at HVB.out hql
    have by_ := kn_at HVB.out hql1
    have hsg := (segOk_iff l q).1 (((crvB_iff l).1 HCV.out).2 q hql1)
    have hat2 := HC.out.2.2 (q + 1) (Nat.le_refl _) hql1
    obtain ⟨⟨yk, yv, ys, ya, yb⟩, hy⟩ : ∃ t, kn l (q + 1) = t := ⟨_, rfl⟩
    have y0 : ∀ v : After w, v.w.cell? ⟨b, off + (q + 1) * 5, none⟩ = some (.int .i64 yk) := kn_cell HR.out (j := (q + 1)) hql1 0 (by decide) (by rw [hy]; rfl) rfl
    have y1 : ∀ v : After w, v.w.cell? ⟨b, off + (q + 1) * 5 + 1, none⟩ = some (.int .i64 yv) := kn_cell HR.out (j := (q + 1)) hql1 1 (by decide) (by rw [hy]; rfl) (by omega)
    have y2 : ∀ v : After w, v.w.cell? ⟨b, off + (q + 1) * 5 + 2, none⟩ = some (.int .i64 ys) := kn_cell HR.out (j := (q + 1)) hql1 2 (by decide) (by rw [hy]; rfl) (by omega)
    have y3 : ∀ v : After w, v.w.cell? ⟨b, off + (q + 1) * 5 + 3, none⟩ = some (.int .i64 ya) := kn_cell HR.out (j := (q + 1)) hql1 3 (by decide) (by rw [hy]; rfl) (by omega)
    have y4 : ∀ v : After w, v.w.cell? ⟨b, off + (q + 1) * 5 + 4, none⟩ = some (.int .i64 yb) := kn_cell HR.out (j := (q + 1)) hql1 4 (by decide) (by rw [hy]; rfl) (by omega)
    simp only [Hx.out, hy] at hof bx by_ hsg hat2
    have hs := bx.2.2.2.2.1
    by_cases hs1 : xs = 1
    · have d4 : (xs == 1) = true := by simpa using hs1
      have hof2 := hid (show ofK l at_ = xv by rw [hof]; unfold shp; rw [if_pos hs1])
      clear hof hs1 bx by_ hsg hs hat2 hy
      go_wp2_with fail
      exact bodyPost_ret (v := .int .i64 xv) (by simp [results, Try.results73, go_sem]) rfl ⟨by rw [hof2.out], b_alloc z.2 _⟩
    have d4 : (xs == 1) = false := beq_eq_false_iff_ne.2 hs1
    have hd2 := hsg hs1
    have w1 : IntKind.i64.wrap (at_ - xk) = at_ - xk := IntWalk.i64_in _ (by omega)
    have w2 : IntKind.i64.wrap (yk - xk) = yk - xk := IntWalk.i64_in _ (by omega)
    have n1 : (0 : Int) ≤ (q : Int) + 1 := by omega
    have n2 : ((q : Int) + 1).toNat = q + 1 := by omega
    have n3 : (q : Int) + 1 < (j : Int) := by omega
    have n4 : IntKind.i64.wrap ((q : Int) + 1) = (q : Int) + 1 := IntWalk.i64_in _ (by omega)
    have n5 : IntKind.i64.wrap ((j : Int) - 1) = (j : Int) - 1 := IntWalk.i64_in _ (by omega)
    obtain ⟨num, hnum⟩ : ∃ n, at_ - xk = n := ⟨_, rfl⟩
    obtain ⟨den, hden⟩ : ∃ n, yk - xk = n := ⟨_, rfl⟩
    have g1 : 0 ≤ num := by omega
    have g2 : num ≤ den := by omega
    have g3 : 1 ≤ den := by omega
    have g4 : den ≤ 16777216 := by omega
    rw [hnum, hden] at hof
    rw [hnum] at w1
    rw [hden] at w2
    have HOF := hid hof
    have HBX := hid bx; have HBY := hid by_
    clear hof bx by_ hsg hd2 hat2 hs1 hlow hlast hy
    go_wp2_with fail
    obtain ⟨V, hV⟩ : ∃ V, V = z.w.alloc (.cells #[.int .i64 xk, .int .i64 xv, .int .i64 xs, .int .i64 xa, .int .i64 xb] 71) := ⟨_, rfl⟩
    have hBV : Below w.heap.size w V := by rw [hV]; exact b_alloc z.2 _
    have c0 : ∀ v : After V, v.w.cell? ⟨z.w.heap.size, 0, none⟩ = some (.int .i64 xk) := new_cell hV rfl rfl
    have c1 : ∀ v : After V, v.w.cell? ⟨z.w.heap.size, 1, none⟩ = some (.int .i64 xv) := new_cell hV rfl rfl
    have c2 : ∀ v : After V, v.w.cell? ⟨z.w.heap.size, 2, none⟩ = some (.int .i64 xs) := new_cell hV rfl rfl
    have c3 : ∀ v : After V, v.w.cell? ⟨z.w.heap.size, 3, none⟩ = some (.int .i64 xa) := new_cell hV rfl rfl
    have c4 : ∀ v : After V, v.w.cell? ⟨z.w.heap.size, 4, none⟩ = some (.int .i64 xb) := new_cell hV rfl rfl
    have y0 := upc hBV y0
    have y1 := upc hBV y1
    rw [← hV]
    obtain ⟨u, hu⟩ : ∃ u : After V, u.w = V := ⟨After.here V, rfl⟩
    rw [← hu]
    clear hu hV xz0 xz1 xz2 xz3 xz4 x0 x1 x2 x3 x4 y2 y3 y4
    refine wp_region_since (by kernel_rfl) (by kernel_rfl) ?_
    repeat (go_big_quiet_step (fail))
    refine wpQuiet_nil ?_
    intro u9
    have cu2 := c2 u9
    rcases hs with rfl | rfl | rfl
    · exact absurd d4 (by decide)
    · have hX := HOF.out
      unfold shp at hX
      rw [if_neg (show ¬ (2 : Int) = 1 by decide), if_pos rfl] at hX
      dsimp only at hX
      obtain ⟨X, hX2⟩ : ∃ X, (xv * (den - num) + yv * num) / den = X := ⟨_, rfl⟩
      rw [hX2] at hX
      have HX := hid hX
      have kc : ∀ y : After V, Calls Try.prog 94 #[.int .i64 xv, .int .i64 yv, .int .i64 num, .int .i64 den] y.w fun e w'' => e = .returned (.tuple #[.int .i64 X, .int .i64 0]) ∧ ∃ u : After V, w'' = u.w := fun y => hX2 ▸ after_same (rLine_any xv yv num den y.w HBX.out.2.2.1 HBX.out.2.2.2.1 HBY.out.2.2.1 HBY.out.2.2.2.1 g1 g2 g3 g4)
      clear hX hX2
      go_wp2_with fail
      refine wp_region_since (by kernel_rfl) (by kernel_rfl) ?_
      repeat (go_big_quiet_step (((go_at_call 94; exact kc _))))
      refine wpQuiet_nil ?_
      intro u8
      go_wp2_with fail
      exact bodyPost_ret (v := .int .i64 X) (by simp [results, Try.results73, go_sem]) rfl ⟨by rw [HX.out], b_then hBV u8.2⟩
    · have hX := HOF.out
      unfold shp at hX
      rw [if_neg (show ¬ (3 : Int) = 1 by decide), if_neg (show ¬ (3 : Int) = 2 by decide)] at hX
      dsimp only at hX
      have hwt := HBX.out.2.2.2.2.2.1 rfl
      obtain ⟨X, hX2⟩ : ∃ X, (xv * ((den - num) * xa) + yv * (num * xb)) / (num * xb + (den - num) * xa) = X := ⟨_, rfl⟩
      rw [hX2] at hX
      have HX := hid hX
      have kc : ∀ y : After V, Calls Try.prog 95 #[.int .i64 xv, .int .i64 yv, .int .i64 num, .int .i64 den, .int .i64 xa, .int .i64 xb] y.w fun e w'' => e = .returned (.tuple #[.int .i64 X, .int .i64 0]) ∧ ∃ u : After V, w'' = u.w := fun y => hX2 ▸ after_same (rBend_any xv yv num den xa xb y.w HBX.out.2.2.1 HBX.out.2.2.2.1 HBY.out.2.2.1 HBY.out.2.2.2.1 g1 g2 g3 g4 hwt.1 hwt.2.1 hwt.2.2.1 hwt.2.2.2)
      clear hX hX2 hwt d4
      have d6 : ((3 : Int) == 2) = false := by decide
      go_wp2_with fail
      refine wp_region_since (by kernel_rfl) (by kernel_rfl) ?_
      repeat (go_big_quiet_step (((go_at_call 95; exact kc _))))
      refine wpQuiet_nil ?_
      intro u8
      go_wp2_with fail
      exact bodyPost_ret (v := .int .i64 X) (by simp [results, Try.results73, go_sem]) rfl ⟨by rw [HX.out], b_then hBV u8.2⟩

set_option maxRecDepth 100000 in
set_option maxHeartbeats 4000000 in
theorem rValue_any (l : List Kn) (nn : Nat) (hnn : l.length = nn) (a : Option Addr) (c : Nat) (at_ : Int) (w : World) (hn : nn ≤ 9223372036854775807) (hr : Rd w a (l.flatMap Kn.c)) :
    Calls Try.prog 49 #[.slice a nn c, .int .i64 at_] w fun e w' => e = .returned (.tuple #[.int .i64 (kvV l at_), .int .i64 (chkK l)]) ∧ Below w.heap.size w w' := by
  have HR := hid (after_rd hr); have HN := hid hnn
  clear hr hnn
  go_enter Try.func49, Try.ntmps49
  go_wp2_with fail
  refine (met0 (rkcheck_any l nn HN.out a c w hn (HR.out (After.here w)))).mono ?_
  rintro e _ ⟨rfl, u1, rfl⟩
  by_cases hc : crvB l = true
  · have hk := chkK_ok hc
    have hv := hid (show kvV l at_ = ofK l at_ from if_pos hk)
    rw [hk]
    have HK := hid hk; have HC := hid hc; clear hk hc
    go_wp2_with fail
    refine (met (of_any l nn HN.out a c at_ u1.w HC.out (HR.out u1))).mono ?_
    rintro e _ ⟨rfl, u3, rfl⟩
    obtain ⟨X, hX⟩ : ∃ X, ofK l at_ = X := ⟨_, rfl⟩
    rw [hX]
    have HX := hid hX; clear hX
    go_wp2_with fail
    exact bodyPost_ret (v := .tuple #[.int .i64 X, .int .i64 0]) (by simp [results, Try.results49, go_sem]) rfl ⟨by rw [hv.out, HX.out, HK.out], u3.2⟩
  · have hk := chkK_no hc
    have hv := hid (show kvV l at_ = 0 from if_neg (by rw [hk]; decide))
    rw [hk]
    have HK := hid hk; clear hk hc
    go_wp2_with fail
    exact bodyPost_ret (v := .tuple #[.int .i64 0, .int .i64 110]) (by simp [results, Try.results49, go_sem]) rfl ⟨by rw [hv.out, HK.out], u1.2⟩
end Go.Proofs.Ytbppajenihjfhaa
