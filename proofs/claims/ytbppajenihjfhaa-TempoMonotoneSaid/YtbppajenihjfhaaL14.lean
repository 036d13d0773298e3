/- TempoMonotone. -/
import Derived.Test.YtbppajenihjfhaaX
import Derived.Test.YtbppajenihjfhaaW
import Derived.Test.YtbppajenihjfhaaY
import Derived.Test.YtbppajenihjfhaaP7
import Derived.Test.YtbppajenihjfhaaBX
import Derived.IntWalk
namespace Go.Proofs.Ytbppajenihjfhaa
open Go.RowKit
open Go.Lib (hid)

theorem low_step {m : List Tp} {j : Nat} (h : 1 ≤ j) : lowSp m (j + 1 - 1) = if (tp m j).n * (lowSp m (j - 1)).d < (lowSp m (j - 1)).n * (tp m j).d then tp m j else lowSp m (j - 1) := by
  obtain ⟨p, rfl⟩ : ∃ p, j = p + 1 := ⟨j - 1, by omega⟩
  exact lowSp_next m p
theorem top_step {m : List Tp} {j : Nat} (h : 1 ≤ j) : topSp m (j + 1 - 1) = if (topSp m (j - 1)).n * (tp m j).d < (tp m j).n * (topSp m (j - 1)).d then tp m j else topSp m (j - 1) := by
  obtain ⟨p, rfl⟩ : ∃ p, j = p + 1 := ⟨j - 1, by omega⟩
  exact topSp_next m p
theorem sp_bd {m : List Tp} (hg : goodB m = true) {k : Nat} {q : Tp} (hk : k < m.length) (h : ∃ i, i ≤ k ∧ q = tp m i) : 1 ≤ q.n ∧ q.n ≤ 1048576 ∧ 1 ≤ q.d ∧ q.d ≤ 256 := by
  obtain ⟨i, hi, rfl⟩ := h
  exact (pt_at hg (show i < m.length by omega)).2
def MPL (m : List Tp) (n : Nat) (V : World) (b g : Nat) (i : Value) (wr : World) : Prop := ∃ j : Nat, 1 ≤ j ∧ j ≤ n ∧ i = .int .i64 j ∧ BoxIs V b (lowSp m (j - 1)) wr ∧ BoxIs V g (topSp m (j - 1)) wr
set_option maxRecDepth 100000 in
set_option maxHeartbeats 4000000 in
theorem mono_walk (m : List Tp) (nn : Nat) (hnn : m.length = nn) (a : Option Addr) (c : Nat) (x y lo hi : Int) (hmn : (if y < x then y else x) = lo) (hmx : (if x < y then y else x) = hi) (hb : nn ≤ 9223372036854775807) (W : World) (hr : Rd W a (m.flatMap Tp.c)) :
    Calls Try.prog 14 #[.slice a nn c, .int .i64 x, .int .i64 y] W fun e w' => e = .returned (.bool true) ∧ Below W.heap.size W w' := by
  have HN := hid hnn; have HR := hid (after_rd hr)
  have hlh : lo ≤ hi := by rw [← hmn, ← hmx]; split <;> split <;> omega
  clear hnn hr
  go_enter Try.func14, Try.ntmps14
  go_wp2_with fail
  refine (met0 (sane9_any W)).mono ?_
  rintro e _ ⟨rfl, u1, rfl⟩
  go_wp2_with fail
  refine (met (Sample_any m nn HN.out a c lo hb u1.w (HR.out u1))).mono ?_
  rintro e _ ⟨rfl, u2, rfl⟩
  obtain ⟨sx, hsx⟩ : ∃ y, smV m lo = y := ⟨_, rfl⟩
  obtain ⟨ex, hex⟩ : ∃ y, smE m lo = y := ⟨_, rfl⟩
  rw [hsx, hex]
  have HSX' := hid hsx; have HEX := hid hex
  clear hsx hex
  go_wp2_with fail
  refine (met (Sample_any m nn HN.out a c hi hb u2.w (HR.out u2))).mono ?_
  rintro e _ ⟨rfl, u3, rfl⟩
  obtain ⟨sy, hsy⟩ : ∃ y, smV m hi = y := ⟨_, rfl⟩
  obtain ⟨ey, hey⟩ : ∃ y, smE m hi = y := ⟨_, rfl⟩
  rw [hsy, hey]
  have HSY' := hid hsy; have HEY := hid hey
  clear hsy hey
  by_cases h1 : ex = 0
  case neg =>
    have d1 : (ex != 0) = true := by simpa using h1
    clear h1
    go_wp2_with fail
    exact bodyPost_ret (v := .bool true) (by simp [results, Try.results14, go_sem]) rfl ⟨rfl, u3.2⟩
  by_cases h2 : ey = 0
  case neg =>
    have d1 : (ey != 0) = true := by simpa using h2
    subst h1; clear h2
    go_wp2_with fail
    exact bodyPost_ret (v := .bool true) (by simp [results, Try.results14, go_sem]) rfl ⟨rfl, u3.2⟩
  subst h1; subst h2
  obtain ⟨hg, h0lo, hlo2, hsx2⟩ := smE_0.1 HEX.out
  obtain ⟨-, h0hi, hhi2, hsy2⟩ := smE_0.1 HEY.out
  have HSX := hid (show smpT m lo = sx by rw [← smV_eq HEX.out]; exact HSX'.out)
  have HSY := hid (show smpT m hi = sy by rw [← smV_eq HEY.out]; exact HSY'.out)
  have hmon := smp_mono hg h0lo hlh
  have hsx0 := (smp_bd hg h0lo).1
  rw [HSX.out] at hsx2 hsx0
  rw [HSY.out] at hsy2
  rw [HSX.out, HSY.out] at hmon
  have d3 : decide (sy < sx) = false := decide_eq_false (by omega)
  have hK := chkT_ok hg
  have hl0 := len_pos hg
  have hl64 := len_le hg
  rw [HN.out] at hl0 hl64
  have HK := hid hK
  clear hK hg
  go_wp2_with fail
  refine (met (rtcheck_any m nn HN.out a c u3.w hb (HR.out u3))).mono ?_
  rintro e _ ⟨rfl, u4, rfl⟩
  rw [HK.out]
  obtain ⟨b, off, rfl, hbl⟩ := (HR.out u4).addr (by rw [flat_len Tp.c 4 Tp.c4, HN.out]; omega)
  obtain ⟨V, hV⟩ : ∃ V : World, V = u4.w := ⟨_, rfl⟩
  have hWV : Below W.heap.size W V := by rw [hV]; exact u4.2
  have RV := hid (fun v : After V => HR.out (After.to (b_then hWV v.2)))
  rw [← hV]
  clear hV hbl
  obtain ⟨u, hu⟩ : ∃ u : After V, u.w = V := ⟨After.here V, rfl⟩
  rw [← hu]
  clear hu
  have hN0 : 0 < m.length := by rw [HN.out]; exact hl0
  obtain ⟨⟨ek, en, ed, er⟩, he⟩ : ∃ t, tp m 0 = t := ⟨_, rfl⟩
  have e0 : ∀ v : After V, v.w.cell? ⟨b, off, none⟩ = some (.int .i64 ek) := tp_cell RV.out (j := 0) (hN0) 0 (by decide) (by rw [he]; rfl) rfl
  have e1 : ∀ v : After V, v.w.cell? ⟨b, off + 1, none⟩ = some (.int .i64 en) := tp_cell RV.out (j := 0) (hN0) 1 (by decide) (by rw [he]; rfl) (by omega)
  have e2 : ∀ v : After V, v.w.cell? ⟨b, off + 2, none⟩ = some (.int .i64 ed) := tp_cell RV.out (j := 0) (hN0) 2 (by decide) (by rw [he]; rfl) (by omega)
  have e3 : ∀ v : After V, v.w.cell? ⟨b, off + 3, none⟩ = some (.bool er) := tp_cell RV.out (j := 0) (hN0) 3 (by decide) (by rw [he]; rfl) (by omega)
  have He := hid he; clear he
  have w0 : IntKind.i64.wrap (hi - lo) = hi - lo := IntWalk.i64_in _ (by omega)
  go_wp2_with fail
  clear w0 hmn hmx d3
  refine whole_region 10 rfl (by kernel_rfl) ?_
  intro u0
  refine h_take 0 (x := ?_) rfl (by kernel_rfl) (by kernel_rfl) (by kernel_rfl) (fun _ _ _ h => h) (by rfl) (fun v => ?_) ?_
  rotate_left
  · (go_simp; try with_reducible rfl)
  try simp only [Act.put, List.setIfInBounds_toArray, List.set_cons_zero, List.set_cons_succ]
  refine h_take 1 (x := ?_) rfl (by kernel_rfl) (by kernel_rfl) (by kernel_rfl) (fun _ _ _ h => h) (by rfl) (fun v => ?_) ?_
  rotate_left
  · (go_simp; try with_reducible rfl)
  try simp only [Act.put, List.setIfInBounds_toArray, List.set_cons_zero, List.set_cons_succ]
  refine h_take 2 (x := ?_) rfl (by kernel_rfl) (by kernel_rfl) (by kernel_rfl) (fun _ _ _ h => h) (by rfl) (fun v => ?_) ?_
  rotate_left
  · (go_simp; try with_reducible rfl)
  try simp only [Act.put, List.setIfInBounds_toArray, List.set_cons_zero, List.set_cons_succ]
  refine h_take 3 (x := ?_) rfl (by kernel_rfl) (by kernel_rfl) (by kernel_rfl) (fun _ _ _ h => h) (by rfl) (fun v => ?_) ?_
  rotate_left
  · (go_simp; try with_reducible rfl)
  try simp only [Act.put, List.setIfInBounds_toArray, List.set_cons_zero, List.set_cons_succ]
  refine h_take 4 (x := ?_) rfl (by kernel_rfl) (by kernel_rfl) (by kernel_rfl) (fun _ _ _ h => h) (by rfl) (fun v => ?_) ?_
  rotate_left
  · (go_simp; try with_reducible rfl)
  try simp only [Act.put, List.setIfInBounds_toArray, List.set_cons_zero, List.set_cons_succ]
  refine h_take 5 (x := ?_) rfl (by kernel_rfl) (by kernel_rfl) (by kernel_rfl) (fun _ _ _ h => h) (by rfl) (fun v => ?_) ?_
  rotate_left
  · (go_simp; try with_reducible rfl)
  try simp only [Act.put, List.setIfInBounds_toArray, List.set_cons_zero, List.set_cons_succ]
  refine h_two 6 7 (by kernel_rfl) rfl rfl (fun K hK => ?_) (fun K hK => ?_)
  · go_simp
    obtain ⟨v1, hv1⟩ : ∃ y9 : After V, y9.w = u0.w.alloc (.cells #[.int .i64 0, .int .i64 0, .int .i64 0, .bool false] 53) := ⟨u0.on (b_alloc (Below.refl _ _) _), rfl⟩
    rw [← hv1]
    have hl : BoxIs V (u0.w.heap.size) ⟨0, 0, 0, false⟩ v1.w := by rw [hv1]; exact BoxIs.new u0.w_below ⟨0, 0, 0, false⟩
    have hzhl : V.heap.size ≤ u0.w.heap.size := u0.w_below.size
    have hl0 : u0.w.heap.size < v1.w.heap.size := hl.size
    clear hv1
    refine hK _ v1 ?_
    clear hK K
    try simp only [Act.put, List.setIfInBounds_toArray, List.set_cons_zero, List.set_cons_succ]
    refine h_step 7 (by kernel_rfl) rfl (fun K hK => ?_)
    go_simp
    obtain ⟨v2, hv1⟩ : ∃ y9 : After V, y9.w = v1.w.alloc (.cells #[.int .i64 0, .int .i64 0, .int .i64 0, .bool false] 53) := ⟨v1.on (b_alloc (Below.refl _ _) _), rfl⟩
    rw [← hv1]
    have hm : BoxIs V (v1.w.heap.size) ⟨0, 0, 0, false⟩ v2.w := by rw [hv1]; exact BoxIs.new v1.w_below ⟨0, 0, 0, false⟩
    have hzhm : V.heap.size ≤ v1.w.heap.size := v1.w_below.size
    have hl := hl.alloc (.cells #[.int .i64 0, .int .i64 0, .int .i64 0, .bool false] 53)
    rw [← hv1] at hl
    have hne : v1.w.heap.size ≠ u0.w.heap.size := fun h => by have := hl0; omega
    clear hv1
    refine hK _ v2 ?_
    clear hK K
    try simp only [Act.put, List.setIfInBounds_toArray, List.set_cons_zero, List.set_cons_succ]
    refine h_step 8 (by kernel_rfl) rfl (fun K hK => ?_)
    have p0 := hl.c0
    have pf0 := hl.f0
    have p1 := hl.c1
    have pf1 := hl.f1
    have p2 := hl.c2
    have pf2 := hl.f2
    have p3 := hl.c3
    have pf3 := hl.f3
    go_simp
    generalize hZ : World.setCell _ _ _ = Z
    have nhl : BoxIs V (u0.w.heap.size) ⟨ek, en, ed, er⟩ Z := by rw [← hZ]; exact hl.set hzhl ek en ed er
    have nhm : BoxIs V (v1.w.heap.size) ⟨0, 0, 0, false⟩ Z := by rw [← hZ]; exact hm.other hzhl (by omega) ek en ed er
    clear hl hm p0 p1 p2 p3 pf0 pf1 pf2 pf3 hZ
    have hl := nhl
    have hm := nhm
    clear nhl nhm
    obtain ⟨z3, rfl⟩ : ∃ y9 : After V, Z = y9.w := ⟨After.to hl.below, rfl⟩
    refine hK _ z3 ?_
    clear hK K
    try simp only [Act.put, List.setIfInBounds_toArray, List.set_cons_zero, List.set_cons_succ]
    refine h_step 9 (by kernel_rfl) rfl (fun K hK => ?_)
    have p0 := hm.c0
    have pf0 := hm.f0
    have p1 := hm.c1
    have pf1 := hm.f1
    have p2 := hm.c2
    have pf2 := hm.f2
    have p3 := hm.c3
    have pf3 := hm.f3
    go_simp
    generalize hZ : World.setCell _ _ _ = Z
    have nhm : BoxIs V (v1.w.heap.size) ⟨ek, en, ed, er⟩ Z := by rw [← hZ]; exact hm.set hzhm ek en ed er
    have nhl : BoxIs V (u0.w.heap.size) ⟨ek, en, ed, er⟩ Z := by rw [← hZ]; exact hl.other hzhm (by omega) ek en ed er
    clear hm hl p0 p1 p2 p3 pf0 pf1 pf2 pf3 hZ
    have hm := nhm
    have hl := nhl
    clear nhm nhl
    obtain ⟨z4, rfl⟩ : ∃ y9 : After V, Z = y9.w := ⟨After.to hm.below, rfl⟩
    refine hK _ z4 ?_
    clear hK K
    try simp only [Act.put, List.setIfInBounds_toArray, List.set_cons_zero, List.set_cons_succ]
    refine wpAnyH_done (by kernel_rfl) ?_ _
    refine NoPanic.normal ?_
    have hgb : v1.w.heap.size ≠ u0.w.heap.size := by omega
    generalize u0.w.heap.size = b0 at *
    generalize v1.w.heap.size = g at *
    have hzb := hzhl; have hzg := hzhm
    obtain ⟨Z0, hZ0⟩ : ∃ y : World, y = z4.w := ⟨_, rfl⟩
    rw [← hZ0] at hl hm ⊢
    have HL0 := hid hl; have HM0 := hid hm
    clear hl hm hZ0
    go_wp2_with fail
    go_loopw [14] (fun i wr => MPL m nn V b0 g i wr) (fun i _ => nn - (intOf i).toNat)
    case atStart => exact ⟨1, Nat.le_refl _, by omega, rfl, HL0.out.eq (by rw [show 1 - 1 = 0 from rfl]; exact He.out.symm), HM0.out.eq (by rw [show 1 - 1 = 0 from rfl]; exact He.out.symm)⟩
    case round =>
      obtain ⟨j, hj1, hj, rfl, hlo, htp⟩ := hrel
      have hloB := (low_is (chkT_good HK.out) (j - 1) (by rw [HN.out]; omega)).1
      have htpB := (top_is (chkT_good HK.out) (j - 1) (by rw [HN.out]; omega)).1
      obtain ⟨⟨lk, ln, ld, lr⟩, hlq⟩ : ∃ q, lowSp m (j - 1) = q := ⟨_, rfl⟩
      obtain ⟨⟨hk, hn, hd, hrr⟩, htq⟩ : ∃ q, topSp m (j - 1) = q := ⟨_, rfl⟩
      rw [hlq] at hlo hloB
      rw [htq] at htp htpB
      have bl := sp_bd (chkT_good HK.out) (by rw [HN.out]; omega) hloB
      have bh := sp_bd (chkT_good HK.out) (by rw [HN.out]; omega) htpB
      dsimp only at bl bh
      have HLQ := hid hlq; have HTQ := hid htq; have HLO := hid hlo; have HTP := hid htp
      clear hlq htq hloB htpB hlo htp
      by_cases hlt : j < nn
      · have hjj : (j : Int) < (nn : Int) := by omega
        have d1 : decide (j < nn) = true := decide_eq_true hlt
        have hjm : j < m.length := by rw [HN.out]; exact hlt
        have bx := pt_at (chkT_good HK.out) hjm
        obtain ⟨⟨xk, xn, xd, xr⟩, hx⟩ : ∃ t, tp m j = t := ⟨_, rfl⟩
        rw [hx] at bx
        dsimp only at bx
        have Hx := hid hx; clear hx
        have m1 := mul_bd (show 0 ≤ xn by omega) bx.2.2.1 (show 0 ≤ ld by omega) bl.2.2.2
        have m2 := mul_bd (show 0 ≤ ln by omega) bl.2.1 (show 0 ≤ xd by omega) bx.2.2.2.2
        have m3 := mul_bd (show 0 ≤ xn by omega) bx.2.2.1 (show 0 ≤ hd by omega) bh.2.2.2
        have m4 := mul_bd (show 0 ≤ hn by omega) bh.2.1 (show 0 ≤ xd by omega) bx.2.2.2.2
        have w1 : IntKind.i64.wrap (xn * ld) = xn * ld := IntWalk.i64_in _ (by omega)
        have w2 : IntKind.i64.wrap (ln * xd) = ln * xd := IntWalk.i64_in _ (by omega)
        have w3 : IntKind.i64.wrap (xn * hd) = xn * hd := IntWalk.i64_in _ (by omega)
        have w4 : IntKind.i64.wrap (hn * xd) = hn * xd := IntWalk.i64_in _ (by omega)
        clear m1 m2 m3 m4 bx bl bh
        have RJ := hid (fun v : After wr => HR.out (After.to (b_then (b_then hWV HLO.out.below) v.2)))
        have x0 : ∀ v : After wr, v.w.cell? ⟨b, off + j * 4, none⟩ = some (.int .i64 xk) := tp_cell RJ.out (j := j) hjm 0 (by decide) (by rw [Hx.out]; rfl) rfl
        have x1 : ∀ v : After wr, v.w.cell? ⟨b, off + j * 4 + 1, none⟩ = some (.int .i64 xn) := tp_cell RJ.out (j := j) hjm 1 (by decide) (by rw [Hx.out]; rfl) (by omega)
        have x2 : ∀ v : After wr, v.w.cell? ⟨b, off + j * 4 + 2, none⟩ = some (.int .i64 xd) := tp_cell RJ.out (j := j) hjm 2 (by decide) (by rw [Hx.out]; rfl) (by omega)
        have x3 : ∀ v : After wr, v.w.cell? ⟨b, off + j * 4 + 3, none⟩ = some (.bool xr) := tp_cell RJ.out (j := j) hjm 3 (by decide) (by rw [Hx.out]; rfl) (by omega)
        have k1 : ∀ v : After wr, v.w.cell? ⟨b0, 1, none⟩ = some (.int .i64 ln) := after_cell HLO.out.size HLO.out.c1
        have k2 : ∀ v : After wr, v.w.cell? ⟨b0, 2, none⟩ = some (.int .i64 ld) := after_cell HLO.out.size HLO.out.c2
        go_wp2_with fail
        obtain ⟨u6, hu6⟩ : ∃ u : After wr, u.w = wr := ⟨After.here wr, rfl⟩
        rw [← hu6]
        clear hu6
        rcases hg1 : decide (xn * ld < ln * xd) with _ | _
        · have gg1 := hid hg1
          refine wp_region_since (by kernel_rfl) (by kernel_rfl) ?_
          repeat (go_big_quiet_step (fail))
          refine wpQuiet_nil ?_
          intro u7
          clear hg1 x0 x1 x2 x3 k1 k2
          go_wp2_with fail
          obtain ⟨W7, hW7⟩ : ∃ y : World, y = u7.w := ⟨_, rfl⟩
          have HLO7 := hid (HLO.out.after u7.w_below); have HTP7 := hid (HTP.out.after u7.w_below)
          have hbl7 : BoxIs V b0 ⟨lk, ln, ld, lr⟩ W7 := by rw [hW7]; exact HLO7.out
          have htp7 : BoxIs V g ⟨hk, hn, hd, hrr⟩ W7 := by rw [hW7]; exact HTP7.out
          rw [← hW7]
          clear hW7
          have LO := hid hbl7; have TP := hid htp7
          have k1 : ∀ v : After W7, v.w.cell? ⟨g, 1, none⟩ = some (.int .i64 hn) := after_cell TP.out.size TP.out.c1
          have k2 : ∀ v : After W7, v.w.cell? ⟨g, 2, none⟩ = some (.int .i64 hd) := after_cell TP.out.size TP.out.c2
          have RJ2 := hid (fun v : After W7 => HR.out (After.to (b_then (b_then hWV LO.out.below) v.2)))
          have x0 : ∀ v : After W7, v.w.cell? ⟨b, off + j * 4, none⟩ = some (.int .i64 xk) := tp_cell RJ2.out (j := j) hjm 0 (by decide) (by rw [Hx.out]; rfl) rfl
          have x1 : ∀ v : After W7, v.w.cell? ⟨b, off + j * 4 + 1, none⟩ = some (.int .i64 xn) := tp_cell RJ2.out (j := j) hjm 1 (by decide) (by rw [Hx.out]; rfl) (by omega)
          have x2 : ∀ v : After W7, v.w.cell? ⟨b, off + j * 4 + 2, none⟩ = some (.int .i64 xd) := tp_cell RJ2.out (j := j) hjm 2 (by decide) (by rw [Hx.out]; rfl) (by omega)
          have x3 : ∀ v : After W7, v.w.cell? ⟨b, off + j * 4 + 3, none⟩ = some (.bool xr) := tp_cell RJ2.out (j := j) hjm 3 (by decide) (by rw [Hx.out]; rfl) (by omega)
          obtain ⟨u8, hu8⟩ : ∃ u : After W7, u.w = W7 := ⟨After.here W7, rfl⟩
          rw [← hu8]
          clear hu8
          rcases hg2 : decide (hn * xd < xn * hd) with _ | _
          · have gg2 := hid hg2
            refine wp_region_since (by kernel_rfl) (by kernel_rfl) ?_
            repeat (go_big_quiet_step (fail))
            refine wpQuiet_nil ?_
            intro u9
            clear hg2
            go_wp2_with fail
            clear w1 w2 w3 w4
            go_roundw
            case rel => exact ⟨j + 1, by omega, by omega, by go_num, (LO.out.after u9.w_below).eq (by rw [low_step hj1, Hx.out, HLQ.out, if_neg (by simpa using gg1.out)]), (TP.out.after u9.w_below).eq (by rw [top_step hj1, Hx.out, HTQ.out, if_neg (by simpa using gg2.out)])⟩
            case measure => first | (simp [intOf]; done) | (simp [intOf]; omega)
          · have gg2 := hid hg2
            refine wp_region_since (by kernel_rfl) (by kernel_rfl) ?_
            repeat (go_big_quiet_step (fail))
            refine wpQuiet_nil ?_
            intro u9
            clear hg2
            have y0 := x0 u9
            have y1 := x1 u9
            have y2 := x2 u9
            have y3 := x3 u9
            have TP9 := hid (TP.out.after u9.w_below); have LO9 := hid (LO.out.after u9.w_below)
            have p0 := TP9.out.c0
            have pf0 := TP9.out.f0
            have p1 := TP9.out.c1
            have pf1 := TP9.out.f1
            have p2 := TP9.out.c2
            have pf2 := TP9.out.f2
            have p3 := TP9.out.c3
            have pf3 := TP9.out.f3
            clear x0 x1 x2 x3 k1 k2
            go_wp2_with fail
            clear w1 w2 w3 w4
            go_roundw
            case rel => exact ⟨j + 1, by omega, by omega, by go_num, (LO9.out.other hzg hgb xk xn xd xr).eq (by rw [low_step hj1, Hx.out, HLQ.out, if_neg (by simpa using gg1.out)]), (TP9.out.set hzg xk xn xd xr).eq (by rw [top_step hj1, Hx.out, HTQ.out, if_pos (by simpa using gg2.out)])⟩
            case measure => first | (simp [intOf]; done) | (simp [intOf]; omega)
        · have gg1 := hid hg1
          refine wp_region_since (by kernel_rfl) (by kernel_rfl) ?_
          repeat (go_big_quiet_step (fail))
          refine wpQuiet_nil ?_
          intro u7
          have y0 := x0 u7
          have y1 := x1 u7
          have y2 := x2 u7
          have y3 := x3 u7
          have HLO7 := hid (HLO.out.after u7.w_below); have HTP7 := hid (HTP.out.after u7.w_below)
          have p0 := HLO7.out.c0
          have pf0 := HLO7.out.f0
          have p1 := HLO7.out.c1
          have pf1 := HLO7.out.f1
          have p2 := HLO7.out.c2
          have pf2 := HLO7.out.f2
          have p3 := HLO7.out.c3
          have pf3 := HLO7.out.f3
          clear hg1 x0 x1 x2 x3 k1 k2
          go_wp2_with fail
          clear y0 y1 y2 y3 p0 p1 p2 p3 pf0 pf1 pf2 pf3
          generalize hW7 : World.setCell _ _ _ = W7
          have hbl7 : BoxIs V b0 ⟨xk, xn, xd, xr⟩ W7 := by rw [← hW7]; exact HLO7.out.set hzb xk xn xd xr
          have htp7 : BoxIs V g ⟨hk, hn, hd, hrr⟩ W7 := by rw [← hW7]; exact HTP7.out.other hzb (Ne.symm hgb) xk xn xd xr
          clear hW7
          have LO := hid hbl7; have TP := hid htp7
          have k1 : ∀ v : After W7, v.w.cell? ⟨g, 1, none⟩ = some (.int .i64 hn) := after_cell TP.out.size TP.out.c1
          have k2 : ∀ v : After W7, v.w.cell? ⟨g, 2, none⟩ = some (.int .i64 hd) := after_cell TP.out.size TP.out.c2
          have RJ2 := hid (fun v : After W7 => HR.out (After.to (b_then (b_then hWV LO.out.below) v.2)))
          have x0 : ∀ v : After W7, v.w.cell? ⟨b, off + j * 4, none⟩ = some (.int .i64 xk) := tp_cell RJ2.out (j := j) hjm 0 (by decide) (by rw [Hx.out]; rfl) rfl
          have x1 : ∀ v : After W7, v.w.cell? ⟨b, off + j * 4 + 1, none⟩ = some (.int .i64 xn) := tp_cell RJ2.out (j := j) hjm 1 (by decide) (by rw [Hx.out]; rfl) (by omega)
          have x2 : ∀ v : After W7, v.w.cell? ⟨b, off + j * 4 + 2, none⟩ = some (.int .i64 xd) := tp_cell RJ2.out (j := j) hjm 2 (by decide) (by rw [Hx.out]; rfl) (by omega)
          have x3 : ∀ v : After W7, v.w.cell? ⟨b, off + j * 4 + 3, none⟩ = some (.bool xr) := tp_cell RJ2.out (j := j) hjm 3 (by decide) (by rw [Hx.out]; rfl) (by omega)
          obtain ⟨u8, hu8⟩ : ∃ u : After W7, u.w = W7 := ⟨After.here W7, rfl⟩
          rw [← hu8]
          clear hu8
          rcases hg2 : decide (hn * xd < xn * hd) with _ | _
          · have gg2 := hid hg2
            refine wp_region_since (by kernel_rfl) (by kernel_rfl) ?_
            repeat (go_big_quiet_step (fail))
            refine wpQuiet_nil ?_
            intro u9
            clear hg2
            go_wp2_with fail
            clear w1 w2 w3 w4
            go_roundw
            case rel => exact ⟨j + 1, by omega, by omega, by go_num, (LO.out.after u9.w_below).eq (by rw [low_step hj1, Hx.out, HLQ.out, if_pos (by simpa using gg1.out)]), (TP.out.after u9.w_below).eq (by rw [top_step hj1, Hx.out, HTQ.out, if_neg (by simpa using gg2.out)])⟩
            case measure => first | (simp [intOf]; done) | (simp [intOf]; omega)
          · have gg2 := hid hg2
            refine wp_region_since (by kernel_rfl) (by kernel_rfl) ?_
            repeat (go_big_quiet_step (fail))
            refine wpQuiet_nil ?_
            intro u9
            clear hg2
            have y0 := x0 u9
            have y1 := x1 u9
            have y2 := x2 u9
            have y3 := x3 u9
            have TP9 := hid (TP.out.after u9.w_below); have LO9 := hid (LO.out.after u9.w_below)
            have p0 := TP9.out.c0
            have pf0 := TP9.out.f0
            have p1 := TP9.out.c1
            have pf1 := TP9.out.f1
            have p2 := TP9.out.c2
            have pf2 := TP9.out.f2
            have p3 := TP9.out.c3
            have pf3 := TP9.out.f3
            clear x0 x1 x2 x3 k1 k2
            go_wp2_with fail
            clear w1 w2 w3 w4
            go_roundw
            case rel => exact ⟨j + 1, by omega, by omega, by go_num, (LO9.out.other hzg hgb xk xn xd xr).eq (by rw [low_step hj1, Hx.out, HLQ.out, if_pos (by simpa using gg1.out)]), (TP9.out.set hzg xk xn xd xr).eq (by rw [top_step hj1, Hx.out, HTQ.out, if_pos (by simpa using gg2.out)])⟩
            case measure => first | (simp [intOf]; done) | (simp [intOf]; omega)
      · obtain rfl : j = nn := by omega
        have d1 : decide (j < j) = false := decide_eq_false (by omega)
        have q1 := HLO.out.c1
        have q2 := HLO.out.c2
        have q3 := HTP.out.c1
        have q4 := HTP.out.c2
        have hlow := (low_is (chkT_good HK.out) (j - 1) (by rw [HN.out]; omega)).2
        have htop := (top_is (chkT_good HK.out) (j - 1) (by rw [HN.out]; omega)).2
        rw [HLQ.out] at hlow
        rw [HTQ.out] at htop
        have r1 := mono_lo (chkT_good HK.out) (N := ln) (D := ld) (by omega) (fun i hi => hlow i (by rw [HN.out] at hi; omega)) (a := lo) (b := hi) h0lo hlh
        have r2 := mono_hi (chkT_good HK.out) (N := hn) (D := hd) (by omega) (fun i hi => htop i (by rw [HN.out] at hi; omega)) (a := lo) (b := hi) h0lo hlh
        rw [HSX.out, HSY.out, HN.out] at r1 r2
        clear hlow htop
        have hl64 := hl64
        have m1 := mul_bd (show 0 ≤ hi - lo by omega) (show hi - lo ≤ 16777216 by omega) (show 0 ≤ ln by omega) bl.2.1
        have m2 := mul_bd (show 0 ≤ hi - lo by omega) (show hi - lo ≤ 16777216 by omega) (show 0 ≤ hn by omega) bh.2.1
        have e1 : 0 ≤ (hi - lo) * ln / ld := Int.ediv_nonneg m1.1 (by omega)
        have e2 : (hi - lo) * ln / ld ≤ (hi - lo) * ln := Int.ediv_le_self _ m1.1
        have e3 : 0 ≤ (hi - lo) * hn / hd := Int.ediv_nonneg m2.1 (by omega)
        have e4 : (hi - lo) * hn / hd ≤ (hi - lo) * hn := Int.ediv_le_self _ m2.1
        have w1 : IntKind.i64.wrap ((hi - lo) * ln) = (hi - lo) * ln := IntWalk.i64_in _ (by omega)
        have w2 : IntKind.i64.wrap ((hi - lo) * hn) = (hi - lo) * hn := IntWalk.i64_in _ (by omega)
        have w3 : IntKind.i64.wrap (((hi - lo) * ln).tdiv ld) = (hi - lo) * ln / ld := IntWalk.i64_quo _ _ (by omega)
        have w4 : IntKind.i64.wrap (((hi - lo) * hn).tdiv hd) = (hi - lo) * hn / hd := IntWalk.i64_quo _ _ (by omega)
        have w5 : IntKind.i64.wrap ((hi - lo) * ln / ld - j) = (hi - lo) * ln / ld - j := IntWalk.i64_in _ (by omega)
        have w6 : IntKind.i64.wrap ((hi - lo) * hn / hd + j) = (hi - lo) * hn / hd + j := IntWalk.i64_in _ (by omega)
        have w7 : IntKind.i64.wrap (sy - sx) = sy - sx := IntWalk.i64_in _ (by omega)
        have z1 : ¬ ld = 0 := by omega
        have z2 : ¬ hd = 0 := by omega
        have f1 : decide ((hi - lo) * ln / ld - j ≤ sy - sx) = true := decide_eq_true r1
        have f2 : decide (sy - sx ≤ (hi - lo) * hn / hd + j) = true := decide_eq_true r2
        clear r1 r2 m1 m2 e1 e2 e3 e4
        go_wp2_with fail
        exact bodyPost_ret (v := .bool true) (by simp [results, Try.results14, go_sem]) rfl ⟨rfl, b_then hWV HLO.out.below⟩
    
  · go_simp
    obtain ⟨v1, hv1⟩ : ∃ y9 : After V, y9.w = u0.w.alloc (.cells #[.int .i64 0, .int .i64 0, .int .i64 0, .bool false] 53) := ⟨u0.on (b_alloc (Below.refl _ _) _), rfl⟩
    rw [← hv1]
    have hm : BoxIs V (u0.w.heap.size) ⟨0, 0, 0, false⟩ v1.w := by rw [hv1]; exact BoxIs.new u0.w_below ⟨0, 0, 0, false⟩
    have hzhm : V.heap.size ≤ u0.w.heap.size := u0.w_below.size
    have hm0 : u0.w.heap.size < v1.w.heap.size := hm.size
    clear hv1
    refine hK _ v1 ?_
    clear hK K
    try simp only [Act.put, List.setIfInBounds_toArray, List.set_cons_zero, List.set_cons_succ]
    refine h_step 6 (by kernel_rfl) rfl (fun K hK => ?_)
    go_simp
    obtain ⟨v2, hv1⟩ : ∃ y9 : After V, y9.w = v1.w.alloc (.cells #[.int .i64 0, .int .i64 0, .int .i64 0, .bool false] 53) := ⟨v1.on (b_alloc (Below.refl _ _) _), rfl⟩
    rw [← hv1]
    have hl : BoxIs V (v1.w.heap.size) ⟨0, 0, 0, false⟩ v2.w := by rw [hv1]; exact BoxIs.new v1.w_below ⟨0, 0, 0, false⟩
    have hzhl : V.heap.size ≤ v1.w.heap.size := v1.w_below.size
    have hm := hm.alloc (.cells #[.int .i64 0, .int .i64 0, .int .i64 0, .bool false] 53)
    rw [← hv1] at hm
    have hne : v1.w.heap.size ≠ u0.w.heap.size := fun h => by have := hm0; omega
    clear hv1
    refine hK _ v2 ?_
    clear hK K
    try simp only [Act.put, List.setIfInBounds_toArray, List.set_cons_zero, List.set_cons_succ]
    refine h_step 8 (by kernel_rfl) rfl (fun K hK => ?_)
    have p0 := hl.c0
    have pf0 := hl.f0
    have p1 := hl.c1
    have pf1 := hl.f1
    have p2 := hl.c2
    have pf2 := hl.f2
    have p3 := hl.c3
    have pf3 := hl.f3
    go_simp
    generalize hZ : World.setCell _ _ _ = Z
    have nhl : BoxIs V (v1.w.heap.size) ⟨ek, en, ed, er⟩ Z := by rw [← hZ]; exact hl.set hzhl ek en ed er
    have nhm : BoxIs V (u0.w.heap.size) ⟨0, 0, 0, false⟩ Z := by rw [← hZ]; exact hm.other hzhl (by omega) ek en ed er
    clear hl hm p0 p1 p2 p3 pf0 pf1 pf2 pf3 hZ
    have hl := nhl
    have hm := nhm
    clear nhl nhm
    obtain ⟨z3, rfl⟩ : ∃ y9 : After V, Z = y9.w := ⟨After.to hl.below, rfl⟩
    refine hK _ z3 ?_
    clear hK K
    try simp only [Act.put, List.setIfInBounds_toArray, List.set_cons_zero, List.set_cons_succ]
    refine h_step 9 (by kernel_rfl) rfl (fun K hK => ?_)
    have p0 := hm.c0
    have pf0 := hm.f0
    have p1 := hm.c1
    have pf1 := hm.f1
    have p2 := hm.c2
    have pf2 := hm.f2
    have p3 := hm.c3
    have pf3 := hm.f3
    go_simp
    generalize hZ : World.setCell _ _ _ = Z
    have nhm : BoxIs V (u0.w.heap.size) ⟨ek, en, ed, er⟩ Z := by rw [← hZ]; exact hm.set hzhm ek en ed er
    have nhl : BoxIs V (v1.w.heap.size) ⟨ek, en, ed, er⟩ Z := by rw [← hZ]; exact hl.other hzhm (by omega) ek en ed er
    clear hm hl p0 p1 p2 p3 pf0 pf1 pf2 pf3 hZ
    have hm := nhm
    have hl := nhl
    clear nhm nhl
    obtain ⟨z4, rfl⟩ : ∃ y9 : After V, Z = y9.w := ⟨After.to hm.below, rfl⟩
    refine hK _ z4 ?_
    clear hK K
    try simp only [Act.put, List.setIfInBounds_toArray, List.set_cons_zero, List.set_cons_succ]
    refine wpAnyH_done (by kernel_rfl) ?_ _
    refine NoPanic.normal ?_
    have hgb : u0.w.heap.size ≠ v1.w.heap.size := by omega
    generalize v1.w.heap.size = b0 at *
    generalize u0.w.heap.size = g at *
    have hzb := hzhl; have hzg := hzhm
    obtain ⟨Z0, hZ0⟩ : ∃ y : World, y = z4.w := ⟨_, rfl⟩
    rw [← hZ0] at hl hm ⊢
    have HL0 := hid hl; have HM0 := hid hm
    clear hl hm hZ0
    go_wp2_with fail
    go_loopw [14] (fun i wr => MPL m nn V b0 g i wr) (fun i _ => nn - (intOf i).toNat)
    case atStart => exact ⟨1, Nat.le_refl _, by omega, rfl, HL0.out.eq (by rw [show 1 - 1 = 0 from rfl]; exact He.out.symm), HM0.out.eq (by rw [show 1 - 1 = 0 from rfl]; exact He.out.symm)⟩
    case round =>
      obtain ⟨j, hj1, hj, rfl, hlo, htp⟩ := hrel
      have hloB := (low_is (chkT_good HK.out) (j - 1) (by rw [HN.out]; omega)).1
      have htpB := (top_is (chkT_good HK.out) (j - 1) (by rw [HN.out]; omega)).1
      obtain ⟨⟨lk, ln, ld, lr⟩, hlq⟩ : ∃ q, lowSp m (j - 1) = q := ⟨_, rfl⟩
      obtain ⟨⟨hk, hn, hd, hrr⟩, htq⟩ : ∃ q, topSp m (j - 1) = q := ⟨_, rfl⟩
      rw [hlq] at hlo hloB
      rw [htq] at htp htpB
      have bl := sp_bd (chkT_good HK.out) (by rw [HN.out]; omega) hloB
      have bh := sp_bd (chkT_good HK.out) (by rw [HN.out]; omega) htpB
      dsimp only at bl bh
      have HLQ := hid hlq; have HTQ := hid htq; have HLO := hid hlo; have HTP := hid htp
      clear hlq htq hloB htpB hlo htp
      by_cases hlt : j < nn
      · have hjj : (j : Int) < (nn : Int) := by omega
        have d1 : decide (j < nn) = true := decide_eq_true hlt
        have hjm : j < m.length := by rw [HN.out]; exact hlt
        have bx := pt_at (chkT_good HK.out) hjm
        obtain ⟨⟨xk, xn, xd, xr⟩, hx⟩ : ∃ t, tp m j = t := ⟨_, rfl⟩
        rw [hx] at bx
        dsimp only at bx
        have Hx := hid hx; clear hx
        have m1 := mul_bd (show 0 ≤ xn by omega) bx.2.2.1 (show 0 ≤ ld by omega) bl.2.2.2
        have m2 := mul_bd (show 0 ≤ ln by omega) bl.2.1 (show 0 ≤ xd by omega) bx.2.2.2.2
        have m3 := mul_bd (show 0 ≤ xn by omega) bx.2.2.1 (show 0 ≤ hd by omega) bh.2.2.2
        have m4 := mul_bd (show 0 ≤ hn by omega) bh.2.1 (show 0 ≤ xd by omega) bx.2.2.2.2
        have w1 : IntKind.i64.wrap (xn * ld) = xn * ld := IntWalk.i64_in _ (by omega)
        have w2 : IntKind.i64.wrap (ln * xd) = ln * xd := IntWalk.i64_in _ (by omega)
        have w3 : IntKind.i64.wrap (xn * hd) = xn * hd := IntWalk.i64_in _ (by omega)
        have w4 : IntKind.i64.wrap (hn * xd) = hn * xd := IntWalk.i64_in _ (by omega)
        clear m1 m2 m3 m4 bx bl bh
        have RJ := hid (fun v : After wr => HR.out (After.to (b_then (b_then hWV HLO.out.below) v.2)))
        have x0 : ∀ v : After wr, v.w.cell? ⟨b, off + j * 4, none⟩ = some (.int .i64 xk) := tp_cell RJ.out (j := j) hjm 0 (by decide) (by rw [Hx.out]; rfl) rfl
        have x1 : ∀ v : After wr, v.w.cell? ⟨b, off + j * 4 + 1, none⟩ = some (.int .i64 xn) := tp_cell RJ.out (j := j) hjm 1 (by decide) (by rw [Hx.out]; rfl) (by omega)
        have x2 : ∀ v : After wr, v.w.cell? ⟨b, off + j * 4 + 2, none⟩ = some (.int .i64 xd) := tp_cell RJ.out (j := j) hjm 2 (by decide) (by rw [Hx.out]; rfl) (by omega)
        have x3 : ∀ v : After wr, v.w.cell? ⟨b, off + j * 4 + 3, none⟩ = some (.bool xr) := tp_cell RJ.out (j := j) hjm 3 (by decide) (by rw [Hx.out]; rfl) (by omega)
        have k1 : ∀ v : After wr, v.w.cell? ⟨b0, 1, none⟩ = some (.int .i64 ln) := after_cell HLO.out.size HLO.out.c1
        have k2 : ∀ v : After wr, v.w.cell? ⟨b0, 2, none⟩ = some (.int .i64 ld) := after_cell HLO.out.size HLO.out.c2
        go_wp2_with fail
        obtain ⟨u6, hu6⟩ : ∃ u : After wr, u.w = wr := ⟨After.here wr, rfl⟩
        rw [← hu6]
        clear hu6
        rcases hg1 : decide (xn * ld < ln * xd) with _ | _
        · have gg1 := hid hg1
          refine wp_region_since (by kernel_rfl) (by kernel_rfl) ?_
          repeat (go_big_quiet_step (fail))
          refine wpQuiet_nil ?_
          intro u7
          clear hg1 x0 x1 x2 x3 k1 k2
          go_wp2_with fail
          obtain ⟨W7, hW7⟩ : ∃ y : World, y = u7.w := ⟨_, rfl⟩
          have HLO7 := hid (HLO.out.after u7.w_below); have HTP7 := hid (HTP.out.after u7.w_below)
          have hbl7 : BoxIs V b0 ⟨lk, ln, ld, lr⟩ W7 := by rw [hW7]; exact HLO7.out
          have htp7 : BoxIs V g ⟨hk, hn, hd, hrr⟩ W7 := by rw [hW7]; exact HTP7.out
          rw [← hW7]
          clear hW7
          have LO := hid hbl7; have TP := hid htp7
          have k1 : ∀ v : After W7, v.w.cell? ⟨g, 1, none⟩ = some (.int .i64 hn) := after_cell TP.out.size TP.out.c1
          have k2 : ∀ v : After W7, v.w.cell? ⟨g, 2, none⟩ = some (.int .i64 hd) := after_cell TP.out.size TP.out.c2
          have RJ2 := hid (fun v : After W7 => HR.out (After.to (b_then (b_then hWV LO.out.below) v.2)))
          have x0 : ∀ v : After W7, v.w.cell? ⟨b, off + j * 4, none⟩ = some (.int .i64 xk) := tp_cell RJ2.out (j := j) hjm 0 (by decide) (by rw [Hx.out]; rfl) rfl
          have x1 : ∀ v : After W7, v.w.cell? ⟨b, off + j * 4 + 1, none⟩ = some (.int .i64 xn) := tp_cell RJ2.out (j := j) hjm 1 (by decide) (by rw [Hx.out]; rfl) (by omega)
          have x2 : ∀ v : After W7, v.w.cell? ⟨b, off + j * 4 + 2, none⟩ = some (.int .i64 xd) := tp_cell RJ2.out (j := j) hjm 2 (by decide) (by rw [Hx.out]; rfl) (by omega)
          have x3 : ∀ v : After W7, v.w.cell? ⟨b, off + j * 4 + 3, none⟩ = some (.bool xr) := tp_cell RJ2.out (j := j) hjm 3 (by decide) (by rw [Hx.out]; rfl) (by omega)
          obtain ⟨u8, hu8⟩ : ∃ u : After W7, u.w = W7 := ⟨After.here W7, rfl⟩
          rw [← hu8]
          clear hu8
          rcases hg2 : decide (hn * xd < xn * hd) with _ | _
          · have gg2 := hid hg2
            refine wp_region_since (by kernel_rfl) (by kernel_rfl) ?_
            repeat (go_big_quiet_step (fail))
            refine wpQuiet_nil ?_
            intro u9
            clear hg2
            go_wp2_with fail
            clear w1 w2 w3 w4
            go_roundw
            case rel => exact ⟨j + 1, by omega, by omega, by go_num, (LO.out.after u9.w_below).eq (by rw [low_step hj1, Hx.out, HLQ.out, if_neg (by simpa using gg1.out)]), (TP.out.after u9.w_below).eq (by rw [top_step hj1, Hx.out, HTQ.out, if_neg (by simpa using gg2.out)])⟩
            case measure => first | (simp [intOf]; done) | (simp [intOf]; omega)
          · have gg2 := hid hg2
            refine wp_region_since (by kernel_rfl) (by kernel_rfl) ?_
            repeat (go_big_quiet_step (fail))
            refine wpQuiet_nil ?_
            intro u9
            clear hg2
            have y0 := x0 u9
            have y1 := x1 u9
            have y2 := x2 u9
            have y3 := x3 u9
            have TP9 := hid (TP.out.after u9.w_below); have LO9 := hid (LO.out.after u9.w_below)
            have p0 := TP9.out.c0
            have pf0 := TP9.out.f0
            have p1 := TP9.out.c1
            have pf1 := TP9.out.f1
            have p2 := TP9.out.c2
            have pf2 := TP9.out.f2
            have p3 := TP9.out.c3
            have pf3 := TP9.out.f3
            clear x0 x1 x2 x3 k1 k2
            go_wp2_with fail
            clear w1 w2 w3 w4
            go_roundw
            case rel => exact ⟨j + 1, by omega, by omega, by go_num, (LO9.out.other hzg hgb xk xn xd xr).eq (by rw [low_step hj1, Hx.out, HLQ.out, if_neg (by simpa using gg1.out)]), (TP9.out.set hzg xk xn xd xr).eq (by rw [top_step hj1, Hx.out, HTQ.out, if_pos (by simpa using gg2.out)])⟩
            case measure => first | (simp [intOf]; done) | (simp [intOf]; omega)
        · have gg1 := hid hg1
          refine wp_region_since (by kernel_rfl) (by kernel_rfl) ?_
          repeat (go_big_quiet_step (fail))
          refine wpQuiet_nil ?_
          intro u7
          have y0 := x0 u7
          have y1 := x1 u7
          have y2 := x2 u7
          have y3 := x3 u7
          have HLO7 := hid (HLO.out.after u7.w_below); have HTP7 := hid (HTP.out.after u7.w_below)
          have p0 := HLO7.out.c0
          have pf0 := HLO7.out.f0
          have p1 := HLO7.out.c1
          have pf1 := HLO7.out.f1
          have p2 := HLO7.out.c2
          have pf2 := HLO7.out.f2
          have p3 := HLO7.out.c3
          have pf3 := HLO7.out.f3
          clear hg1 x0 x1 x2 x3 k1 k2
          go_wp2_with fail
          clear y0 y1 y2 y3 p0 p1 p2 p3 pf0 pf1 pf2 pf3
          generalize hW7 : World.setCell _ _ _ = W7
          have hbl7 : BoxIs V b0 ⟨xk, xn, xd, xr⟩ W7 := by rw [← hW7]; exact HLO7.out.set hzb xk xn xd xr
          have htp7 : BoxIs V g ⟨hk, hn, hd, hrr⟩ W7 := by rw [← hW7]; exact HTP7.out.other hzb (Ne.symm hgb) xk xn xd xr
          clear hW7
          have LO := hid hbl7; have TP := hid htp7
          have k1 : ∀ v : After W7, v.w.cell? ⟨g, 1, none⟩ = some (.int .i64 hn) := after_cell TP.out.size TP.out.c1
          have k2 : ∀ v : After W7, v.w.cell? ⟨g, 2, none⟩ = some (.int .i64 hd) := after_cell TP.out.size TP.out.c2
          have RJ2 := hid (fun v : After W7 => HR.out (After.to (b_then (b_then hWV LO.out.below) v.2)))
          have x0 : ∀ v : After W7, v.w.cell? ⟨b, off + j * 4, none⟩ = some (.int .i64 xk) := tp_cell RJ2.out (j := j) hjm 0 (by decide) (by rw [Hx.out]; rfl) rfl
          have x1 : ∀ v : After W7, v.w.cell? ⟨b, off + j * 4 + 1, none⟩ = some (.int .i64 xn) := tp_cell RJ2.out (j := j) hjm 1 (by decide) (by rw [Hx.out]; rfl) (by omega)
          have x2 : ∀ v : After W7, v.w.cell? ⟨b, off + j * 4 + 2, none⟩ = some (.int .i64 xd) := tp_cell RJ2.out (j := j) hjm 2 (by decide) (by rw [Hx.out]; rfl) (by omega)
          have x3 : ∀ v : After W7, v.w.cell? ⟨b, off + j * 4 + 3, none⟩ = some (.bool xr) := tp_cell RJ2.out (j := j) hjm 3 (by decide) (by rw [Hx.out]; rfl) (by omega)
          obtain ⟨u8, hu8⟩ : ∃ u : After W7, u.w = W7 := ⟨After.here W7, rfl⟩
          rw [← hu8]
          clear hu8
          rcases hg2 : decide (hn * xd < xn * hd) with _ | _
          · have gg2 := hid hg2
            refine wp_region_since (by kernel_rfl) (by kernel_rfl) ?_
            repeat (go_big_quiet_step (fail))
            refine wpQuiet_nil ?_
            intro u9
            clear hg2
            go_wp2_with fail
            clear w1 w2 w3 w4
            go_roundw
            case rel => exact ⟨j + 1, by omega, by omega, by go_num, (LO.out.after u9.w_below).eq (by rw [low_step hj1, Hx.out, HLQ.out, if_pos (by simpa using gg1.out)]), (TP.out.after u9.w_below).eq (by rw [top_step hj1, Hx.out, HTQ.out, if_neg (by simpa using gg2.out)])⟩
            case measure => first | (simp [intOf]; done) | (simp [intOf]; omega)
          · have gg2 := hid hg2
            refine wp_region_since (by kernel_rfl) (by kernel_rfl) ?_
            repeat (go_big_quiet_step (fail))
            refine wpQuiet_nil ?_
            intro u9
            clear hg2
            have y0 := x0 u9
            have y1 := x1 u9
            have y2 := x2 u9
            have y3 := x3 u9
            have TP9 := hid (TP.out.after u9.w_below); have LO9 := hid (LO.out.after u9.w_below)
            have p0 := TP9.out.c0
            have pf0 := TP9.out.f0
            have p1 := TP9.out.c1
            have pf1 := TP9.out.f1
            have p2 := TP9.out.c2
            have pf2 := TP9.out.f2
            have p3 := TP9.out.c3
            have pf3 := TP9.out.f3
            clear x0 x1 x2 x3 k1 k2
            go_wp2_with fail
            clear w1 w2 w3 w4
            go_roundw
            case rel => exact ⟨j + 1, by omega, by omega, by go_num, (LO9.out.other hzg hgb xk xn xd xr).eq (by rw [low_step hj1, Hx.out, HLQ.out, if_pos (by simpa using gg1.out)]), (TP9.out.set hzg xk xn xd xr).eq (by rw [top_step hj1, Hx.out, HTQ.out, if_pos (by simpa using gg2.out)])⟩
            case measure => first | (simp [intOf]; done) | (simp [intOf]; omega)
      · obtain rfl : j = nn := by omega
        have d1 : decide (j < j) = false := decide_eq_false (by omega)
        have q1 := HLO.out.c1
        have q2 := HLO.out.c2
        have q3 := HTP.out.c1
        have q4 := HTP.out.c2
        have hlow := (low_is (chkT_good HK.out) (j - 1) (by rw [HN.out]; omega)).2
        have htop := (top_is (chkT_good HK.out) (j - 1) (by rw [HN.out]; omega)).2
        rw [HLQ.out] at hlow
        rw [HTQ.out] at htop
        have r1 := mono_lo (chkT_good HK.out) (N := ln) (D := ld) (by omega) (fun i hi => hlow i (by rw [HN.out] at hi; omega)) (a := lo) (b := hi) h0lo hlh
        have r2 := mono_hi (chkT_good HK.out) (N := hn) (D := hd) (by omega) (fun i hi => htop i (by rw [HN.out] at hi; omega)) (a := lo) (b := hi) h0lo hlh
        rw [HSX.out, HSY.out, HN.out] at r1 r2
        clear hlow htop
        have hl64 := hl64
        have m1 := mul_bd (show 0 ≤ hi - lo by omega) (show hi - lo ≤ 16777216 by omega) (show 0 ≤ ln by omega) bl.2.1
        have m2 := mul_bd (show 0 ≤ hi - lo by omega) (show hi - lo ≤ 16777216 by omega) (show 0 ≤ hn by omega) bh.2.1
        have e1 : 0 ≤ (hi - lo) * ln / ld := Int.ediv_nonneg m1.1 (by omega)
        have e2 : (hi - lo) * ln / ld ≤ (hi - lo) * ln := Int.ediv_le_self _ m1.1
        have e3 : 0 ≤ (hi - lo) * hn / hd := Int.ediv_nonneg m2.1 (by omega)
        have e4 : (hi - lo) * hn / hd ≤ (hi - lo) * hn := Int.ediv_le_self _ m2.1
        have w1 : IntKind.i64.wrap ((hi - lo) * ln) = (hi - lo) * ln := IntWalk.i64_in _ (by omega)
        have w2 : IntKind.i64.wrap ((hi - lo) * hn) = (hi - lo) * hn := IntWalk.i64_in _ (by omega)
        have w3 : IntKind.i64.wrap (((hi - lo) * ln).tdiv ld) = (hi - lo) * ln / ld := IntWalk.i64_quo _ _ (by omega)
        have w4 : IntKind.i64.wrap (((hi - lo) * hn).tdiv hd) = (hi - lo) * hn / hd := IntWalk.i64_quo _ _ (by omega)
        have w5 : IntKind.i64.wrap ((hi - lo) * ln / ld - j) = (hi - lo) * ln / ld - j := IntWalk.i64_in _ (by omega)
        have w6 : IntKind.i64.wrap ((hi - lo) * hn / hd + j) = (hi - lo) * hn / hd + j := IntWalk.i64_in _ (by omega)
        have w7 : IntKind.i64.wrap (sy - sx) = sy - sx := IntWalk.i64_in _ (by omega)
        have z1 : ¬ ld = 0 := by omega
        have z2 : ¬ hd = 0 := by omega
        have f1 : decide ((hi - lo) * ln / ld - j ≤ sy - sx) = true := decide_eq_true r1
        have f2 : decide (sy - sx ≤ (hi - lo) * hn / hd + j) = true := decide_eq_true r2
        clear r1 r2 m1 m2 e1 e2 e3 e4
        go_wp2_with fail
        exact bodyPost_ret (v := .bool true) (by simp [results, Try.results14, go_sem]) rfl ⟨rfl, b_then hWV HLO.out.below⟩
    
end Go.Proofs.Ytbppajenihjfhaa
namespace Go.Proofs.Ytbppajenihjfhaa.Mono14
open Go.ChangeShapes Go.WideShapes Go.ChangeAt Go.RowKit Go.Joins

theorem own : ownKnob Try.prog.godebug = none := by kernel_rfl
theorem laidOut : laidOutB Try.prog = true := by kernel_rfl

set_option maxRecDepth 100000 in
theorem lifted (os : Os) (started : os.Started) (H : Type) (enc : TypeId × Value → H) :
    ReturnsInHanded {} Try.checked os 14 .any (Rows.tempoMonotoneSpec.pre6 enc Try.prog Try.f14 Rows.tempoMonotoneRow.domain false) (Rows.tempoMonotoneSpec.post enc Try.prog Try.f14 false true false false) := by
  refine returnsInHanded_of_change (C := Try.checked) own started (by kernel_rfl) Try.func14
    (ChangeSpec.witness6 (enc := enc) (C := Try.checked) false ⟨#[], #[.slice none 0 0, .int .i64 0, .int .i64 0], []⟩ 8 (by kernel_rfl) (by kernel_rfl) (by kernel_rfl) (by kernel_rfl)) ?_
  intro W base args ds gs before hval0 hW hcnd _
  have hval : ∀ (j : Nat) t v, Try.f14.params[j]? = some t → args[j]? = some v → Value.okWide Try.prog W .any base t v := hval0
  have hW' := hW
  obtain ⟨p, q, hA0, hV, rfl, hfz, hnd⟩ := hW
  have hA : DataW.TrodAll enc Try.prog W 0 (fun _ => true) true Try.f14.params.toList args.toList ds p := hA0
  rw [Try.params14] at hA hval
  obtain ⟨v0, vs0, d0, ds0, p0, q0, hargs, rfl, rfl, h0, r0⟩ := trodAll_cons hA
  obtain ⟨v1, vs1, d1, ds1, p1, q1, rfl, rfl, rfl, h1, r1⟩ := trodAll_cons r0
  obtain ⟨v2, vs2, d2, ds2, p2, q2, rfl, rfl, rfl, h2, r2⟩ := trodAll_cons r1
  obtain ⟨rfl, rfl, rfl⟩ := trodAll_nil r2
  obtain rfl : args = #[v0, v1, v2] := by cases args; simp_all
  obtain ⟨rfl, rfl⟩ := trodVars_none hV
  have k0 := h0
  have lt0 : ∀ x ∈ p0, x.block < W.heap.size := by obtain ⟨m, hm⟩ := k0; exact DataW.trod_lt m _ _ _ hm
  obtain ⟨xa0, xn0, xc0, rfl⟩ := okWide_slice Try.underlying48 (hval 0 48 v0 rfl rfl)
  obtain ⟨m0, hm0⟩ := h0
  obtain ⟨a0, n0, c0, e0, lc0, mc0, fz0, ⟨l0, ln0, rd0⟩, sz0⟩ := open_tps hm0
  cases e0
  have nb0 := Nat.le_trans lc0 (max_len mc0)
  obtain ⟨a1, rfl, rfl, rfl, w1⟩ := open_int Try.underlying3 (hval 1 3 v1 rfl rfl) h1
  obtain ⟨a2, rfl, rfl, rfl, w2⟩ := open_int Try.underlying3 (hval 2 3 v2 rfl rfl) h2
  clear hA0 hval0
  refine (mono_walk l0 xn0 ln0 xa0 xc0 a1 a2 _ _ rfl rfl nb0 W rd0).mono fun e W' ⟨he, bel⟩ => ?_
  subst he
  exact ⟨_, rfl, _, _, _, [], _, [], hW', trodAll_mk1 (shut_bool Try.underlying4 _), (trodAll_cons_mk (Below.trod laidOut (by kernel_rfl) (of_decide_eq_true (by kernel_rfl)) k0 bel lt0) (trodAll_cons_mk (shut_int Try.underlying3 w1) (trodAll_cons_mk (shut_int Try.underlying3 w2) trodAll_mk0))), rfl, bel.frame _, fun h => by cases h⟩

theorem over : Rows.tempoMonotoneRow.holds Try.pinned (OpenSpec.ofChange Rows.tempoMonotoneSpec) :=
  OpenClaim.holds_of_wide 14 Try.f14 rfl rfl rfl rfl rfl rfl rfl ⟨rfl, rfl, rfl, rfl, rfl⟩ rfl rfl rfl rfl rfl (by kernel_rfl) Try.func14 (by show joinedFacts Try.prog _ _ _ _ = true; unfold joinedFacts; rw [may0, lift0, make0]; kernel_rfl)
    (of_decide_eq_true (by kernel_rfl)) (by unfold Func.isWrapper; first | (rw [if_pos (by decide +kernel)]; kernel_rfl) | (rw [if_neg (by decide +kernel)]; exact ⟨rfl, rfl⟩))
    (fun os started H enc _ => lifted os started H enc)
end Go.Proofs.Ytbppajenihjfhaa.Mono14
namespace Go.Proofs.Ytbppajenihjfhaa
/-- The statement. -/
theorem tempoMonotone_holds : Rows.TempoMonotoneSaid := Mono14.over
end Go.Proofs.Ytbppajenihjfhaa
