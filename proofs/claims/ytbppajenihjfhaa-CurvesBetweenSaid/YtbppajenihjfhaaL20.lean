/- CurvesBetween. -/
import Derived.Test.YtbppajenihjfhaaCW
import Derived.Test.YtbppajenihjfhaaC2
import Derived.Test.YtbppajenihjfhaaY
namespace Go.Proofs.Ytbppajenihjfhaa
open Go.RowKit
open Go.Lib (hid)

theorem u16_rng {n : Int} (h : (Lit.int .u16 n).wf = true) : 0 ≤ n ∧ n ≤ 65535 := by
  simp [Lit.wf, IntKind.min, IntKind.max, IntKind.bits, IntKind.signed] at h; omega
theorem u32_rng {n : Int} (h : (Lit.int .u32 n).wf = true) : 0 ≤ n ∧ n ≤ 4294967295 := by
  simp [Lit.wf, IntKind.min, IntKind.max, IntKind.bits, IntKind.signed] at h; omega
set_option maxRecDepth 100000 in
set_option maxHeartbeats 4000000 in
theorem cvBtw_walk (l : List Kn) (nn : Nat) (hnn : l.length = nn) (a : Option Addr) (c : Nat) (f g h : Int) (bf : 0 ≤ f ∧ f ≤ 65535) (bg : 0 ≤ g ∧ g ≤ 4294967295) (bh : 0 ≤ h ∧ h ≤ 4294967295) (hb : nn ≤ 9223372036854775807) (W : World) (hr : Rd W a (l.flatMap Kn.c)) :
    Calls Try.prog 20 #[.slice a nn c, .int .u16 f, .int .u32 g, .int .u32 h] W fun e w' => e = .returned (.bool true) ∧ Below W.heap.size W w' := by
  have HN := hid hnn; have HR := hid (after_rd hr)
  clear hnn hr
  go_enter Try.func20, Try.ntmps20
  go_wp2_with fail
  refine (met0 (sane11_any W)).mono ?_
  rintro e _ ⟨rfl, u1, rfl⟩
  go_wp2_with fail
  refine (few_any a nn c u1.w).mono ?_
  rintro e w9 ⟨rfl, rfl⟩
  by_cases hfew : nn ≤ 1100
  case neg =>
    have d1 : decide ((nn : Int) ≤ 1100) = false := decide_eq_false (by omega)
    rw [d1]
    go_wp2_with fail
    exact bodyPost_ret (v := .bool true) (by simp [results, Try.results20, go_sem]) rfl ⟨rfl, u1.2⟩
  have d1 : decide ((nn : Int) ≤ 1100) = true := decide_eq_true (by omega)
  rw [d1]
  clear d1
  go_wp2_with fail
  refine (met (rkcheck_any l nn HN.out a c u1.w hb (HR.out u1))).mono ?_
  rintro e _ ⟨rfl, u2, rfl⟩
  by_cases hc : crvB l = true
  case neg =>
    rw [chkK_no hc]
    go_wp2_with fail
    exact bodyPost_ret (v := .bool true) (by simp [results, Try.results20, go_sem]) rfl ⟨rfl, u2.2⟩
  have hk := chkK_ok hc
  rw [hk]
  have HK := hid hk; have HV := hid ((crvB_iff l).1 hc).1
  clear hk hc
  have hn10 := len_K HV.out
  rw [HN.out] at hn10
  by_cases h2 : nn < 2
  · have d2 : decide ((nn : Int) < 2) = true := decide_eq_true (by omega)
    go_wp2_with fail
    exact bodyPost_ret (v := .bool true) (by simp [results, Try.results20, go_sem]) rfl ⟨rfl, u2.2⟩
  have d2 : decide ((nn : Int) < 2) = false := decide_eq_false (by omega)
  obtain ⟨b, off, rfl, hb2⟩ := (HR.out u2).addr (by rw [flat_len Kn.c 5 Kn.c5, HN.out]; omega)
  obtain ⟨M, n1⟩ : ∃ M, (nn : Int) - 1 = M := ⟨_, rfl⟩
  have hM0 : 0 < M := by omega
  have hmm := Int.tmod_eq_emod_of_nonneg (b := M) bf.1
  have hm1 := Int.emod_nonneg f (show M ≠ 0 by omega)
  have hm2 := Int.emod_lt_of_pos f hM0
  rw [← hmm] at hm1 hm2
  obtain ⟨i, hi⟩ : ∃ i : Nat, f.tmod M = (i : Int) := ⟨(f.tmod M).toNat, by omega⟩
  rw [hi] at hm1 hm2
  clear hmm hm1
  have eM : (M == 0) = false := beq_eq_false_iff_ne.2 (by omega)
  have wf : IntKind.i64.wrap f = f := IntWalk.i64_in _ (by omega)
  have hil1 : i + 1 < l.length := by rw [HN.out]; omega
  have hii : (i : Int) < (nn : Int) := by omega
  have hii1 : (i : Int) + 1 < (nn : Int) := by omega
  have hbt : ∀ p q : Int, (kn l i).k ≤ p → p ≤ q → q < (kn l (i + 1)).k → _ := fun p q h0 h1 h2 => between HV.out hil1 h0 h1 h2
  have bk : 0 ≤ (kn l i).k ∧ (kn l (i + 1)).k ≤ 1099511627776 ∧ (kn l i).k < (kn l (i + 1)).k := ⟨(kn_at HV.out (show i < l.length by omega)).1, (kn_at HV.out hil1).2.1, kn_lt HV.out (by omega) hil1⟩
  obtain ⟨⟨xk, xv, xs, xa, xb⟩, hx⟩ : ∃ t, kn l i = t := ⟨_, rfl⟩
  have c0 : ∀ v : After W, v.w.cell? ⟨b, off + i * 5, none⟩ = some (.int .i64 xk) := kn_cell HR.out (j := i) (by omega) 0 (by decide) (by rw [hx]; rfl) (by omega)
  have c1 : ∀ v : After W, v.w.cell? ⟨b, off + i * 5 + 1, none⟩ = some (.int .i64 xv) := kn_cell HR.out (j := i) (by omega) 1 (by decide) (by rw [hx]; rfl) (by omega)
  have c2 : ∀ v : After W, v.w.cell? ⟨b, off + i * 5 + 2, none⟩ = some (.int .i64 xs) := kn_cell HR.out (j := i) (by omega) 2 (by decide) (by rw [hx]; rfl) (by omega)
  have c3 : ∀ v : After W, v.w.cell? ⟨b, off + i * 5 + 3, none⟩ = some (.int .i64 xa) := kn_cell HR.out (j := i) (by omega) 3 (by decide) (by rw [hx]; rfl) (by omega)
  have c4 : ∀ v : After W, v.w.cell? ⟨b, off + i * 5 + 4, none⟩ = some (.int .i64 xb) := kn_cell HR.out (j := i) (by omega) 4 (by decide) (by rw [hx]; rfl) (by omega)
  obtain ⟨⟨yk, yv, ys, ya, yb⟩, hy⟩ : ∃ t, kn l (i + 1) = t := ⟨_, rfl⟩
  have d0 : ∀ v : After W, v.w.cell? ⟨b, off + (i + 1) * 5, none⟩ = some (.int .i64 yk) := kn_cell HR.out (j := (i + 1)) (hil1) 0 (by decide) (by rw [hy]; rfl) (by omega)
  have d1 : ∀ v : After W, v.w.cell? ⟨b, off + (i + 1) * 5 + 1, none⟩ = some (.int .i64 yv) := kn_cell HR.out (j := (i + 1)) (hil1) 1 (by decide) (by rw [hy]; rfl) (by omega)
  have d2 : ∀ v : After W, v.w.cell? ⟨b, off + (i + 1) * 5 + 2, none⟩ = some (.int .i64 ys) := kn_cell HR.out (j := (i + 1)) (hil1) 2 (by decide) (by rw [hy]; rfl) (by omega)
  have d3 : ∀ v : After W, v.w.cell? ⟨b, off + (i + 1) * 5 + 3, none⟩ = some (.int .i64 ya) := kn_cell HR.out (j := (i + 1)) (hil1) 3 (by decide) (by rw [hy]; rfl) (by omega)
  have d4 : ∀ v : After W, v.w.cell? ⟨b, off + (i + 1) * 5 + 4, none⟩ = some (.int .i64 yb) := kn_cell HR.out (j := (i + 1)) (hil1) 4 (by decide) (by rw [hy]; rfl) (by omega)
  simp only [hx, hy, ← show ∀ z, kvV l z = ofK l z from fun z => if_pos HK.out] at hbt
  simp only [hx, hy] at bk
  have HBT := hid hbt
  clear hx hy hbt hil1
  have n3 : IntKind.i64.wrap (i : Int) = (i : Int) := IntWalk.i64_in _ (by omega)
  have n4 : (0 : Int) ≤ (i : Int) + 1 := by omega
  have n5 : ((i : Int) + 1).toNat = i + 1 := by omega
  have n6 : IntKind.i64.wrap ((i : Int) + 1) = (i : Int) + 1 := IntWalk.i64_in _ (by omega)
  obtain ⟨u3, hu3⟩ : ∃ u : After W, u = u2 := ⟨_, rfl⟩
  rw [← hu3]
  clear hu3
  go_wp2_with fail
  refine whole_region 13 rfl (by kernel_rfl) ?_
  intro u0
  refine h_take 0 (x := ?_) rfl (by kernel_rfl) (by kernel_rfl) (by kernel_rfl) (fun _ _ _ h => h) (by rfl) (fun v => ?_) ?_
  rotate_left
  · (go_simp; try with_reducible rfl)
  try simp only [Act.put, List.setIfInBounds_toArray, List.set_cons_zero, List.set_cons_succ]
  refine h_take 1 (x := ?_) rfl (by kernel_rfl) (by kernel_rfl) (by kernel_rfl) (fun _ _ _ h => h) (by rfl) (fun v => ?_) ?_
  rotate_left
  · (go_simp; try with_reducible rfl)
  try simp only [Act.put, List.setIfInBounds_toArray, List.set_cons_zero, List.set_cons_succ]
  refine h_take 2 (x := ?_) rfl (by kernel_rfl) (by kernel_rfl) (by kernel_rfl) (fun _ _ _ h => h) (by rfl) (fun v => ?_) ?_
  rotate_left
  · (go_simp; try with_reducible rfl)
  try simp only [Act.put, List.setIfInBounds_toArray, List.set_cons_zero, List.set_cons_succ]
  refine h_take 3 (x := ?_) rfl (by kernel_rfl) (by kernel_rfl) (by kernel_rfl) (fun _ _ _ h => h) (by rfl) (fun v => ?_) ?_
  rotate_left
  · (go_simp; try with_reducible rfl)
  try simp only [Act.put, List.setIfInBounds_toArray, List.set_cons_zero, List.set_cons_succ]
  refine h_take 4 (x := ?_) rfl (by kernel_rfl) (by kernel_rfl) (by kernel_rfl) (fun _ _ _ h => h) (by rfl) (fun v => ?_) ?_
  rotate_left
  · (go_simp; try with_reducible rfl)
  try simp only [Act.put, List.setIfInBounds_toArray, List.set_cons_zero, List.set_cons_succ]
  refine h_take 5 (x := ?_) rfl (by kernel_rfl) (by kernel_rfl) (by kernel_rfl) (fun _ _ _ h => h) (by rfl) (fun v => ?_) ?_
  rotate_left
  · (go_simp; try with_reducible rfl)
  try simp only [Act.put, List.setIfInBounds_toArray, List.set_cons_zero, List.set_cons_succ]
  refine h_take 6 (x := ?_) rfl (by kernel_rfl) (by kernel_rfl) (by kernel_rfl) (fun _ _ _ h => h) (by rfl) (fun v => ?_) ?_
  rotate_left
  · (go_simp; try with_reducible rfl)
  try simp only [Act.put, List.setIfInBounds_toArray, List.set_cons_zero, List.set_cons_succ]
  refine h_take 7 (x := ?_) rfl (by kernel_rfl) (by kernel_rfl) (by kernel_rfl) (fun _ _ _ h => h) (by rfl) (fun v => ?_) ?_
  rotate_left
  · (go_simp; try with_reducible rfl)
  try simp only [Act.put, List.setIfInBounds_toArray, List.set_cons_zero, List.set_cons_succ]
  refine h_take 8 (x := ?_) rfl (by kernel_rfl) (by kernel_rfl) (by kernel_rfl) (fun _ _ _ h => h) (by rfl) (fun v => ?_) ?_
  rotate_left
  · (go_simp; try with_reducible rfl)
  try simp only [Act.put, List.setIfInBounds_toArray, List.set_cons_zero, List.set_cons_succ]
  refine h_two 9 10 (by kernel_rfl) rfl rfl (fun K hK => ?_) (fun K hK => ?_)
  · go_simp
    obtain ⟨v1, hv1⟩ : ∃ y9 : After W, y9.w = u0.w.alloc (.cells #[.int .i64 0, .int .i64 0, .int .i64 0, .int .i64 0, .int .i64 0] 71) := ⟨u0.on (b_alloc (Below.refl _ _) _), rfl⟩
    rw [← hv1]
    have hx : BoxV W (u0.w.heap.size) [.int .i64 0, .int .i64 0, .int .i64 0, .int .i64 0, .int .i64 0] v1.w := by rw [hv1]; exact BoxV.new u0.w_below #[.int .i64 0, .int .i64 0, .int .i64 0, .int .i64 0, .int .i64 0] 71
    have hzhx : W.heap.size ≤ u0.w.heap.size := u0.w_below.size
    have hx0 : u0.w.heap.size < v1.w.heap.size := hx.size
    clear hv1
    refine hK _ v1 ?_
    clear hK K
    try simp only [Act.put, List.setIfInBounds_toArray, List.set_cons_zero, List.set_cons_succ]
    refine h_step 10 (by kernel_rfl) rfl (fun K hK => ?_)
    go_simp
    obtain ⟨v2, hv1⟩ : ∃ y9 : After W, y9.w = v1.w.alloc (.cells #[.int .i64 0, .int .i64 0, .int .i64 0, .int .i64 0, .int .i64 0] 71) := ⟨v1.on (b_alloc (Below.refl _ _) _), rfl⟩
    rw [← hv1]
    have hy : BoxV W (v1.w.heap.size) [.int .i64 0, .int .i64 0, .int .i64 0, .int .i64 0, .int .i64 0] v2.w := by rw [hv1]; exact BoxV.new v1.w_below #[.int .i64 0, .int .i64 0, .int .i64 0, .int .i64 0, .int .i64 0] 71
    have hzhy : W.heap.size ≤ v1.w.heap.size := v1.w_below.size
    have hx := hx.alloc (.cells #[.int .i64 0, .int .i64 0, .int .i64 0, .int .i64 0, .int .i64 0] 71)
    rw [← hv1] at hx
    have hnehyhx : v1.w.heap.size ≠ u0.w.heap.size := fun h => by have := hx0; omega
    have hy0 : v1.w.heap.size < v2.w.heap.size := hy.size
    have hx0 := hx.size
    clear hv1
    refine hK _ v2 ?_
    clear hK K
    try simp only [Act.put, List.setIfInBounds_toArray, List.set_cons_zero, List.set_cons_succ]
    refine h_step 11 (by kernel_rfl) rfl (fun K hK => ?_)
    have p0 := hx.cell 0 _ rfl
    have p1 := hx.cell 1 _ rfl
    have p2 := hx.cell 2 _ rfl
    have p3 := hx.cell 3 _ rfl
    have p4 := hx.cell 4 _ rfl
    have pf0 := hx.froz 0 (by simp)
    have pf1 := hx.froz 1 (by simp)
    have pf2 := hx.froz 2 (by simp)
    have pf3 := hx.froz 3 (by simp)
    have pf4 := hx.froz 4 (by simp)
    go_simp
    generalize hZ : World.setCell _ _ _ = Z
    have nhx : BoxV W (u0.w.heap.size) [.int .i64 xk, .int .i64 xv, .int .i64 xs, .int .i64 xa, .int .i64 xb] Z := by rw [← hZ]; exact (((((hx.set1 hzhx 0 (.int .i64 xk)).set1 hzhx 1 (.int .i64 xv)).set1 hzhx 2 (.int .i64 xs)).set1 hzhx 3 (.int .i64 xa)).set1 hzhx 4 (.int .i64 xb))
    have nhy : BoxV W (v1.w.heap.size) [.int .i64 0, .int .i64 0, .int .i64 0, .int .i64 0, .int .i64 0] Z := by rw [← hZ]; exact (((((hy.other1 hzhx (by omega) 0 (.int .i64 xk)).other1 hzhx (by omega) 1 (.int .i64 xv)).other1 hzhx (by omega) 2 (.int .i64 xs)).other1 hzhx (by omega) 3 (.int .i64 xa)).other1 hzhx (by omega) 4 (.int .i64 xb))
    clear hZ
    clear p0 pf0 p1 pf1 p2 pf2 p3 pf3 p4 pf4
    clear hx hy
    have hx := nhx
    have hy := nhy
    clear nhx nhy
    obtain ⟨z3, rfl⟩ : ∃ y9 : After W, Z = y9.w := ⟨After.to hx.below, rfl⟩
    refine hK _ z3 ?_
    clear hK K
    try simp only [Act.put, List.setIfInBounds_toArray, List.set_cons_zero, List.set_cons_succ]
    refine h_step 12 (by kernel_rfl) rfl (fun K hK => ?_)
    have p0 := hy.cell 0 _ rfl
    have p1 := hy.cell 1 _ rfl
    have p2 := hy.cell 2 _ rfl
    have p3 := hy.cell 3 _ rfl
    have p4 := hy.cell 4 _ rfl
    have pf0 := hy.froz 0 (by simp)
    have pf1 := hy.froz 1 (by simp)
    have pf2 := hy.froz 2 (by simp)
    have pf3 := hy.froz 3 (by simp)
    have pf4 := hy.froz 4 (by simp)
    go_simp
    generalize hZ : World.setCell _ _ _ = Z
    have nhy : BoxV W (v1.w.heap.size) [.int .i64 yk, .int .i64 yv, .int .i64 ys, .int .i64 ya, .int .i64 yb] Z := by rw [← hZ]; exact (((((hy.set1 hzhy 0 (.int .i64 yk)).set1 hzhy 1 (.int .i64 yv)).set1 hzhy 2 (.int .i64 ys)).set1 hzhy 3 (.int .i64 ya)).set1 hzhy 4 (.int .i64 yb))
    have nhx : BoxV W (u0.w.heap.size) [.int .i64 xk, .int .i64 xv, .int .i64 xs, .int .i64 xa, .int .i64 xb] Z := by rw [← hZ]; exact (((((hx.other1 hzhy (by omega) 0 (.int .i64 yk)).other1 hzhy (by omega) 1 (.int .i64 yv)).other1 hzhy (by omega) 2 (.int .i64 ys)).other1 hzhy (by omega) 3 (.int .i64 ya)).other1 hzhy (by omega) 4 (.int .i64 yb))
    clear hZ
    clear p0 pf0 p1 pf1 p2 pf2 p3 pf3 p4 pf4
    clear hy hx
    have hy := nhy
    have hx := nhx
    clear nhy nhx
    obtain ⟨z4, rfl⟩ : ∃ y9 : After W, Z = y9.w := ⟨After.to hy.below, rfl⟩
    refine hK _ z4 ?_
    clear hK K
    try simp only [Act.put, List.setIfInBounds_toArray, List.set_cons_zero, List.set_cons_succ]
    refine wpAnyH_done (by kernel_rfl) ?_ _
    refine NoPanic.normal ?_
    obtain ⟨V2, hV2⟩ : ∃ V2 : World, V2 = z4.w := ⟨_, rfl⟩
    have hBV2 : Below W.heap.size W V2 := by rw [hV2]; exact z4.w_below
    have RV2 := hid (show ∀ v : After V2, Rd v.w (some ⟨b, off, none⟩) (l.flatMap Kn.c) from fun v => HR.out (z4.on (by rw [← hV2]; exact v.2)))
    rw [← hV2] at hx hy ⊢
    generalize u0.w.heap.size = gx at *
    generalize v1.w.heap.size = gy at *
    have x0 := after_cell hx.size (hx.cell 0 _ rfl)
    have x1 := after_cell hx.size (hx.cell 1 _ rfl)
    have x2 := after_cell hx.size (hx.cell 2 _ rfl)
    have y0 := after_cell hy.size (hy.cell 0 _ rfl)
    have y1 := after_cell hy.size (hy.cell 1 _ rfl)
    have WV2 := hid (upb hBV2 (fun v : After W => v.w_below))
    clear hx hy hV2
    obtain ⟨u4, hu2⟩ : ∃ u : After V2, u.w = V2 := ⟨After.here V2, rfl⟩
    rw [← hu2]
    clear hu2
    obtain ⟨sp, hsp⟩ : ∃ y, yk - xk = y := ⟨_, rfl⟩
    have hsp0 : 0 < sp := by omega
    have ws : IntKind.i64.wrap sp = sp := IntWalk.i64_in _ (by omega)
    have esp : (sp == 0) = false := beq_eq_false_iff_ne.2 (by omega)
    have wg : IntKind.i64.wrap g = g := IntWalk.i64_in _ (by omega)
    have wh : IntKind.i64.wrap h = h := IntWalk.i64_in _ (by omega)
    obtain ⟨rg, hrg⟩ : ∃ y, g.tmod sp = y := ⟨_, rfl⟩
    obtain ⟨rh, hrh⟩ : ∃ y, h.tmod sp = y := ⟨_, rfl⟩
    have rg1 := Int.emod_nonneg g (show sp ≠ 0 by omega)
    have rg2 := Int.emod_lt_of_pos g hsp0
    have rh1 := Int.emod_nonneg h (show sp ≠ 0 by omega)
    have rh2 := Int.emod_lt_of_pos h hsp0
    rw [← Int.tmod_eq_emod_of_nonneg bg.1, hrg] at rg1 rg2
    rw [← Int.tmod_eq_emod_of_nonneg bh.1, hrh] at rh1 rh2
    obtain ⟨P, hP⟩ : ∃ y, xk + rg = y := ⟨_, rfl⟩
    obtain ⟨Q, hQ⟩ : ∃ y, xk + rh = y := ⟨_, rfl⟩
    have wrg : IntKind.i64.wrap rg = rg := IntWalk.i64_in _ (by omega)
    have wrh : IntKind.i64.wrap rh = rh := IntWalk.i64_in _ (by omega)
    have wP : IntKind.i64.wrap P = P := IntWalk.i64_in _ (by omega)
    have wQ : IntKind.i64.wrap Q = Q := IntWalk.i64_in _ (by omega)
    have cP : xk ≤ P ∧ P < yk := by omega
    have cQ : xk ≤ Q ∧ Q < yk := by omega
    have CP := hid cP; have CQ := hid cQ; have HB := hid bk
    clear cP cQ bk rg1 rg2 rh1 rh2 bg bh
    go_wp2_with fail
    refine wp_region_since (by kernel_rfl) (by kernel_rfl) ?_
    repeat (go_big_quiet_step (fail))
    refine wpQuiet_nil ?_
    intro u5
    rcases hg : decide (Q < P) with _ | _
    · have bt := HBT.out P Q CP.out.1 (Int.not_lt.1 (of_decide_eq_false hg)) CQ.out.2
      obtain ⟨P1, hP1⟩ : ∃ y, kvV l P = y := ⟨_, rfl⟩
      obtain ⟨Q1, hQ1⟩ : ∃ y, kvV l Q = y := ⟨_, rfl⟩
      obtain ⟨X0, hX0⟩ : ∃ y, kvV l xk = y := ⟨_, rfl⟩
      obtain ⟨Y0, hY0⟩ : ∃ y, kvV l yk = y := ⟨_, rfl⟩
      rw [hP1, hQ1, hX0, hY0] at bt
      have HP1 := hid hP1; have HQ1 := hid hQ1; have HX0 := hid hX0; have HY0 := hid hY0
      clear hP1 hQ1 hX0 hY0
      obtain ⟨hx9, hy9, bt1, bt2⟩ := bt
      replace hx9 := hx9.symm
      replace hy9 := hy9.symm
      subst hx9 hy9
      go_wp2_with fail
      refine (met (Value_any l nn HN.out _ c xk u5.w hb (RV2.out u5))).mono ?_
      rintro e _ ⟨rfl, u6, rfl⟩
      rw [HK.out, HX0.out]
      go_wp2_with fail
      refine (met (Value_any l nn HN.out _ c P u6.w hb (RV2.out u6))).mono ?_
      rintro e _ ⟨rfl, u7, rfl⟩
      rw [HK.out, HP1.out]
      go_wp2_with fail
      refine (met (Value_any l nn HN.out _ c Q u7.w hb (RV2.out u7))).mono ?_
      rintro e _ ⟨rfl, u9, rfl⟩
      rw [HK.out, HQ1.out]
      go_wp2_with fail
      refine (met (Value_any l nn HN.out _ c yk u9.w hb (RV2.out u9))).mono ?_
      rintro e _ ⟨rfl, u8, rfl⟩
      rw [HK.out, HY0.out]
      have ex : (xv == xv) = true := beq_self_eq_true _
      have ey : (yv == yv) = true := beq_self_eq_true _
      by_cases hs1 : xs = 1
      · obtain ⟨ha, hb9⟩ := bt1 hs1
        have es : (xs == 1) = true := beq_iff_eq.2 hs1
        have e1 : (P1 == xv) = true := beq_iff_eq.2 ha
        have e2 : (Q1 == xv) = true := beq_iff_eq.2 hb9
        clear hs1 ha hb9 bt1 bt2
        go_wp2_with fail
        exact bodyPost_ret (v := .bool true) (by simp [results, Try.results20, go_sem]) rfl ⟨rfl, WV2.out u8⟩
      have es : (xs == 1) = false := beq_eq_false_iff_ne.2 hs1
      by_cases hud : xv ≤ yv
      · obtain ⟨ha, hb9, hc9⟩ := (bt2 hs1).1 hud
        have eu : decide (xv ≤ yv) = true := decide_eq_true hud
        have e1 : decide (xv ≤ P1) = true := decide_eq_true ha
        have e2 : decide (P1 ≤ Q1) = true := decide_eq_true hb9
        have e3 : decide (Q1 ≤ yv) = true := decide_eq_true hc9
        clear hs1 ha hb9 hc9 hud bt1 bt2
        go_wp2_with fail
        exact bodyPost_ret (v := .bool true) (by simp [results, Try.results20, go_sem]) rfl ⟨rfl, WV2.out u8⟩
      obtain ⟨ha, hb9, hc9⟩ := (bt2 hs1).2 (by omega)
      have eu : decide (xv ≤ yv) = false := decide_eq_false hud
      have e1 : decide (P1 ≤ xv) = true := decide_eq_true ha
      have e2 : decide (Q1 ≤ P1) = true := decide_eq_true hb9
      have e3 : decide (yv ≤ Q1) = true := decide_eq_true hc9
      clear hs1 ha hb9 hc9 hud bt1 bt2
      go_wp2_with fail
      exact bodyPost_ret (v := .bool true) (by simp [results, Try.results20, go_sem]) rfl ⟨rfl, WV2.out u8⟩
    · have bt := HBT.out Q P CQ.out.1 (Int.le_of_lt (of_decide_eq_true hg)) CP.out.2
      obtain ⟨P1, hP1⟩ : ∃ y, kvV l Q = y := ⟨_, rfl⟩
      obtain ⟨Q1, hQ1⟩ : ∃ y, kvV l P = y := ⟨_, rfl⟩
      obtain ⟨X0, hX0⟩ : ∃ y, kvV l xk = y := ⟨_, rfl⟩
      obtain ⟨Y0, hY0⟩ : ∃ y, kvV l yk = y := ⟨_, rfl⟩
      rw [hP1, hQ1, hX0, hY0] at bt
      have HP1 := hid hP1; have HQ1 := hid hQ1; have HX0 := hid hX0; have HY0 := hid hY0
      clear hP1 hQ1 hX0 hY0
      obtain ⟨hx9, hy9, bt1, bt2⟩ := bt
      replace hx9 := hx9.symm
      replace hy9 := hy9.symm
      subst hx9 hy9
      go_wp2_with fail
      refine (met (Value_any l nn HN.out _ c xk u5.w hb (RV2.out u5))).mono ?_
      rintro e _ ⟨rfl, u6, rfl⟩
      rw [HK.out, HX0.out]
      go_wp2_with fail
      refine (met (Value_any l nn HN.out _ c Q u6.w hb (RV2.out u6))).mono ?_
      rintro e _ ⟨rfl, u7, rfl⟩
      rw [HK.out, HP1.out]
      go_wp2_with fail
      refine (met (Value_any l nn HN.out _ c P u7.w hb (RV2.out u7))).mono ?_
      rintro e _ ⟨rfl, u9, rfl⟩
      rw [HK.out, HQ1.out]
      go_wp2_with fail
      refine (met (Value_any l nn HN.out _ c yk u9.w hb (RV2.out u9))).mono ?_
      rintro e _ ⟨rfl, u8, rfl⟩
      rw [HK.out, HY0.out]
      have ex : (xv == xv) = true := beq_self_eq_true _
      have ey : (yv == yv) = true := beq_self_eq_true _
      by_cases hs1 : xs = 1
      · obtain ⟨ha, hb9⟩ := bt1 hs1
        have es : (xs == 1) = true := beq_iff_eq.2 hs1
        have e1 : (P1 == xv) = true := beq_iff_eq.2 ha
        have e2 : (Q1 == xv) = true := beq_iff_eq.2 hb9
        clear hs1 ha hb9 bt1 bt2
        go_wp2_with fail
        exact bodyPost_ret (v := .bool true) (by simp [results, Try.results20, go_sem]) rfl ⟨rfl, WV2.out u8⟩
      have es : (xs == 1) = false := beq_eq_false_iff_ne.2 hs1
      by_cases hud : xv ≤ yv
      · obtain ⟨ha, hb9, hc9⟩ := (bt2 hs1).1 hud
        have eu : decide (xv ≤ yv) = true := decide_eq_true hud
        have e1 : decide (xv ≤ P1) = true := decide_eq_true ha
        have e2 : decide (P1 ≤ Q1) = true := decide_eq_true hb9
        have e3 : decide (Q1 ≤ yv) = true := decide_eq_true hc9
        clear hs1 ha hb9 hc9 hud bt1 bt2
        go_wp2_with fail
        exact bodyPost_ret (v := .bool true) (by simp [results, Try.results20, go_sem]) rfl ⟨rfl, WV2.out u8⟩
      obtain ⟨ha, hb9, hc9⟩ := (bt2 hs1).2 (by omega)
      have eu : decide (xv ≤ yv) = false := decide_eq_false hud
      have e1 : decide (P1 ≤ xv) = true := decide_eq_true ha
      have e2 : decide (Q1 ≤ P1) = true := decide_eq_true hb9
      have e3 : decide (yv ≤ Q1) = true := decide_eq_true hc9
      clear hs1 ha hb9 hc9 hud bt1 bt2
      go_wp2_with fail
      exact bodyPost_ret (v := .bool true) (by simp [results, Try.results20, go_sem]) rfl ⟨rfl, WV2.out u8⟩
  · go_simp
    obtain ⟨v1, hv1⟩ : ∃ y9 : After W, y9.w = u0.w.alloc (.cells #[.int .i64 0, .int .i64 0, .int .i64 0, .int .i64 0, .int .i64 0] 71) := ⟨u0.on (b_alloc (Below.refl _ _) _), rfl⟩
    rw [← hv1]
    have hy : BoxV W (u0.w.heap.size) [.int .i64 0, .int .i64 0, .int .i64 0, .int .i64 0, .int .i64 0] v1.w := by rw [hv1]; exact BoxV.new u0.w_below #[.int .i64 0, .int .i64 0, .int .i64 0, .int .i64 0, .int .i64 0] 71
    have hzhy : W.heap.size ≤ u0.w.heap.size := u0.w_below.size
    have hy0 : u0.w.heap.size < v1.w.heap.size := hy.size
    clear hv1
    refine hK _ v1 ?_
    clear hK K
    try simp only [Act.put, List.setIfInBounds_toArray, List.set_cons_zero, List.set_cons_succ]
    refine h_step 9 (by kernel_rfl) rfl (fun K hK => ?_)
    go_simp
    obtain ⟨v2, hv1⟩ : ∃ y9 : After W, y9.w = v1.w.alloc (.cells #[.int .i64 0, .int .i64 0, .int .i64 0, .int .i64 0, .int .i64 0] 71) := ⟨v1.on (b_alloc (Below.refl _ _) _), rfl⟩
    rw [← hv1]
    have hx : BoxV W (v1.w.heap.size) [.int .i64 0, .int .i64 0, .int .i64 0, .int .i64 0, .int .i64 0] v2.w := by rw [hv1]; exact BoxV.new v1.w_below #[.int .i64 0, .int .i64 0, .int .i64 0, .int .i64 0, .int .i64 0] 71
    have hzhx : W.heap.size ≤ v1.w.heap.size := v1.w_below.size
    have hy := hy.alloc (.cells #[.int .i64 0, .int .i64 0, .int .i64 0, .int .i64 0, .int .i64 0] 71)
    rw [← hv1] at hy
    have hnehxhy : v1.w.heap.size ≠ u0.w.heap.size := fun h => by have := hy0; omega
    have hx0 : v1.w.heap.size < v2.w.heap.size := hx.size
    have hy0 := hy.size
    clear hv1
    refine hK _ v2 ?_
    clear hK K
    try simp only [Act.put, List.setIfInBounds_toArray, List.set_cons_zero, List.set_cons_succ]
    refine h_step 11 (by kernel_rfl) rfl (fun K hK => ?_)
    have p0 := hx.cell 0 _ rfl
    have p1 := hx.cell 1 _ rfl
    have p2 := hx.cell 2 _ rfl
    have p3 := hx.cell 3 _ rfl
    have p4 := hx.cell 4 _ rfl
    have pf0 := hx.froz 0 (by simp)
    have pf1 := hx.froz 1 (by simp)
    have pf2 := hx.froz 2 (by simp)
    have pf3 := hx.froz 3 (by simp)
    have pf4 := hx.froz 4 (by simp)
    go_simp
    generalize hZ : World.setCell _ _ _ = Z
    have nhx : BoxV W (v1.w.heap.size) [.int .i64 xk, .int .i64 xv, .int .i64 xs, .int .i64 xa, .int .i64 xb] Z := by rw [← hZ]; exact (((((hx.set1 hzhx 0 (.int .i64 xk)).set1 hzhx 1 (.int .i64 xv)).set1 hzhx 2 (.int .i64 xs)).set1 hzhx 3 (.int .i64 xa)).set1 hzhx 4 (.int .i64 xb))
    have nhy : BoxV W (u0.w.heap.size) [.int .i64 0, .int .i64 0, .int .i64 0, .int .i64 0, .int .i64 0] Z := by rw [← hZ]; exact (((((hy.other1 hzhx (by omega) 0 (.int .i64 xk)).other1 hzhx (by omega) 1 (.int .i64 xv)).other1 hzhx (by omega) 2 (.int .i64 xs)).other1 hzhx (by omega) 3 (.int .i64 xa)).other1 hzhx (by omega) 4 (.int .i64 xb))
    clear hZ
    clear p0 pf0 p1 pf1 p2 pf2 p3 pf3 p4 pf4
    clear hx hy
    have hx := nhx
    have hy := nhy
    clear nhx nhy
    obtain ⟨z3, rfl⟩ : ∃ y9 : After W, Z = y9.w := ⟨After.to hx.below, rfl⟩
    refine hK _ z3 ?_
    clear hK K
    try simp only [Act.put, List.setIfInBounds_toArray, List.set_cons_zero, List.set_cons_succ]
    refine h_step 12 (by kernel_rfl) rfl (fun K hK => ?_)
    have p0 := hy.cell 0 _ rfl
    have p1 := hy.cell 1 _ rfl
    have p2 := hy.cell 2 _ rfl
    have p3 := hy.cell 3 _ rfl
    have p4 := hy.cell 4 _ rfl
    have pf0 := hy.froz 0 (by simp)
    have pf1 := hy.froz 1 (by simp)
    have pf2 := hy.froz 2 (by simp)
    have pf3 := hy.froz 3 (by simp)
    have pf4 := hy.froz 4 (by simp)
    go_simp
    generalize hZ : World.setCell _ _ _ = Z
    have nhy : BoxV W (u0.w.heap.size) [.int .i64 yk, .int .i64 yv, .int .i64 ys, .int .i64 ya, .int .i64 yb] Z := by rw [← hZ]; exact (((((hy.set1 hzhy 0 (.int .i64 yk)).set1 hzhy 1 (.int .i64 yv)).set1 hzhy 2 (.int .i64 ys)).set1 hzhy 3 (.int .i64 ya)).set1 hzhy 4 (.int .i64 yb))
    have nhx : BoxV W (v1.w.heap.size) [.int .i64 xk, .int .i64 xv, .int .i64 xs, .int .i64 xa, .int .i64 xb] Z := by rw [← hZ]; exact (((((hx.other1 hzhy (by omega) 0 (.int .i64 yk)).other1 hzhy (by omega) 1 (.int .i64 yv)).other1 hzhy (by omega) 2 (.int .i64 ys)).other1 hzhy (by omega) 3 (.int .i64 ya)).other1 hzhy (by omega) 4 (.int .i64 yb))
    clear hZ
    clear p0 pf0 p1 pf1 p2 pf2 p3 pf3 p4 pf4
    clear hy hx
    have hy := nhy
    have hx := nhx
    clear nhy nhx
    obtain ⟨z4, rfl⟩ : ∃ y9 : After W, Z = y9.w := ⟨After.to hy.below, rfl⟩
    refine hK _ z4 ?_
    clear hK K
    try simp only [Act.put, List.setIfInBounds_toArray, List.set_cons_zero, List.set_cons_succ]
    refine wpAnyH_done (by kernel_rfl) ?_ _
    refine NoPanic.normal ?_
    obtain ⟨V2, hV2⟩ : ∃ V2 : World, V2 = z4.w := ⟨_, rfl⟩
    have hBV2 : Below W.heap.size W V2 := by rw [hV2]; exact z4.w_below
    have RV2 := hid (show ∀ v : After V2, Rd v.w (some ⟨b, off, none⟩) (l.flatMap Kn.c) from fun v => HR.out (z4.on (by rw [← hV2]; exact v.2)))
    rw [← hV2] at hx hy ⊢
    generalize v1.w.heap.size = gx at *
    generalize u0.w.heap.size = gy at *
    have x0 := after_cell hx.size (hx.cell 0 _ rfl)
    have x1 := after_cell hx.size (hx.cell 1 _ rfl)
    have x2 := after_cell hx.size (hx.cell 2 _ rfl)
    have y0 := after_cell hy.size (hy.cell 0 _ rfl)
    have y1 := after_cell hy.size (hy.cell 1 _ rfl)
    have WV2 := hid (upb hBV2 (fun v : After W => v.w_below))
    clear hx hy hV2
    obtain ⟨u4, hu2⟩ : ∃ u : After V2, u.w = V2 := ⟨After.here V2, rfl⟩
    rw [← hu2]
    clear hu2
    obtain ⟨sp, hsp⟩ : ∃ y, yk - xk = y := ⟨_, rfl⟩
    have hsp0 : 0 < sp := by omega
    have ws : IntKind.i64.wrap sp = sp := IntWalk.i64_in _ (by omega)
    have esp : (sp == 0) = false := beq_eq_false_iff_ne.2 (by omega)
    have wg : IntKind.i64.wrap g = g := IntWalk.i64_in _ (by omega)
    have wh : IntKind.i64.wrap h = h := IntWalk.i64_in _ (by omega)
    obtain ⟨rg, hrg⟩ : ∃ y, g.tmod sp = y := ⟨_, rfl⟩
    obtain ⟨rh, hrh⟩ : ∃ y, h.tmod sp = y := ⟨_, rfl⟩
    have rg1 := Int.emod_nonneg g (show sp ≠ 0 by omega)
    have rg2 := Int.emod_lt_of_pos g hsp0
    have rh1 := Int.emod_nonneg h (show sp ≠ 0 by omega)
    have rh2 := Int.emod_lt_of_pos h hsp0
    rw [← Int.tmod_eq_emod_of_nonneg bg.1, hrg] at rg1 rg2
    rw [← Int.tmod_eq_emod_of_nonneg bh.1, hrh] at rh1 rh2
    obtain ⟨P, hP⟩ : ∃ y, xk + rg = y := ⟨_, rfl⟩
    obtain ⟨Q, hQ⟩ : ∃ y, xk + rh = y := ⟨_, rfl⟩
    have wrg : IntKind.i64.wrap rg = rg := IntWalk.i64_in _ (by omega)
    have wrh : IntKind.i64.wrap rh = rh := IntWalk.i64_in _ (by omega)
    have wP : IntKind.i64.wrap P = P := IntWalk.i64_in _ (by omega)
    have wQ : IntKind.i64.wrap Q = Q := IntWalk.i64_in _ (by omega)
    have cP : xk ≤ P ∧ P < yk := by omega
    have cQ : xk ≤ Q ∧ Q < yk := by omega
    have CP := hid cP; have CQ := hid cQ; have HB := hid bk
    clear cP cQ bk rg1 rg2 rh1 rh2 bg bh
    go_wp2_with fail
    refine wp_region_since (by kernel_rfl) (by kernel_rfl) ?_
    repeat (go_big_quiet_step (fail))
    refine wpQuiet_nil ?_
    intro u5
    rcases hg : decide (Q < P) with _ | _
    · have bt := HBT.out P Q CP.out.1 (Int.not_lt.1 (of_decide_eq_false hg)) CQ.out.2
      obtain ⟨P1, hP1⟩ : ∃ y, kvV l P = y := ⟨_, rfl⟩
      obtain ⟨Q1, hQ1⟩ : ∃ y, kvV l Q = y := ⟨_, rfl⟩
      obtain ⟨X0, hX0⟩ : ∃ y, kvV l xk = y := ⟨_, rfl⟩
      obtain ⟨Y0, hY0⟩ : ∃ y, kvV l yk = y := ⟨_, rfl⟩
      rw [hP1, hQ1, hX0, hY0] at bt
      have HP1 := hid hP1; have HQ1 := hid hQ1; have HX0 := hid hX0; have HY0 := hid hY0
      clear hP1 hQ1 hX0 hY0
      obtain ⟨hx9, hy9, bt1, bt2⟩ := bt
      replace hx9 := hx9.symm
      replace hy9 := hy9.symm
      subst hx9 hy9
      go_wp2_with fail
      refine (met (Value_any l nn HN.out _ c xk u5.w hb (RV2.out u5))).mono ?_
      rintro e _ ⟨rfl, u6, rfl⟩
      rw [HK.out, HX0.out]
      go_wp2_with fail
      refine (met (Value_any l nn HN.out _ c P u6.w hb (RV2.out u6))).mono ?_
      rintro e _ ⟨rfl, u7, rfl⟩
      rw [HK.out, HP1.out]
      go_wp2_with fail
      refine (met (Value_any l nn HN.out _ c Q u7.w hb (RV2.out u7))).mono ?_
      rintro e _ ⟨rfl, u9, rfl⟩
      rw [HK.out, HQ1.out]
      go_wp2_with fail
      refine (met (Value_any l nn HN.out _ c yk u9.w hb (RV2.out u9))).mono ?_
      rintro e _ ⟨rfl, u8, rfl⟩
      rw [HK.out, HY0.out]
      have ex : (xv == xv) = true := beq_self_eq_true _
      have ey : (yv == yv) = true := beq_self_eq_true _
      by_cases hs1 : xs = 1
      · obtain ⟨ha, hb9⟩ := bt1 hs1
        have es : (xs == 1) = true := beq_iff_eq.2 hs1
        have e1 : (P1 == xv) = true := beq_iff_eq.2 ha
        have e2 : (Q1 == xv) = true := beq_iff_eq.2 hb9
        clear hs1 ha hb9 bt1 bt2
        go_wp2_with fail
        exact bodyPost_ret (v := .bool true) (by simp [results, Try.results20, go_sem]) rfl ⟨rfl, WV2.out u8⟩
      have es : (xs == 1) = false := beq_eq_false_iff_ne.2 hs1
      by_cases hud : xv ≤ yv
      · obtain ⟨ha, hb9, hc9⟩ := (bt2 hs1).1 hud
        have eu : decide (xv ≤ yv) = true := decide_eq_true hud
        have e1 : decide (xv ≤ P1) = true := decide_eq_true ha
        have e2 : decide (P1 ≤ Q1) = true := decide_eq_true hb9
        have e3 : decide (Q1 ≤ yv) = true := decide_eq_true hc9
        clear hs1 ha hb9 hc9 hud bt1 bt2
        go_wp2_with fail
        exact bodyPost_ret (v := .bool true) (by simp [results, Try.results20, go_sem]) rfl ⟨rfl, WV2.out u8⟩
      obtain ⟨ha, hb9, hc9⟩ := (bt2 hs1).2 (by omega)
      have eu : decide (xv ≤ yv) = false := decide_eq_false hud
      have e1 : decide (P1 ≤ xv) = true := decide_eq_true ha
      have e2 : decide (Q1 ≤ P1) = true := decide_eq_true hb9
      have e3 : decide (yv ≤ Q1) = true := decide_eq_true hc9
      clear hs1 ha hb9 hc9 hud bt1 bt2
      go_wp2_with fail
      exact bodyPost_ret (v := .bool true) (by simp [results, Try.results20, go_sem]) rfl ⟨rfl, WV2.out u8⟩
    · have bt := HBT.out Q P CQ.out.1 (Int.le_of_lt (of_decide_eq_true hg)) CP.out.2
      obtain ⟨P1, hP1⟩ : ∃ y, kvV l Q = y := ⟨_, rfl⟩
      obtain ⟨Q1, hQ1⟩ : ∃ y, kvV l P = y := ⟨_, rfl⟩
      obtain ⟨X0, hX0⟩ : ∃ y, kvV l xk = y := ⟨_, rfl⟩
      obtain ⟨Y0, hY0⟩ : ∃ y, kvV l yk = y := ⟨_, rfl⟩
      rw [hP1, hQ1, hX0, hY0] at bt
      have HP1 := hid hP1; have HQ1 := hid hQ1; have HX0 := hid hX0; have HY0 := hid hY0
      clear hP1 hQ1 hX0 hY0
      obtain ⟨hx9, hy9, bt1, bt2⟩ := bt
      replace hx9 := hx9.symm
      replace hy9 := hy9.symm
      subst hx9 hy9
      go_wp2_with fail
      refine (met (Value_any l nn HN.out _ c xk u5.w hb (RV2.out u5))).mono ?_
      rintro e _ ⟨rfl, u6, rfl⟩
      rw [HK.out, HX0.out]
      go_wp2_with fail
      refine (met (Value_any l nn HN.out _ c Q u6.w hb (RV2.out u6))).mono ?_
      rintro e _ ⟨rfl, u7, rfl⟩
      rw [HK.out, HP1.out]
      go_wp2_with fail
      refine (met (Value_any l nn HN.out _ c P u7.w hb (RV2.out u7))).mono ?_
      rintro e _ ⟨rfl, u9, rfl⟩
      rw [HK.out, HQ1.out]
      go_wp2_with fail
      refine (met (Value_any l nn HN.out _ c yk u9.w hb (RV2.out u9))).mono ?_
      rintro e _ ⟨rfl, u8, rfl⟩
      rw [HK.out, HY0.out]
      have ex : (xv == xv) = true := beq_self_eq_true _
      have ey : (yv == yv) = true := beq_self_eq_true _
      by_cases hs1 : xs = 1
      · obtain ⟨ha, hb9⟩ := bt1 hs1
        have es : (xs == 1) = true := beq_iff_eq.2 hs1
        have e1 : (P1 == xv) = true := beq_iff_eq.2 ha
        have e2 : (Q1 == xv) = true := beq_iff_eq.2 hb9
        clear hs1 ha hb9 bt1 bt2
        go_wp2_with fail
        exact bodyPost_ret (v := .bool true) (by simp [results, Try.results20, go_sem]) rfl ⟨rfl, WV2.out u8⟩
      have es : (xs == 1) = false := beq_eq_false_iff_ne.2 hs1
      by_cases hud : xv ≤ yv
      · obtain ⟨ha, hb9, hc9⟩ := (bt2 hs1).1 hud
        have eu : decide (xv ≤ yv) = true := decide_eq_true hud
        have e1 : decide (xv ≤ P1) = true := decide_eq_true ha
        have e2 : decide (P1 ≤ Q1) = true := decide_eq_true hb9
        have e3 : decide (Q1 ≤ yv) = true := decide_eq_true hc9
        clear hs1 ha hb9 hc9 hud bt1 bt2
        go_wp2_with fail
        exact bodyPost_ret (v := .bool true) (by simp [results, Try.results20, go_sem]) rfl ⟨rfl, WV2.out u8⟩
      obtain ⟨ha, hb9, hc9⟩ := (bt2 hs1).2 (by omega)
      have eu : decide (xv ≤ yv) = false := decide_eq_false hud
      have e1 : decide (P1 ≤ xv) = true := decide_eq_true ha
      have e2 : decide (Q1 ≤ P1) = true := decide_eq_true hb9
      have e3 : decide (yv ≤ Q1) = true := decide_eq_true hc9
      clear hs1 ha hb9 hc9 hud bt1 bt2
      go_wp2_with fail
      exact bodyPost_ret (v := .bool true) (by simp [results, Try.results20, go_sem]) rfl ⟨rfl, WV2.out u8⟩
end Go.Proofs.Ytbppajenihjfhaa
namespace Go.Proofs.Ytbppajenihjfhaa.Cvb20
open Go.ChangeShapes Go.WideShapes Go.ChangeAt Go.RowKit Go.Joins

theorem own : ownKnob Try.prog.godebug = none := by kernel_rfl
theorem laidOut : laidOutB Try.prog = true := by kernel_rfl

set_option maxRecDepth 100000 in
theorem lifted (os : Os) (started : os.Started) (H : Type) (enc : TypeId × Value → H) :
    ReturnsInHanded {} Try.checked os 20 .any (Rows.curvesBetweenSpec.pre6 enc Try.prog Try.f20 Rows.curvesBetweenRow.domain false) (Rows.curvesBetweenSpec.post enc Try.prog Try.f20 false true false false) := by
  refine returnsInHanded_of_change (C := Try.checked) own started (by kernel_rfl) Try.func20
    (ChangeSpec.witness6 (enc := enc) (C := Try.checked) false ⟨#[], #[.slice none 0 0, .int .u16 0, .int .u32 0, .int .u32 0], []⟩ 8 (by kernel_rfl) (by kernel_rfl) (by kernel_rfl) (by kernel_rfl)) ?_
  intro W base args ds gs before hval0 hW hcnd _
  have hval : ∀ (j : Nat) t v, Try.f20.params[j]? = some t → args[j]? = some v → Value.okWide Try.prog W .any base t v := hval0
  have hW' := hW
  obtain ⟨p, q, hA0, hV, rfl, hfz, hnd⟩ := hW
  have hA : DataW.TrodAll enc Try.prog W 0 (fun _ => true) true Try.f20.params.toList args.toList ds p := hA0
  rw [Try.params20] at hA hval
  obtain ⟨v0, vs0, d0, ds0, p0, q0, hargs, rfl, rfl, h0, r0⟩ := trodAll_cons hA
  obtain ⟨v1, vs1, d1, ds1, p1, q1, rfl, rfl, rfl, h1, r1⟩ := trodAll_cons r0
  obtain ⟨v2, vs2, d2, ds2, p2, q2, rfl, rfl, rfl, h2, r2⟩ := trodAll_cons r1
  obtain ⟨v3, vs3, d3, ds3, p3, q3, rfl, rfl, rfl, h3, r3⟩ := trodAll_cons r2
  obtain ⟨rfl, rfl, rfl⟩ := trodAll_nil r3
  obtain rfl : args = #[v0, v1, v2, v3] := by cases args; simp_all
  obtain ⟨rfl, rfl⟩ := trodVars_none hV
  have k0 := h0
  have lt0 : ∀ x ∈ p0, x.block < W.heap.size := by obtain ⟨m, hm⟩ := k0; exact DataW.trod_lt m _ _ _ hm
  obtain ⟨xa0, xn0, xc0, rfl⟩ := okWide_slice Try.underlying36 (hval 0 36 v0 rfl rfl)
  obtain ⟨m0, hm0⟩ := h0
  obtain ⟨a0, n0, c0, e0, lc0, mc0, fz0, ⟨l0, ln0, rd0⟩⟩ := open_kns hm0
  cases e0
  have nb0 := Nat.le_trans lc0 (max_len mc0)
  obtain ⟨a1, rfl, rfl, rfl, w1⟩ := open_int Try.underlying41 (hval 1 41 v1 rfl rfl) h1
  obtain ⟨a2, rfl, rfl, rfl, w2⟩ := open_int Try.underlying46 (hval 2 46 v2 rfl rfl) h2
  obtain ⟨a3, rfl, rfl, rfl, w3⟩ := open_int Try.underlying46 (hval 3 46 v3 rfl rfl) h3
  clear hA0 hval0
  refine (cvBtw_walk l0 xn0 ln0 xa0 xc0 a1 a2 a3 (u16_rng w1) (u32_rng w2) (u32_rng w3) nb0 W rd0).mono fun e W' ⟨he, bel⟩ => ?_
  subst he
  exact ⟨_, rfl, _, _, _, [], _, [], hW', trodAll_mk1 (shut_bool Try.underlying4 _), (trodAll_cons_mk (Below.trod laidOut (by kernel_rfl) (of_decide_eq_true (by kernel_rfl)) k0 bel lt0) (trodAll_cons_mk (shut_int Try.underlying41 w1) (trodAll_cons_mk (shut_int Try.underlying46 w2) (trodAll_cons_mk (shut_int Try.underlying46 w3) trodAll_mk0)))), rfl, bel.frame _, fun h => by cases h⟩

theorem over : Rows.curvesBetweenRow.holds Try.pinned (OpenSpec.ofChange Rows.curvesBetweenSpec) :=
  OpenClaim.holds_of_wide 20 Try.f20 rfl rfl rfl rfl rfl rfl rfl ⟨rfl, rfl, rfl, rfl, rfl⟩ rfl rfl rfl rfl rfl (by kernel_rfl) Try.func20 (by show joinedFacts Try.prog _ _ _ _ = true; unfold joinedFacts; rw [may0, lift0, make0]; kernel_rfl)
    (of_decide_eq_true (by kernel_rfl)) (by unfold Func.isWrapper; first | (rw [if_pos (by decide +kernel)]; kernel_rfl) | (rw [if_neg (by decide +kernel)]; exact ⟨rfl, rfl⟩))
    (fun os started H enc _ => lifted os started H enc)
end Go.Proofs.Ytbppajenihjfhaa.Cvb20
namespace Go.Proofs.Ytbppajenihjfhaa
/-- The statement. -/
theorem curvesBetween_holds : Rows.CurvesBetweenSaid := Cvb20.over
end Go.Proofs.Ytbppajenihjfhaa
