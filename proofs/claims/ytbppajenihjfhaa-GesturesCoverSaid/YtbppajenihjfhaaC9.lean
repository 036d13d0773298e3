/- curves.value, shapes, Value. -/
import Derived.Test.YtbppajenihjfhaaC7
import Derived.Test.YtbppajenihjfhaaC4
import Derived.Test.YtbppajenihjfhaaBV
import Derived.Test.YtbppajenihjfhaaK
import Derived.Test.YtbppajenihjfhaaG
import Derived.IntWalk
namespace Go.Proofs.Ytbppajenihjfhaa
open Go.RowKit
open Go.Lib (hid)

/-- The functions of the shapes lie in a block. -/
def SegAt (w : World) (b : Nat) : Prop := b < w.heap.size ∧ w.cell? ⟨b, 1, none⟩ = some (.func (.func 89) #[] #[]) ∧ w.cell? ⟨b, 2, none⟩ = some (.func (.func 90) #[] #[]) ∧ w.cell? ⟨b, 3, none⟩ = some (.func (.func 92) #[] #[])
theorem SegAt.below {w w' : World} {b : Nat} (h : SegAt w b) (hB : Below w.heap.size w w') : SegAt w' b :=
  ⟨Nat.lt_of_lt_of_le h.1 hB.size, bb hB h.1 h.2.1, bb hB h.1 h.2.2.1, bb hB h.1 h.2.2.2⟩
set_option maxRecDepth 100000 in
set_option maxHeartbeats 4000000 in
theorem shapes_any (w : World) : Calls Try.prog 72 #[] w fun e w' => e = .returned (.pointer (some ⟨w.heap.size, 0, none⟩)) ∧ SegAt w' w.heap.size ∧ Below w.heap.size w w' := by
  go_enter Try.func72, Try.ntmps72
  go_wp2_with fail
  exact bodyPost_ret (v := .pointer (some ⟨w.heap.size, 0, none⟩)) (by simp [results, Try.results72, go_sem]) rfl ⟨rfl, ⟨by simp, bn rfl rfl, bn rfl rfl, bn rfl rfl⟩, b_alloc (Below.refl _ _) _⟩
set_option maxRecDepth 100000 in
set_option maxHeartbeats 4000000 in
theorem kval1_any (l : List Kn) (nn : Nat) (hnn : l.length = nn) (a : Option Addr) (c : Nat) (i : Nat) (at_ : Int) (hi : i < nn) (b1 b2 : Nat) (w : World) (hn : nn ≤ 9223372036854775807) (hr : Rd w a (l.flatMap Kn.c))
    (h1 : w.cell? ⟨b1, 0, none⟩ = some (.slice a nn c)) (h2 : w.cell? ⟨b2, 0, none⟩ = some (.int .i64 at_)) :
    Calls Try.prog 88 #[.int .i64 i, .pointer (some ⟨b1, 0, none⟩), .pointer (some ⟨b2, 0, none⟩)] w fun e w' => e = .returned (.bool (decide (at_ < (kn l i).k))) ∧ Below w.heap.size w w' := by
  have HR := hid (after_rd hr)
  obtain ⟨b, off, rfl, hb⟩ := hr.addr (by rw [flat_len Kn.c 5 Kn.c5, hnn]; omega)
  have hii : (i : Int) < (nn : Int) := by omega
  obtain ⟨⟨xk, xv, xs, xa, xb⟩, hx⟩ : ∃ t, kn l i = t := ⟨_, rfl⟩
  have x0 : ∀ v : After w, v.w.cell? ⟨b, off + i * 5, none⟩ = some (.int .i64 xk) := kn_cell HR.out (j := i) (by rw [hnn]; exact hi) 0 (by decide) (by rw [hx]; rfl) rfl
  have Hx := hid hx; clear hx
  have k1 := after_cell (cell_lt h1) h1
  have k2 := after_cell (cell_lt h2) h2
  have HN := hid hnn
  clear hnn hr h1 h2
  go_enter Try.func88, Try.ntmps88
  go_wp2_with fail
  obtain ⟨u, hu⟩ : ∃ u : After w, u.w = w := ⟨After.here w, rfl⟩
  rw [← hu]
  clear hu
  refine wp_region_since (by kernel_rfl) (by kernel_rfl) ?_
  repeat (go_big_quiet_step (fail))
  refine wpQuiet_nil ?_
  intro u9
  go_wp2_with fail
  exact bodyPost_ret (v := .bool (decide (at_ < xk))) (by simp [results, Try.results88, go_sem]) rfl ⟨by rw [Hx.out], u9.2⟩
set_option maxRecDepth 100000 in
set_option maxHeartbeats 4000000 in
theorem value_any (l : List Kn) (nn : Nat) (hnn : l.length = nn) (a : Option Addr) (c : Nat) (at_ : Int) (bs : Nat) (w : World) (hcv : crvB l = true) (hr : Rd w a (l.flatMap Kn.c)) (hs : SegAt w bs) :
    Calls Try.prog 71 #[.pointer (some ⟨bs, 0, none⟩), .slice a nn c, .int .i64 at_] w fun e w' => e = .returned (.int .i64 (ofK l at_)) ∧ Below w.heap.size w w' := by
  have HN := hid hnn; have HR := hid hr
  clear hnn hr
  have HCV := hid hcv
  have HVB := hid (((crvB_iff l).1 hcv).1); clear hcv
  have hn10 := len_K HVB.out
  rw [HN.out] at hn10
  go_enter Try.func71, Try.ntmps71
  go_wp2_with fail
  obtain ⟨V, hV⟩ : ∃ V, V = ((w.alloc (.cells #[.slice a nn c] 36)).alloc (.cells #[.int .i64 at_] 3)) := ⟨_, rfl⟩
  have l0 : ∀ v : After V, v.w.cell? ⟨w.heap.size, 0, none⟩ = some (.slice a nn c) := after_cell (by rw [hV]; first | (simp; done) | omega | (simp; omega)) (by rw [hV]; (repeat (first | with_reducible assumption | exact bn (by first | (simp; done) | omega | (simp; omega)) rfl | refine bo (by first | (simp; done) | omega | (simp; omega)) ?_)))
  have fl0 : ∀ v : After V, v.w.frozen? ⟨w.heap.size, 0, none⟩ = false := after_frozen (by rw [hV]; first | (simp; done) | omega | (simp; omega)) (by rw [hV]; (repeat (first | exact fn (by first | (simp; done) | omega | (simp; omega)) | refine fo (by first | (simp; done) | omega | (simp; omega)) ?_)))
  have zl : ∀ v : After V, w.heap.size < v.w.heap.size := after_size (by rw [hV]; first | (simp; done) | omega | (simp; omega))
  have t0 : ∀ v : After V, v.w.cell? ⟨w.heap.size + 1, 0, none⟩ = some (.int .i64 at_) := after_cell (by rw [hV]; first | (simp; done) | omega | (simp; omega)) (by rw [hV]; (repeat (first | with_reducible assumption | exact bn (by first | (simp; done) | omega | (simp; omega)) rfl | refine bo (by first | (simp; done) | omega | (simp; omega)) ?_)))
  have ft0 : ∀ v : After V, v.w.frozen? ⟨w.heap.size + 1, 0, none⟩ = false := after_frozen (by rw [hV]; first | (simp; done) | omega | (simp; omega)) (by rw [hV]; (repeat (first | exact fn (by first | (simp; done) | omega | (simp; omega)) | refine fo (by first | (simp; done) | omega | (simp; omega)) ?_)))
  have zt : ∀ v : After V, w.heap.size + 1 < v.w.heap.size := after_size (by rw [hV]; first | (simp; done) | omega | (simp; omega))
  have hwV : Below w.heap.size w V := by rw [hV]; exact (by repeat (first | exact Below.refl _ _ | assumption | refine b_then ?_ (by assumption) | refine b_alloc ?_ _ | refine b_drewN ?_ _ | refine b_drew ?_ | refine b_set ?_ (by omega) _ | refine b_set ?_ (by simp) _))
  have WV := hid (after_below hwV)
  rw [← hV]
  obtain ⟨u0, hu⟩ : ∃ u : After V, u.w = V := ⟨After.here V, rfl⟩
  rw [← hu]
  clear hu hV
  have RV := hid (fun v : After V => HR.out.below (WV.out v))
  have s1 := upc hwV (after_cell hs.1 hs.2.1)
  have s2 := upc hwV (after_cell hs.1 hs.2.2.1)
  have s3 := upc hwV (after_cell hs.1 hs.2.2.2)
  clear hs
  refine (search_any nn (by omega) 88 (.pointer (some ⟨w.heap.size, 0, none⟩)) (.pointer (some ⟨w.heap.size + 1, 0, none⟩)) (fun i => decide (at_ < (kn l i).k)) (fun i j hij hj h => by
      have := kn_le HVB.out hij (by rw [HN.out]; exact hj)
      simp at h ⊢; omega) u0.w
    (fun i hi v => kval1_any l nn HN.out a c i at_ hi _ _ v.w (by omega) (RV.out (u0.on v.2)) (l0 (u0.on v.2)) (t0 (u0.on v.2))) (enters_of Try.func88 (by kernel_rfl) rfl)).mono ?_
  rintro e w9 ⟨⟨r, rfl, hr, hr1, hr2⟩, hB9⟩
  obtain ⟨u1, rfl⟩ : ∃ y9 : After V, w9 = y9.w := ⟨u0.on hB9, rfl⟩
  clear hB9
  have hcnt := hid (show IsCnt l at_ r from ⟨by rw [HN.out]; exact hr, fun i hi => by simpa using hr1 i hi, fun i h1 h2 => by simpa using hr2 i h1 (by rw [← HN.out]; exact h2)⟩)
  clear hr1 hr2
  rcases Nat.eq_zero_or_pos nn with rfl | hpos
  · have hl := hid (List.eq_nil_of_length_eq_zero HN.out)
    go_wp2_with fail
    exact bodyPost_ret (v := .int .i64 0) (by simp [results, Try.results71, go_sem]) rfl ⟨by rw [hl.out, ofK_nil], WV.out u1⟩
  have e0 : ((nn : Int) == 0) = false := beq_eq_false_iff_ne.2 (by omega)
  have hl0 : 0 < l.length := by rw [HN.out]; exact hpos
  obtain ⟨b, off, rfl, hb⟩ := HR.out.addr (by rw [flat_len Kn.c 5 Kn.c5]; omega)
  rcases Nat.eq_zero_or_pos r with rfl | hr0
  · have hof := hid (ofK_low hl0 hcnt.out)
    obtain ⟨⟨xk, xv, xs, xa, xb⟩, hx⟩ : ∃ t, kn l 0 = t := ⟨_, rfl⟩
    have x1 : ∀ v : After V, v.w.cell? ⟨b, off + 1, none⟩ = some (.int .i64 xv) := kn_cell RV.out (j := 0) (hl0) 1 (by decide) (by rw [hx]; rfl) (by omega)
    have Hx := hid hx; clear hx
    have y1 := x1 u1
    have hii : (0 : Int) < (nn : Int) := by omega
    go_wp2_with fail
    exact bodyPost_ret (v := .int .i64 xv) (by simp [results, Try.results71, go_sem]) rfl ⟨by rw [hof.out, Hx.out], WV.out u1⟩
  have e1 : ((r : Int) == 0) = false := beq_eq_false_iff_ne.2 (by omega)
  obtain ⟨i, rfl⟩ : ∃ i, r = i + 1 := ⟨r - 1, by omega⟩
  have hil : i < l.length := by rw [HN.out]; omega
  have hii : (i : Int) < (nn : Int) := by omega
  by_cases hrn : i + 1 = nn
  · have hof := hid (show ofK l at_ = (kn l i).v by rw [ofK_high hl0 (by rw [HN.out, ← hrn]; exact hcnt.out), HN.out, ← hrn, Nat.add_sub_cancel])
    obtain ⟨⟨xk, xv, xs, xa, xb⟩, hx⟩ : ∃ t, kn l i = t := ⟨_, rfl⟩
    have x1 : ∀ v : After V, v.w.cell? ⟨b, off + i * 5 + 1, none⟩ = some (.int .i64 xv) := kn_cell RV.out (j := i) (hil) 1 (by decide) (by rw [hx]; rfl) (by omega)
    have Hx := hid hx; clear hx
    have y1 := x1 u1
    have e2 : ((i : Int) + 1 == (nn : Int)) = true := by simp; omega
    clear hrn
    go_wp2_with fail
    exact bodyPost_ret (v := .int .i64 xv) (by simp [results, Try.results71, go_sem]) rfl ⟨by rw [hof.out, Hx.out], WV.out u1⟩
  have e2 : ((i : Int) + 1 == (nn : Int)) = false := beq_eq_false_iff_ne.2 (by omega)
  have hil1 : i + 1 < l.length := by rw [HN.out]; omega
  have hii1 : (i : Int) + 1 < (nn : Int) := by omega
  have bx := kn_at HVB.out hil
  have by_ := kn_at HVB.out hil1
  have hlt := kn_lt HVB.out (show i < i + 1 by omega) hil1
  have hat1 := hcnt.out.2.1 i (by omega)
  have hat2 := hcnt.out.2.2 (i + 1) (Nat.le_refl _) hil1
  have hsg := (segOk_iff l i).1 (((crvB_iff l).1 HCV.out).2 i hil1)
  have hof := ofK_mid hil1 hcnt.out
  obtain ⟨⟨xk, xv, xs, xa, xb⟩, hx⟩ : ∃ t, kn l i = t := ⟨_, rfl⟩
  obtain ⟨⟨yk, yv, ys, ya, yb⟩, hy⟩ : ∃ t, kn l (i + 1) = t := ⟨_, rfl⟩
  have c0 : ∀ v : After V, v.w.cell? ⟨b, off + i * 5, none⟩ = some (.int .i64 xk) := kn_cell RV.out (j := i) hil 0 (by decide) (by rw [hx]; rfl) rfl
  have c1 : ∀ v : After V, v.w.cell? ⟨b, off + i * 5 + 1, none⟩ = some (.int .i64 xv) := kn_cell RV.out (j := i) hil 1 (by decide) (by rw [hx]; rfl) (by omega)
  have c2 : ∀ v : After V, v.w.cell? ⟨b, off + i * 5 + 2, none⟩ = some (.int .i64 xs) := kn_cell RV.out (j := i) hil 2 (by decide) (by rw [hx]; rfl) (by omega)
  have c3 : ∀ v : After V, v.w.cell? ⟨b, off + i * 5 + 3, none⟩ = some (.int .i64 xa) := kn_cell RV.out (j := i) hil 3 (by decide) (by rw [hx]; rfl) (by omega)
  have c4 : ∀ v : After V, v.w.cell? ⟨b, off + i * 5 + 4, none⟩ = some (.int .i64 xb) := kn_cell RV.out (j := i) hil 4 (by decide) (by rw [hx]; rfl) (by omega)
  have d0 : ∀ v : After V, v.w.cell? ⟨b, off + (i + 1) * 5, none⟩ = some (.int .i64 yk) := kn_cell RV.out (j := i + 1) hil1 0 (by decide) (by rw [hy]; rfl) rfl
  have d1 : ∀ v : After V, v.w.cell? ⟨b, off + (i + 1) * 5 + 1, none⟩ = some (.int .i64 yv) := kn_cell RV.out (j := i + 1) hil1 1 (by decide) (by rw [hy]; rfl) (by omega)
  have d2 : ∀ v : After V, v.w.cell? ⟨b, off + (i + 1) * 5 + 2, none⟩ = some (.int .i64 ys) := kn_cell RV.out (j := i + 1) hil1 2 (by decide) (by rw [hy]; rfl) (by omega)
  have d3 : ∀ v : After V, v.w.cell? ⟨b, off + (i + 1) * 5 + 3, none⟩ = some (.int .i64 ya) := kn_cell RV.out (j := i + 1) hil1 3 (by decide) (by rw [hy]; rfl) (by omega)
  have d4 : ∀ v : After V, v.w.cell? ⟨b, off + (i + 1) * 5 + 4, none⟩ = some (.int .i64 yb) := kn_cell RV.out (j := i + 1) hil1 4 (by decide) (by rw [hy]; rfl) (by omega)
  simp only [hx, hy] at bx by_ hlt hat1 hat2 hsg hof
  have hs := bx.2.2.2.2.1
  have hseg : SegIs ⟨xk, xv, xs, xa, xb⟩ ⟨yk, yv, ys, ya, yb⟩ (at_ - xk) (yk - xk) := ⟨bx.2.2.1, bx.2.2.2.1, by_.2.2.1, by_.2.2.2.1, by omega, by omega, by omega, hsg, bx.2.2.2.2.2.1⟩
  have w1 : IntKind.i64.wrap (at_ - xk) = at_ - xk := IntWalk.i64_in _ (by omega)
  have w2 : IntKind.i64.wrap (yk - xk) = yk - xk := IntWalk.i64_in _ (by omega)
  clear bx by_ hlt hat1 hat2 hsg hx hy
  have n1 : (0 : Int) ≤ (i : Int) + 1 := by omega
  have n2 : ((i : Int) + 1).toNat = i + 1 := by omega
  have n3 : IntKind.i64.wrap (i : Int) = (i : Int) := IntWalk.i64_in _ (by omega)
  go_wp2_with fail
  refine whole_region 13 rfl (by kernel_rfl) ?_
  intro u0
  refine h_take 0 (x := ?_) rfl (by kernel_rfl) (by kernel_rfl) (by kernel_rfl) (fun _ _ _ h => h) (by rfl) (fun v => ?_) ?_
  rotate_left
  · (go_simp; try with_reducible rfl)
  try simp only [Act.put, List.setIfInBounds_toArray, List.set_cons_zero, List.set_cons_succ]
  refine h_take 1 (x := ?_) rfl (by kernel_rfl) (by kernel_rfl) (by kernel_rfl) (fun _ _ _ h => h) (by rfl) (fun v => ?_) ?_
  rotate_left
  · (go_simp; try with_reducible rfl)
  try simp only [Act.put, List.setIfInBounds_toArray, List.set_cons_zero, List.set_cons_succ]
  refine h_take 2 (x := ?_) rfl (by kernel_rfl) (by kernel_rfl) (by kernel_rfl) (fun _ _ _ h => h) (by rfl) (fun v => ?_) ?_
  rotate_left
  · (go_simp; try with_reducible rfl)
  try simp only [Act.put, List.setIfInBounds_toArray, List.set_cons_zero, List.set_cons_succ]
  refine h_take 3 (x := ?_) rfl (by kernel_rfl) (by kernel_rfl) (by kernel_rfl) (fun _ _ _ h => h) (by rfl) (fun v => ?_) ?_
  rotate_left
  · (go_simp; try with_reducible rfl)
  try simp only [Act.put, List.setIfInBounds_toArray, List.set_cons_zero, List.set_cons_succ]
  refine h_take 4 (x := ?_) rfl (by kernel_rfl) (by kernel_rfl) (by kernel_rfl) (fun _ _ _ h => h) (by rfl) (fun v => ?_) ?_
  rotate_left
  · (go_simp; try with_reducible rfl)
  try simp only [Act.put, List.setIfInBounds_toArray, List.set_cons_zero, List.set_cons_succ]
  refine h_take 5 (x := ?_) rfl (by kernel_rfl) (by kernel_rfl) (by kernel_rfl) (fun _ _ _ h => h) (by rfl) (fun v => ?_) ?_
  rotate_left
  · (go_simp; try with_reducible rfl)
  try simp only [Act.put, List.setIfInBounds_toArray, List.set_cons_zero, List.set_cons_succ]
  refine h_take 6 (x := ?_) rfl (by kernel_rfl) (by kernel_rfl) (by kernel_rfl) (fun _ _ _ h => h) (by rfl) (fun v => ?_) ?_
  rotate_left
  · (go_simp; try with_reducible rfl)
  try simp only [Act.put, List.setIfInBounds_toArray, List.set_cons_zero, List.set_cons_succ]
  refine h_take 7 (x := ?_) rfl (by kernel_rfl) (by kernel_rfl) (by kernel_rfl) (fun _ _ _ h => h) (by rfl) (fun v => ?_) ?_
  rotate_left
  · (go_simp; try with_reducible rfl)
  try simp only [Act.put, List.setIfInBounds_toArray, List.set_cons_zero, List.set_cons_succ]
  refine h_take 8 (x := ?_) rfl (by kernel_rfl) (by kernel_rfl) (by kernel_rfl) (fun _ _ _ h => h) (by rfl) (fun v => ?_) ?_
  rotate_left
  · (go_simp; try with_reducible rfl)
  try simp only [Act.put, List.setIfInBounds_toArray, List.set_cons_zero, List.set_cons_succ]
  refine h_two 9 10 (by kernel_rfl) rfl rfl (fun K hK => ?_) (fun K hK => ?_)
  · go_simp
    obtain ⟨v1, hv1⟩ : ∃ y9 : After V, y9.w = u0.w.alloc (.cells #[.int .i64 0, .int .i64 0, .int .i64 0, .int .i64 0, .int .i64 0] 71) := ⟨u0.on (b_alloc (Below.refl _ _) _), rfl⟩
    rw [← hv1]
    have hx : BoxV V (u0.w.heap.size) [.int .i64 0, .int .i64 0, .int .i64 0, .int .i64 0, .int .i64 0] v1.w := by rw [hv1]; exact BoxV.new u0.w_below #[.int .i64 0, .int .i64 0, .int .i64 0, .int .i64 0, .int .i64 0] 71
    have hzhx : V.heap.size ≤ u0.w.heap.size := u0.w_below.size
    have hx0 : u0.w.heap.size < v1.w.heap.size := hx.size
    clear hv1
    refine hK _ v1 ?_
    clear hK K
    try simp only [Act.put, List.setIfInBounds_toArray, List.set_cons_zero, List.set_cons_succ]
    refine h_step 10 (by kernel_rfl) rfl (fun K hK => ?_)
    go_simp
    obtain ⟨v2, hv1⟩ : ∃ y9 : After V, y9.w = v1.w.alloc (.cells #[.int .i64 0, .int .i64 0, .int .i64 0, .int .i64 0, .int .i64 0] 71) := ⟨v1.on (b_alloc (Below.refl _ _) _), rfl⟩
    rw [← hv1]
    have hy : BoxV V (v1.w.heap.size) [.int .i64 0, .int .i64 0, .int .i64 0, .int .i64 0, .int .i64 0] v2.w := by rw [hv1]; exact BoxV.new v1.w_below #[.int .i64 0, .int .i64 0, .int .i64 0, .int .i64 0, .int .i64 0] 71
    have hzhy : V.heap.size ≤ v1.w.heap.size := v1.w_below.size
    have hx := hx.alloc (.cells #[.int .i64 0, .int .i64 0, .int .i64 0, .int .i64 0, .int .i64 0] 71)
    rw [← hv1] at hx
    have hnehyhx : v1.w.heap.size ≠ u0.w.heap.size := fun h => by have := hx0; omega
    have hy0 : v1.w.heap.size < v2.w.heap.size := hy.size
    have hx0 := hx.size
    clear hv1
    refine hK _ v2 ?_
    clear hK K
    try simp only [Act.put, List.setIfInBounds_toArray, List.set_cons_zero, List.set_cons_succ]
    refine h_step 11 (by kernel_rfl) rfl (fun K hK => ?_)
    have p0 := hx.cell 0 _ rfl
    have p1 := hx.cell 1 _ rfl
    have p2 := hx.cell 2 _ rfl
    have p3 := hx.cell 3 _ rfl
    have p4 := hx.cell 4 _ rfl
    have pf0 := hx.froz 0 (by simp)
    have pf1 := hx.froz 1 (by simp)
    have pf2 := hx.froz 2 (by simp)
    have pf3 := hx.froz 3 (by simp)
    have pf4 := hx.froz 4 (by simp)
    go_simp
    generalize hZ : World.setCell _ _ _ = Z
    have nhx : BoxV V (u0.w.heap.size) [.int .i64 xk, .int .i64 xv, .int .i64 xs, .int .i64 xa, .int .i64 xb] Z := by rw [← hZ]; exact (((((hx.set1 hzhx 0 (.int .i64 xk)).set1 hzhx 1 (.int .i64 xv)).set1 hzhx 2 (.int .i64 xs)).set1 hzhx 3 (.int .i64 xa)).set1 hzhx 4 (.int .i64 xb))
    have nhy : BoxV V (v1.w.heap.size) [.int .i64 0, .int .i64 0, .int .i64 0, .int .i64 0, .int .i64 0] Z := by rw [← hZ]; exact (((((hy.other1 hzhx (by omega) 0 (.int .i64 xk)).other1 hzhx (by omega) 1 (.int .i64 xv)).other1 hzhx (by omega) 2 (.int .i64 xs)).other1 hzhx (by omega) 3 (.int .i64 xa)).other1 hzhx (by omega) 4 (.int .i64 xb))
    clear hZ
    clear p0 pf0 p1 pf1 p2 pf2 p3 pf3 p4 pf4
    clear hx hy
    have hx := nhx
    have hy := nhy
    clear nhx nhy
    obtain ⟨z3, rfl⟩ : ∃ y9 : After V, Z = y9.w := ⟨After.to hx.below, rfl⟩
    refine hK _ z3 ?_
    clear hK K
    try simp only [Act.put, List.setIfInBounds_toArray, List.set_cons_zero, List.set_cons_succ]
    refine h_step 12 (by kernel_rfl) rfl (fun K hK => ?_)
    have p0 := hy.cell 0 _ rfl
    have p1 := hy.cell 1 _ rfl
    have p2 := hy.cell 2 _ rfl
    have p3 := hy.cell 3 _ rfl
    have p4 := hy.cell 4 _ rfl
    have pf0 := hy.froz 0 (by simp)
    have pf1 := hy.froz 1 (by simp)
    have pf2 := hy.froz 2 (by simp)
    have pf3 := hy.froz 3 (by simp)
    have pf4 := hy.froz 4 (by simp)
    go_simp
    generalize hZ : World.setCell _ _ _ = Z
    have nhy : BoxV V (v1.w.heap.size) [.int .i64 yk, .int .i64 yv, .int .i64 ys, .int .i64 ya, .int .i64 yb] Z := by rw [← hZ]; exact (((((hy.set1 hzhy 0 (.int .i64 yk)).set1 hzhy 1 (.int .i64 yv)).set1 hzhy 2 (.int .i64 ys)).set1 hzhy 3 (.int .i64 ya)).set1 hzhy 4 (.int .i64 yb))
    have nhx : BoxV V (u0.w.heap.size) [.int .i64 xk, .int .i64 xv, .int .i64 xs, .int .i64 xa, .int .i64 xb] Z := by rw [← hZ]; exact (((((hx.other1 hzhy (by omega) 0 (.int .i64 yk)).other1 hzhy (by omega) 1 (.int .i64 yv)).other1 hzhy (by omega) 2 (.int .i64 ys)).other1 hzhy (by omega) 3 (.int .i64 ya)).other1 hzhy (by omega) 4 (.int .i64 yb))
    clear hZ
    clear p0 pf0 p1 pf1 p2 pf2 p3 pf3 p4 pf4
    clear hy hx
    have hy := nhy
    have hx := nhx
    clear nhy nhx
    obtain ⟨z4, rfl⟩ : ∃ y9 : After V, Z = y9.w := ⟨After.to hy.below, rfl⟩
    refine hK _ z4 ?_
    clear hK K
    try simp only [Act.put, List.setIfInBounds_toArray, List.set_cons_zero, List.set_cons_succ]
    refine wpAnyH_done (by kernel_rfl) ?_ _
    refine NoPanic.normal ?_
    go_wp2_with fail
    obtain ⟨V2, hV2⟩ : ∃ V2 : World, V2 = z4.w := ⟨_, rfl⟩
    have hBV2 : Below V.heap.size V V2 := by rw [hV2]; exact z4.w_below
    rw [← hV2] at hx hy ⊢
    generalize u0.w.heap.size = gx at *
    generalize v1.w.heap.size = gy at *
    have x0 := after_cell hx.size (hx.cell 0 _ rfl)
    have x1 := after_cell hx.size (hx.cell 1 _ rfl)
    have x2 := after_cell hx.size (hx.cell 2 _ rfl)
    have x3 := after_cell hx.size (hx.cell 3 _ rfl)
    have x4 := after_cell hx.size (hx.cell 4 _ rfl)
    have y0 := after_cell hy.size (hy.cell 0 _ rfl)
    have y1 := after_cell hy.size (hy.cell 1 _ rfl)
    have y2 := after_cell hy.size (hy.cell 2 _ rfl)
    have y3 := after_cell hy.size (hy.cell 3 _ rfl)
    have y4 := after_cell hy.size (hy.cell 4 _ rfl)
    have q0 := upc hBV2 t0
    have sg1 := upc hBV2 s1
    have sg2 := upc hBV2 s2
    have sg3 := upc hBV2 s3
    have WV2 := hid (upb hBV2 WV.out)
    clear hx hy hV2
    obtain ⟨u2, hu2⟩ : ∃ u : After V2, u.w = V2 := ⟨After.here V2, rfl⟩
    rw [← hu2]
    clear hu2
    obtain ⟨num, hnum⟩ : ∃ n, at_ - xk = n := ⟨_, rfl⟩
    obtain ⟨den, hden⟩ : ∃ n, yk - xk = n := ⟨_, rfl⟩
    rw [hnum, hden] at hseg hof
    rw [hnum] at w1
    rw [hden] at w2
    have HSEG := hid hseg; have HOF := hid hof
    have HNUM := hid hnum; have HDEN := hid hden
    clear hseg hof
    have ef1 := enters_of Try.func89 (by kernel_rfl) rfl
    have ef2 := enters_of Try.func90 (by kernel_rfl) rfl
    have ef3 := enters_of Try.func92 (by kernel_rfl) rfl
    rcases hs with rfl | rfl | rfl
    · have kc : ∀ y : After V2, Calls Try.prog 89 #[.agg #[.int .i64 xk, .int .i64 xv, .int .i64 1, .int .i64 xa, .int .i64 xb], .agg #[.int .i64 yk, .int .i64 yv, .int .i64 ys, .int .i64 ya, .int .i64 yb], .int .i64 num, .int .i64 den] y.w fun e w'' => e = .returned (.int .i64 xv) ∧ ∃ u : After V2, w'' = u.w := fun y => after_call (shape1_any ⟨xk, xv, 1, xa, xb⟩ ⟨yk, yv, ys, ya, yb⟩ num den y.w)
      refine wp_region_since (by kernel_rfl) (by kernel_rfl) ?_
      repeat (go_big_quiet_step ((go_at_call 89; exact kc _)))
      refine wpQuiet_nil ?_
      intro u9
      go_wp2_with fail
      exact bodyPost_ret (v := .int .i64 xv) (by simp [results, Try.results71, go_sem]) rfl ⟨by rw [HOF.out]; unfold shp; rw [if_pos rfl], WV2.out u9⟩
    · obtain ⟨X, hX⟩ : ∃ X, shp ⟨xk, xv, 2, xa, xb⟩ ⟨yk, yv, ys, ya, yb⟩ num den = X := ⟨_, rfl⟩
      have HX := hid hX
      have kc : ∀ y : After V2, Calls Try.prog 90 #[.agg #[.int .i64 xk, .int .i64 xv, .int .i64 2, .int .i64 xa, .int .i64 xb], .agg #[.int .i64 yk, .int .i64 yv, .int .i64 ys, .int .i64 ya, .int .i64 yb], .int .i64 num, .int .i64 den] y.w fun e w'' => e = .returned (.int .i64 X) ∧ ∃ u : After V2, w'' = u.w := fun y => after_call (hX ▸ shape2_any ⟨xk, xv, 2, xa, xb⟩ ⟨yk, yv, ys, ya, yb⟩ num den y.w HSEG.out rfl)
      clear hX
      refine wp_region_since (by kernel_rfl) (by kernel_rfl) ?_
      repeat (go_big_quiet_step ((go_at_call 90; exact kc _)))
      refine wpQuiet_nil ?_
      intro u9
      go_wp2_with fail
      exact bodyPost_ret (v := .int .i64 X) (by simp [results, Try.results71, go_sem]) rfl ⟨by rw [HOF.out, HX.out], WV2.out u9⟩
    · obtain ⟨X, hX⟩ : ∃ X, shp ⟨xk, xv, 3, xa, xb⟩ ⟨yk, yv, ys, ya, yb⟩ num den = X := ⟨_, rfl⟩
      have HX := hid hX
      have kc : ∀ y : After V2, Calls Try.prog 92 #[.agg #[.int .i64 xk, .int .i64 xv, .int .i64 3, .int .i64 xa, .int .i64 xb], .agg #[.int .i64 yk, .int .i64 yv, .int .i64 ys, .int .i64 ya, .int .i64 yb], .int .i64 num, .int .i64 den] y.w fun e w'' => e = .returned (.int .i64 X) ∧ ∃ u : After V2, w'' = u.w := fun y => after_call (hX ▸ shape3_any ⟨xk, xv, 3, xa, xb⟩ ⟨yk, yv, ys, ya, yb⟩ num den y.w HSEG.out rfl)
      clear hX
      refine wp_region_since (by kernel_rfl) (by kernel_rfl) ?_
      repeat (go_big_quiet_step ((go_at_call 92; exact kc _)))
      refine wpQuiet_nil ?_
      intro u9
      go_wp2_with fail
      exact bodyPost_ret (v := .int .i64 X) (by simp [results, Try.results71, go_sem]) rfl ⟨by rw [HOF.out, HX.out], WV2.out u9⟩
    
  · go_simp
    obtain ⟨v1, hv1⟩ : ∃ y9 : After V, y9.w = u0.w.alloc (.cells #[.int .i64 0, .int .i64 0, .int .i64 0, .int .i64 0, .int .i64 0] 71) := ⟨u0.on (b_alloc (Below.refl _ _) _), rfl⟩
    rw [← hv1]
    have hy : BoxV V (u0.w.heap.size) [.int .i64 0, .int .i64 0, .int .i64 0, .int .i64 0, .int .i64 0] v1.w := by rw [hv1]; exact BoxV.new u0.w_below #[.int .i64 0, .int .i64 0, .int .i64 0, .int .i64 0, .int .i64 0] 71
    have hzhy : V.heap.size ≤ u0.w.heap.size := u0.w_below.size
    have hy0 : u0.w.heap.size < v1.w.heap.size := hy.size
    clear hv1
    refine hK _ v1 ?_
    clear hK K
    try simp only [Act.put, List.setIfInBounds_toArray, List.set_cons_zero, List.set_cons_succ]
    refine h_step 9 (by kernel_rfl) rfl (fun K hK => ?_)
    go_simp
    obtain ⟨v2, hv1⟩ : ∃ y9 : After V, y9.w = v1.w.alloc (.cells #[.int .i64 0, .int .i64 0, .int .i64 0, .int .i64 0, .int .i64 0] 71) := ⟨v1.on (b_alloc (Below.refl _ _) _), rfl⟩
    rw [← hv1]
    have hx : BoxV V (v1.w.heap.size) [.int .i64 0, .int .i64 0, .int .i64 0, .int .i64 0, .int .i64 0] v2.w := by rw [hv1]; exact BoxV.new v1.w_below #[.int .i64 0, .int .i64 0, .int .i64 0, .int .i64 0, .int .i64 0] 71
    have hzhx : V.heap.size ≤ v1.w.heap.size := v1.w_below.size
    have hy := hy.alloc (.cells #[.int .i64 0, .int .i64 0, .int .i64 0, .int .i64 0, .int .i64 0] 71)
    rw [← hv1] at hy
    have hnehxhy : v1.w.heap.size ≠ u0.w.heap.size := fun h => by have := hy0; omega
    have hx0 : v1.w.heap.size < v2.w.heap.size := hx.size
    have hy0 := hy.size
    clear hv1
    refine hK _ v2 ?_
    clear hK K
    try simp only [Act.put, List.setIfInBounds_toArray, List.set_cons_zero, List.set_cons_succ]
    refine h_step 11 (by kernel_rfl) rfl (fun K hK => ?_)
    have p0 := hx.cell 0 _ rfl
    have p1 := hx.cell 1 _ rfl
    have p2 := hx.cell 2 _ rfl
    have p3 := hx.cell 3 _ rfl
    have p4 := hx.cell 4 _ rfl
    have pf0 := hx.froz 0 (by simp)
    have pf1 := hx.froz 1 (by simp)
    have pf2 := hx.froz 2 (by simp)
    have pf3 := hx.froz 3 (by simp)
    have pf4 := hx.froz 4 (by simp)
    go_simp
    generalize hZ : World.setCell _ _ _ = Z
    have nhx : BoxV V (v1.w.heap.size) [.int .i64 xk, .int .i64 xv, .int .i64 xs, .int .i64 xa, .int .i64 xb] Z := by rw [← hZ]; exact (((((hx.set1 hzhx 0 (.int .i64 xk)).set1 hzhx 1 (.int .i64 xv)).set1 hzhx 2 (.int .i64 xs)).set1 hzhx 3 (.int .i64 xa)).set1 hzhx 4 (.int .i64 xb))
    have nhy : BoxV V (u0.w.heap.size) [.int .i64 0, .int .i64 0, .int .i64 0, .int .i64 0, .int .i64 0] Z := by rw [← hZ]; exact (((((hy.other1 hzhx (by omega) 0 (.int .i64 xk)).other1 hzhx (by omega) 1 (.int .i64 xv)).other1 hzhx (by omega) 2 (.int .i64 xs)).other1 hzhx (by omega) 3 (.int .i64 xa)).other1 hzhx (by omega) 4 (.int .i64 xb))
    clear hZ
    clear p0 pf0 p1 pf1 p2 pf2 p3 pf3 p4 pf4
    clear hx hy
    have hx := nhx
    have hy := nhy
    clear nhx nhy
    obtain ⟨z3, rfl⟩ : ∃ y9 : After V, Z = y9.w := ⟨After.to hx.below, rfl⟩
    refine hK _ z3 ?_
    clear hK K
    try simp only [Act.put, List.setIfInBounds_toArray, List.set_cons_zero, List.set_cons_succ]
    refine h_step 12 (by kernel_rfl) rfl (fun K hK => ?_)
    have p0 := hy.cell 0 _ rfl
    have p1 := hy.cell 1 _ rfl
    have p2 := hy.cell 2 _ rfl
    have p3 := hy.cell 3 _ rfl
    have p4 := hy.cell 4 _ rfl
    have pf0 := hy.froz 0 (by simp)
    have pf1 := hy.froz 1 (by simp)
    have pf2 := hy.froz 2 (by simp)
    have pf3 := hy.froz 3 (by simp)
    have pf4 := hy.froz 4 (by simp)
    go_simp
    generalize hZ : World.setCell _ _ _ = Z
    have nhy : BoxV V (u0.w.heap.size) [.int .i64 yk, .int .i64 yv, .int .i64 ys, .int .i64 ya, .int .i64 yb] Z := by rw [← hZ]; exact (((((hy.set1 hzhy 0 (.int .i64 yk)).set1 hzhy 1 (.int .i64 yv)).set1 hzhy 2 (.int .i64 ys)).set1 hzhy 3 (.int .i64 ya)).set1 hzhy 4 (.int .i64 yb))
    have nhx : BoxV V (v1.w.heap.size) [.int .i64 xk, .int .i64 xv, .int .i64 xs, .int .i64 xa, .int .i64 xb] Z := by rw [← hZ]; exact (((((hx.other1 hzhy (by omega) 0 (.int .i64 yk)).other1 hzhy (by omega) 1 (.int .i64 yv)).other1 hzhy (by omega) 2 (.int .i64 ys)).other1 hzhy (by omega) 3 (.int .i64 ya)).other1 hzhy (by omega) 4 (.int .i64 yb))
    clear hZ
    clear p0 pf0 p1 pf1 p2 pf2 p3 pf3 p4 pf4
    clear hy hx
    have hy := nhy
    have hx := nhx
    clear nhy nhx
    obtain ⟨z4, rfl⟩ : ∃ y9 : After V, Z = y9.w := ⟨After.to hy.below, rfl⟩
    refine hK _ z4 ?_
    clear hK K
    try simp only [Act.put, List.setIfInBounds_toArray, List.set_cons_zero, List.set_cons_succ]
    refine wpAnyH_done (by kernel_rfl) ?_ _
    refine NoPanic.normal ?_
    go_wp2_with fail
    obtain ⟨V2, hV2⟩ : ∃ V2 : World, V2 = z4.w := ⟨_, rfl⟩
    have hBV2 : Below V.heap.size V V2 := by rw [hV2]; exact z4.w_below
    rw [← hV2] at hx hy ⊢
    generalize v1.w.heap.size = gx at *
    generalize u0.w.heap.size = gy at *
    have x0 := after_cell hx.size (hx.cell 0 _ rfl)
    have x1 := after_cell hx.size (hx.cell 1 _ rfl)
    have x2 := after_cell hx.size (hx.cell 2 _ rfl)
    have x3 := after_cell hx.size (hx.cell 3 _ rfl)
    have x4 := after_cell hx.size (hx.cell 4 _ rfl)
    have y0 := after_cell hy.size (hy.cell 0 _ rfl)
    have y1 := after_cell hy.size (hy.cell 1 _ rfl)
    have y2 := after_cell hy.size (hy.cell 2 _ rfl)
    have y3 := after_cell hy.size (hy.cell 3 _ rfl)
    have y4 := after_cell hy.size (hy.cell 4 _ rfl)
    have q0 := upc hBV2 t0
    have sg1 := upc hBV2 s1
    have sg2 := upc hBV2 s2
    have sg3 := upc hBV2 s3
    have WV2 := hid (upb hBV2 WV.out)
    clear hx hy hV2
    obtain ⟨u2, hu2⟩ : ∃ u : After V2, u.w = V2 := ⟨After.here V2, rfl⟩
    rw [← hu2]
    clear hu2
    obtain ⟨num, hnum⟩ : ∃ n, at_ - xk = n := ⟨_, rfl⟩
    obtain ⟨den, hden⟩ : ∃ n, yk - xk = n := ⟨_, rfl⟩
    rw [hnum, hden] at hseg hof
    rw [hnum] at w1
    rw [hden] at w2
    have HSEG := hid hseg; have HOF := hid hof
    have HNUM := hid hnum; have HDEN := hid hden
    clear hseg hof
    have ef1 := enters_of Try.func89 (by kernel_rfl) rfl
    have ef2 := enters_of Try.func90 (by kernel_rfl) rfl
    have ef3 := enters_of Try.func92 (by kernel_rfl) rfl
    rcases hs with rfl | rfl | rfl
    · have kc : ∀ y : After V2, Calls Try.prog 89 #[.agg #[.int .i64 xk, .int .i64 xv, .int .i64 1, .int .i64 xa, .int .i64 xb], .agg #[.int .i64 yk, .int .i64 yv, .int .i64 ys, .int .i64 ya, .int .i64 yb], .int .i64 num, .int .i64 den] y.w fun e w'' => e = .returned (.int .i64 xv) ∧ ∃ u : After V2, w'' = u.w := fun y => after_call (shape1_any ⟨xk, xv, 1, xa, xb⟩ ⟨yk, yv, ys, ya, yb⟩ num den y.w)
      refine wp_region_since (by kernel_rfl) (by kernel_rfl) ?_
      repeat (go_big_quiet_step ((go_at_call 89; exact kc _)))
      refine wpQuiet_nil ?_
      intro u9
      go_wp2_with fail
      exact bodyPost_ret (v := .int .i64 xv) (by simp [results, Try.results71, go_sem]) rfl ⟨by rw [HOF.out]; unfold shp; rw [if_pos rfl], WV2.out u9⟩
    · obtain ⟨X, hX⟩ : ∃ X, shp ⟨xk, xv, 2, xa, xb⟩ ⟨yk, yv, ys, ya, yb⟩ num den = X := ⟨_, rfl⟩
      have HX := hid hX
      have kc : ∀ y : After V2, Calls Try.prog 90 #[.agg #[.int .i64 xk, .int .i64 xv, .int .i64 2, .int .i64 xa, .int .i64 xb], .agg #[.int .i64 yk, .int .i64 yv, .int .i64 ys, .int .i64 ya, .int .i64 yb], .int .i64 num, .int .i64 den] y.w fun e w'' => e = .returned (.int .i64 X) ∧ ∃ u : After V2, w'' = u.w := fun y => after_call (hX ▸ shape2_any ⟨xk, xv, 2, xa, xb⟩ ⟨yk, yv, ys, ya, yb⟩ num den y.w HSEG.out rfl)
      clear hX
      refine wp_region_since (by kernel_rfl) (by kernel_rfl) ?_
      repeat (go_big_quiet_step ((go_at_call 90; exact kc _)))
      refine wpQuiet_nil ?_
      intro u9
      go_wp2_with fail
      exact bodyPost_ret (v := .int .i64 X) (by simp [results, Try.results71, go_sem]) rfl ⟨by rw [HOF.out, HX.out], WV2.out u9⟩
    · obtain ⟨X, hX⟩ : ∃ X, shp ⟨xk, xv, 3, xa, xb⟩ ⟨yk, yv, ys, ya, yb⟩ num den = X := ⟨_, rfl⟩
      have HX := hid hX
      have kc : ∀ y : After V2, Calls Try.prog 92 #[.agg #[.int .i64 xk, .int .i64 xv, .int .i64 3, .int .i64 xa, .int .i64 xb], .agg #[.int .i64 yk, .int .i64 yv, .int .i64 ys, .int .i64 ya, .int .i64 yb], .int .i64 num, .int .i64 den] y.w fun e w'' => e = .returned (.int .i64 X) ∧ ∃ u : After V2, w'' = u.w := fun y => after_call (hX ▸ shape3_any ⟨xk, xv, 3, xa, xb⟩ ⟨yk, yv, ys, ya, yb⟩ num den y.w HSEG.out rfl)
      clear hX
      refine wp_region_since (by kernel_rfl) (by kernel_rfl) ?_
      repeat (go_big_quiet_step ((go_at_call 92; exact kc _)))
      refine wpQuiet_nil ?_
      intro u9
      go_wp2_with fail
      exact bodyPost_ret (v := .int .i64 X) (by simp [results, Try.results71, go_sem]) rfl ⟨by rw [HOF.out, HX.out], WV2.out u9⟩
    

/-- What Value answers. -/
def kvV (l : List Kn) (at_ : Int) : Int := if chkK l = 0 then ofK l at_ else 0
set_option maxRecDepth 100000 in
set_option maxHeartbeats 4000000 in
theorem Value_any (l : List Kn) (nn : Nat) (hnn : l.length = nn) (a : Option Addr) (c : Nat) (at_ : Int) (w : World) (hn : nn ≤ 9223372036854775807) (hr : Rd w a (l.flatMap Kn.c)) :
    Calls Try.prog 48 #[.slice a nn c, .int .i64 at_] w fun e w' => e = .returned (.tuple #[.int .i64 (kvV l at_), .int .i64 (chkK l)]) ∧ Below w.heap.size w w' := by
  have HR := hid (after_rd hr); have HN := hid hnn
  clear hr hnn
  go_enter Try.func48, Try.ntmps48
  go_wp2_with fail
  refine (met0 (kcheck_any l nn HN.out a c w hn (HR.out (After.here w)))).mono ?_
  rintro e _ ⟨rfl, u1, rfl⟩
  by_cases hc : crvB l = true
  · have hk := chkK_ok hc
    have hv := hid (show kvV l at_ = ofK l at_ from if_pos hk)
    rw [hk]
    have HK := hid hk; have HC := hid hc; clear hk hc
    go_wp2_with fail
    refine (shapes_any u1.w).mono ?_
    rintro e w9 ⟨rfl, hs, hB9⟩
    obtain ⟨u2, rfl⟩ : ∃ y9 : After w, w9 = y9.w := ⟨u1.on hB9, rfl⟩
    clear hB9
    have HS := hid hs; clear hs
    go_wp2_with fail
    refine (met (value_any l nn HN.out a c at_ _ u2.w HC.out (HR.out u2) HS.out)).mono ?_
    rintro e _ ⟨rfl, u3, rfl⟩
    obtain ⟨X, hX⟩ : ∃ X, ofK l at_ = X := ⟨_, rfl⟩
    rw [hX]
    have HX := hid hX; clear hX
    go_wp2_with fail
    exact bodyPost_ret (v := .tuple #[.int .i64 X, .int .i64 0]) (by simp [results, Try.results48, go_sem]) rfl ⟨by rw [hv.out, HX.out, HK.out], u3.2⟩
  · have hk := chkK_no hc
    have hv := hid (show kvV l at_ = 0 from if_neg (by rw [hk]; decide))
    rw [hk]
    have HK := hid hk; clear hk hc
    go_wp2_with fail
    exact bodyPost_ret (v := .tuple #[.int .i64 0, .int .i64 110]) (by simp [results, Try.results48, go_sem]) rfl ⟨by rw [hv.out, HK.out], u1.2⟩
end Go.Proofs.Ytbppajenihjfhaa
