/- parts. -/
import Derived.Test.YtbppajenihjfhaaE
import Derived.Test.YtbppajenihjfhaaP2
import Derived.RangeFuncNested
import Derived.RangeFuncBound
import Derived.RangeFuncCalls
import Derived.RangeFuncLeaves
import Derived.RangeFuncBox
import Derived.RangeFuncKeeps
import Derived.Shelf.Abstract
import Derived.Shelf.RegionOpen
import Derived.OwnWalkIn
import Derived.TacticsInMore
import Derived.LoopNIn
import Derived.LoopIn
namespace Go.Proofs.Ytbppajenihjfhaa
open Go.RowKit Go.Shelf
open Go.Lib (hid)

theorem whole_region {P : Program} {Q : Exit → Act → World → Prop} {id : Nat} {a : Act} {V : World} {u : After V} {l : List Oper} (n : Nat) (hn : l.length = n) (hm : P.follows .mixedOrders = true)
    (h : ∀ u : After V, wpAnyH P .any l.toArray (NoPanic Q) (Since V) n (Array.replicate n false) a u.w) : (Code.region id l.toArray true).wp P Q a u.w := by
  subst hn
  exact wp_region_noPanic (wp_region_held_drew hm (S := Since V) ⟨⟨u.w.drew, b_drew u.2⟩, rfl⟩ (fun _ => h ⟨u.w.drew, b_drew u.2⟩))
theorem below_grown {w w' : World} (h : Below w.heap.size w w') : w.grownBy w' none := ⟨h.os, h.tape, h.output, h.size, fun k hk _ => h.block k hk⟩
/-- What an iterator asks of a round: old memory below n₀ stands, and so do all cells but those of some blocks. -/
structure Kx (n₀ : Nat) (X : Nat → Prop) (W W' : World) : Prop where
  below : Below n₀ W W'
  size : W.heap.size ≤ W'.heap.size
  keep : ∀ b o, ¬ X b → W.heap[b]? = some o → o.isCells = true → W'.heap[b]? = some o
theorem Kx.refl (n₀ : Nat) (X : Nat → Prop) (W : World) : Kx n₀ X W W := ⟨Below.refl _ _, Nat.le_refl _, fun _ _ _ h _ => h⟩
theorem Kx.trans {n₀ : Nat} {X : Nat → Prop} {A B C : World} (h : Kx n₀ X A B) (k : Kx n₀ X B C) : Kx n₀ X A C := ⟨h.below.trans k.below, Nat.le_trans h.size k.size, fun b o hb ho hc => k.keep b o hb (h.keep b o hb ho hc) hc⟩
theorem Kx.of {n₀ : Nat} {X : Nat → Prop} {W W' : World} (h : Below W.heap.size W W') (hn : n₀ ≤ W.heap.size) : Kx n₀ X W W' := ⟨h.mono hn, h.size, fun b _ _ ho _ => (h.block b (Array.getElem?_eq_some_iff.1 ho).1).trans ho⟩
theorem Kx.cell {n₀ : Nat} {X : Nat → Prop} {W W' : World} (h : Kx n₀ X W W') {b o : Nat} {v : Value} (hb : ¬ X b) (hc : W.cell? ⟨b, o, none⟩ = some v) : W'.cell? ⟨b, o, none⟩ = some v := by
  have hlt := cell_lt hc
  have ho : W.heap[b]? = some W.heap[b] := Array.getElem?_eq_getElem hlt
  have hcells : (W.heap[b]).isCells = true := by
    have h2 := hc
    unfold World.cell? at h2
    rw [ho] at h2
    revert h2
    cases W.heap[b] <;> simp [Obj.isCells]
  rw [World.cell?_of_block (h.keep b _ hb ho hcells |>.trans ho.symm)]
  exact hc
/-- The first j numbers below n. -/
def fto (n j : Nat) : List (Fin n) := (List.finRange n).take j
theorem fto_next {n j : Nat} (h : j < n) : fto n (j + 1) = fto n j ++ [⟨j, h⟩] := by
  unfold fto
  rw [List.take_succ_eq_append_getElem (by simpa using h)]
  simp
theorem fto_len (n j : Nat) : (fto n j).length ≤ j := by
  unfold fto
  rw [List.length_take]
  omega
theorem fto_all (n : Nat) : fto n n = List.finRange n := by
  unfold fto
  exact List.take_of_length_le (by simp)
theorem sample_next (p q : Tp) (pos : Int) (w : World) (h : Leg p q) (h0 : 0 ≤ p.k) (h1 : p.k ≤ q.k) (h2 : q.k ≤ 16777216) (h3 : 0 ≤ pos) (h4 : pos ≤ 1125899906842624) :
    Calls Try.prog 84 #[partV p q pos, .int .i64 q.k] w fun e w' => e = .returned (.int .i64 (pos + dur p q (q.k - p.k))) ∧ Below w.heap.size w w' := by
  cases hr : p.r
  · exact sample_flat p q pos q.k w h hr h0 h1 (by omega) h3 h4
  · exact sample_ramp p q pos q.k w h hr h0 h1 (by omega) h3 h4 (Int.le_refl _) (by omega)
theorem leg_all {m : List Tp} (hg : goodB m = true) {j : Nat} (hj : j < m.length) {p q : Tp} {pos : Int} (hp : tp m j = p) (hq : nx m j = q) (hpos : posAt m j = pos) :
    Leg p q ∧ 0 ≤ p.k ∧ p.k ≤ q.k ∧ q.k ≤ 16777216 ∧ 0 ≤ pos ∧ pos ≤ 1125899906842624 := by
  subst hp hq hpos
  have h := pos_bd hg j hj
  have k := (pt_at hg hj).1
  exact ⟨leg_at hg hj, k_nonneg hg hj, nx_ge hg hj, nx_le hg hj, h.1, by omega⟩
set_option maxRecDepth 100000 in
set_option maxHeartbeats 4000000 in
theorem parts1_in (n : Nat) (hn : 1 ≤ n) (l Bm n₀ : Nat) (m : List Tp) (nn : Nat) (hnn : m.length = nn) (hgood : goodB m = true) (a : Option Addr) (c : Nat) (X : Nat → Prop) (J Jx : List (Fin nn) → World → Prop)
    (hY : ∀ pre x W, J pre W → pre.length < 100 → YieldAt Fence.wide (n - 1) Try.prog l #[partV (tp m x.1) (nx m x.1) (posAt m x.1)] W fun e W' =>
      (e = .returned (.bool true) ∧ J (pre ++ [x]) W' ∧ Kx n₀ X W W') ∨ (e = .returned (.bool false) ∧ Jx (pre ++ [x]) W'))
    (W : World) (hn₀ : n₀ ≤ W.heap.size) (hJ : AbidesFrom W.heap.size J)
    (hm : W.cell? ⟨Bm, 0, none⟩ = some (.slice a nn c)) (hBm : ¬ X Bm) (hX : ∀ b, X b → b < W.heap.size) (hra : ∀ W', Below n₀ W W' → Rd W' a (m.flatMap Tp.c)) (h0 : J [] W) :
    CallsIn Fence.wide n Try.prog 104 #[.func (.yield l) #[] #[], .pointer (some ⟨Bm, 0, none⟩)] W fun e W' => (∃ v, e = .returned v) ∧
      ((∃ ys, ys = List.finRange nn ∧ J ys W') ∨ (∃ pre, (∃ j, j < nn ∧ pre = fto nn (j + 1)) ∧ Jx pre W')) := by
  have HG := hid ((good_iff m).1 hgood)
  obtain ⟨e, rfl⟩ : ∃ e, nn = e + 1 := ⟨nn - 1, by have := HG.out.1; omega⟩
  have HN := hid hnn; clear hnn
  have he64 : e < 64 := by have := HG.out.2.1; rw [HN.out] at this; omega
  refine callsIn_of_wp Try.func104 rfl trivial ?_ rfl
  simp only [Try.ntmps104, List.size_toArray, List.length_cons, List.length_nil, Nat.reduceAdd, Nat.reduceSub, Array.replicate_succ, Array.replicate_zero, List.push_toArray, List.append_toArray, List.nil_append, List.cons_append]
  gi_wp2
  gi_loopw [3, 9] (fun p i wr => ∃ j : Nat, j ≤ e + 1 ∧ i = .int .i64 j ∧ p = .int .i64 (posAt m j) ∧ J (fto (e + 1) j) wr ∧ Kx n₀ X W wr) (fun _ i _ => e + 1 - (intOf i).toNat)
  case atStart => exact ⟨0, by omega, rfl, rfl, h0, Kx.refl _ _ _⟩
  case round =>
    obtain ⟨j, hj, rfl, rfl, hJj, hK⟩ := hrel
    by_cases hlt : j < e + 1
    · have d1 : decide ((j : Int) < (e : Int) + 1) = true := decide_eq_true (by omega)
      have hsz := hK.size
      have hbm : wr.cell? ⟨Bm, 0, none⟩ = some (.slice a (e + 1) c) := hK.cell hBm hm
      have hrw := hra wr hK.below
      obtain ⟨b, off, rfl, hb⟩ := hrw.addr (by rw [flat_len Tp.c 4 Tp.c4, HN.out]; omega)
      have RQ := hid (after_rd hrw); clear hrw
      obtain ⟨p, hp⟩ : ∃ t, tp m j = t := ⟨_, rfl⟩
      obtain ⟨q, hq⟩ : ∃ t, nx m j = t := ⟨_, rfl⟩
      obtain ⟨pos, hpos⟩ : ∃ t, posAt m j = t := ⟨_, rfl⟩
      rw [hpos]
      have a0 : wr.cell? ⟨b, off + j * 4, none⟩ = some (.int .i64 p.k) := tp_cell RQ.out (j := j) (by rw [HN.out]; exact hlt) 0 (by decide) (by rw [hp]; rfl) rfl (After.here wr)
      have a1 : wr.cell? ⟨b, off + j * 4 + 1, none⟩ = some (.int .i64 p.n) := tp_cell RQ.out (j := j) (by rw [HN.out]; exact hlt) 1 (by decide) (by rw [hp]; rfl) (by omega) (After.here wr)
      have a2 : wr.cell? ⟨b, off + j * 4 + 2, none⟩ = some (.int .i64 p.d) := tp_cell RQ.out (j := j) (by rw [HN.out]; exact hlt) 2 (by decide) (by rw [hp]; rfl) (by omega) (After.here wr)
      have a3 : wr.cell? ⟨b, off + j * 4 + 3, none⟩ = some (.bool p.r) := tp_cell RQ.out (j := j) (by rw [HN.out]; exact hlt) 3 (by decide) (by rw [hp]; rfl) (by omega) (After.here wr)
      gi_wp2
      clear a0 a1 a2 a3
      refine wpIn_wide.2 ?_
      obtain ⟨V, hV⟩ : ∃ V, V = wr.alloc (.cells #[.int .i64 p.k, .int .i64 p.n, .int .i64 p.d, .bool p.r] 53) := ⟨_, rfl⟩
      have hBV : Below wr.heap.size wr V := by rw [hV]; exact b_alloc (Below.refl _ _) _
      have x0 : ∀ v : After V, v.w.cell? ⟨wr.heap.size, 0, none⟩ = some (.int .i64 p.k) := new_cell hV rfl rfl
      have x1 : ∀ v : After V, v.w.cell? ⟨wr.heap.size, 1, none⟩ = some (.int .i64 p.n) := new_cell hV rfl rfl
      have x2 : ∀ v : After V, v.w.cell? ⟨wr.heap.size, 2, none⟩ = some (.int .i64 p.d) := new_cell hV rfl rfl
      have x3 : ∀ v : After V, v.w.cell? ⟨wr.heap.size, 3, none⟩ = some (.bool p.r) := new_cell hV rfl rfl
      have bm0 : ∀ v : After V, v.w.cell? ⟨Bm, 0, none⟩ = some (.slice (some ⟨b, off, none⟩) (e + 1) c) := fun v => bb (b_then hBV v.2) (cell_lt hbm) hbm
      replace RQ := hid (fun v : After V => RQ.out (v.up hBV))
      rw [← hV]
      obtain ⟨u, hu⟩ : ∃ u : After V, u.w = V := ⟨After.here V, rfl⟩
      rw [← hu]
      clear hu
      have HV := hid hV; clear hV
      obtain ⟨k, hk⟩ : ∃ k, min (j + 1) (e) = k := ⟨_, rfl⟩
      have hkn : k < e + 1 := by omega
      have n0 : ∀ v : After V, v.w.cell? ⟨b, off + k * 4, none⟩ = some (.int .i64 q.k) := tp_cell RQ.out (j := k) (by rw [HN.out]; exact hkn) 0 (by decide) (by rw [← hq, nx, HN.out, Nat.add_sub_cancel, hk]; rfl) rfl
      have n1 : ∀ v : After V, v.w.cell? ⟨b, off + k * 4 + 1, none⟩ = some (.int .i64 q.n) := tp_cell RQ.out (j := k) (by rw [HN.out]; exact hkn) 1 (by decide) (by rw [← hq, nx, HN.out, Nat.add_sub_cancel, hk]; rfl) (by omega)
      have n2 : ∀ v : After V, v.w.cell? ⟨b, off + k * 4 + 2, none⟩ = some (.int .i64 q.d) := tp_cell RQ.out (j := k) (by rw [HN.out]; exact hkn) 2 (by decide) (by rw [← hq, nx, HN.out, Nat.add_sub_cancel, hk]; rfl) (by omega)
      have n3 : ∀ v : After V, v.w.cell? ⟨b, off + k * 4 + 3, none⟩ = some (.bool q.r) := tp_cell RQ.out (j := k) (by rw [HN.out]; exact hkn) 3 (by decide) (by rw [← hq, nx, HN.out, Nat.add_sub_cancel, hk]; rfl) (by omega)
      have HLEG := hid (leg_all hgood (j := j) (by rw [HN.out]; exact hlt) hp hq hpos)
      have HK0 := hid hk
      clear hk d1
      rcases Nat.lt_or_ge e (j + 1) with hl | hl
      · obtain rfl : e = j := by omega
        obtain rfl : k = e := by have := HK0.out; omega
        have hm1 : (k : Int) < (k : Int) + 1 := by omega
        have hw1 : IntKind.i64.wrap (k : Int) = k := IntWalk.i64_in _ (by omega)
        have hw2 : IntKind.i64.wrap ((k : Int) + 1) = (k : Int) + 1 := IntWalk.i64_in _ (by omega)
        clear hl
        refine whole_region 14 rfl (by kernel_rfl) ?_
        intro u0
        refine h_take 0 (x := ?_) rfl (by kernel_rfl) (by kernel_rfl) (by kernel_rfl) (fun _ _ _ h => h) (by rfl) (fun v => ?_) ?_
        rotate_left
        · (go_simp; try with_reducible rfl)
        try simp only [Act.put, List.setIfInBounds_toArray, List.set_cons_zero, List.set_cons_succ]
        refine h_take 1 (x := ?_) rfl (by kernel_rfl) (by kernel_rfl) (by kernel_rfl) (fun _ _ _ h => h) (by rfl) (fun v => ?_) ?_
        rotate_left
        · (go_simp; try with_reducible rfl)
        try simp only [Act.put, List.setIfInBounds_toArray, List.set_cons_zero, List.set_cons_succ]
        refine h_take 2 (x := ?_) rfl (by kernel_rfl) (by kernel_rfl) (by kernel_rfl) (fun _ _ _ h => h) (by rfl) (fun v => ?_) ?_
        rotate_left
        · (go_simp; try with_reducible rfl)
        try simp only [Act.put, List.setIfInBounds_toArray, List.set_cons_zero, List.set_cons_succ]
        refine h_take 3 (x := ?_) rfl (by kernel_rfl) (by kernel_rfl) (by kernel_rfl) (fun _ _ _ h => h) (by rfl) (fun v => ?_) ?_
        rotate_left
        · (go_simp; try with_reducible rfl)
        try simp only [Act.put, List.setIfInBounds_toArray, List.set_cons_zero, List.set_cons_succ]
        refine h_take 4 (x := ?_) rfl (by kernel_rfl) (by kernel_rfl) (by kernel_rfl) (fun _ _ _ h => h) (by rfl) (fun v => ?_) ?_
        rotate_left
        · (go_simp; try with_reducible rfl)
        try simp only [Act.put, List.setIfInBounds_toArray, List.set_cons_zero, List.set_cons_succ]
        refine h_take 5 (x := ?_) rfl (by kernel_rfl) (by kernel_rfl) (by kernel_rfl) (fun _ _ _ h => h) (by rfl) (fun v => ?_) ?_
        rotate_left
        · (go_simp; try with_reducible rfl)
        try simp only [Act.put, List.setIfInBounds_toArray, List.set_cons_zero, List.set_cons_succ]
        refine h_take 6 (x := ?_) rfl (by kernel_rfl) (by kernel_rfl) (by kernel_rfl) (fun _ _ _ h => h) (by rfl) (fun v => ?_) ?_
        rotate_left
        · (go_simp; try with_reducible rfl)
        try simp only [Act.put, List.setIfInBounds_toArray, List.set_cons_zero, List.set_cons_succ]
        refine h_take 7 (x := ?_) rfl (by kernel_rfl) (by kernel_rfl) (by kernel_rfl) (fun _ _ _ h => h) (by rfl) (fun v => ?_) ?_
        rotate_left
        · (go_simp; try with_reducible rfl)
        try simp only [Act.put, List.setIfInBounds_toArray, List.set_cons_zero, List.set_cons_succ]
        refine h_take 8 (x := ?_) rfl (by kernel_rfl) (by kernel_rfl) (by kernel_rfl) (fun _ _ _ h => h) (by rfl) (fun v => ?_) ?_
        rotate_left
        · (go_simp; try with_reducible rfl)
        try simp only [Act.put, List.setIfInBounds_toArray, List.set_cons_zero, List.set_cons_succ]
        refine h_take 9 (x := ?_) rfl (by kernel_rfl) (by kernel_rfl) (by kernel_rfl) (fun _ _ _ h => h) (by rfl) (fun v => ?_) ?_
        rotate_left
        · (go_simp; try with_reducible rfl)
        try simp only [Act.put, List.setIfInBounds_toArray, List.set_cons_zero, List.set_cons_succ]
        refine h_take 10 (x := ?_) rfl (by kernel_rfl) (by kernel_rfl) (by kernel_rfl) (fun _ _ _ h => h) (by rfl) (fun v => ?_) ?_
        rotate_left
        · (go_simp; try with_reducible rfl)
        try simp only [Act.put, List.setIfInBounds_toArray, List.set_cons_zero, List.set_cons_succ]
        refine h_take 11 (x := ?_) rfl (by kernel_rfl) (by kernel_rfl) (by kernel_rfl) (fun _ _ _ h => h) (by rfl) (fun v => ?_) ?_
        rotate_left
        · (go_simp; try with_reducible rfl)
        try simp only [Act.put, List.setIfInBounds_toArray, List.set_cons_zero, List.set_cons_succ]
        refine h_step 12 (by kernel_rfl) rfl (fun K hK => ?_)
        go_simp
        obtain ⟨va, hva⟩ : ∃ y : After V, y.w = u0.w.alloc (.cells #[.int .i64 0, .int .i64 0, .int .i64 0, .bool false, .int .i64 0, .int .i64 0, .int .i64 0, .bool false, .int .i64 0] 104) := ⟨u0.on (b_alloc (Below.refl _ _) _), rfl⟩
        rw [← hva]
        have hZ1 := hid hva
        clear hva
        have hq : ∀ i u, ([.int .i64 0, .int .i64 0, .int .i64 0, .bool false, .int .i64 0, .int .i64 0, .int .i64 0, .bool false, .int .i64 0] : List Value)[i]? = some u → va.w.cell? ⟨u0.w.heap.size, i, none⟩ = some u := fun i u hu => by rw [hZ1.out]; exact bn rfl (by simpa using hu)
        have q0 := hq 0 _ rfl
        have q1 := hq 1 _ rfl
        have q2 := hq 2 _ rfl
        have q3 := hq 3 _ rfl
        have q4 := hq 4 _ rfl
        have q5 := hq 5 _ rfl
        have q6 := hq 6 _ rfl
        have q7 := hq 7 _ rfl
        have q8 := hq 8 _ rfl
        clear hq
        have f0 : va.w.frozen? ⟨u0.w.heap.size, 0, none⟩ = false := by rw [hZ1.out]; exact fn rfl
        have f1 : va.w.frozen? ⟨u0.w.heap.size, 1, none⟩ = false := by rw [hZ1.out]; exact fn rfl
        have f2 : va.w.frozen? ⟨u0.w.heap.size, 2, none⟩ = false := by rw [hZ1.out]; exact fn rfl
        have f3 : va.w.frozen? ⟨u0.w.heap.size, 3, none⟩ = false := by rw [hZ1.out]; exact fn rfl
        have f4 : va.w.frozen? ⟨u0.w.heap.size, 4, none⟩ = false := by rw [hZ1.out]; exact fn rfl
        have f5 : va.w.frozen? ⟨u0.w.heap.size, 5, none⟩ = false := by rw [hZ1.out]; exact fn rfl
        have f6 : va.w.frozen? ⟨u0.w.heap.size, 6, none⟩ = false := by rw [hZ1.out]; exact fn rfl
        have f7 : va.w.frozen? ⟨u0.w.heap.size, 7, none⟩ = false := by rw [hZ1.out]; exact fn rfl
        have f8 : va.w.frozen? ⟨u0.w.heap.size, 8, none⟩ = false := by rw [hZ1.out]; exact fn rfl
        refine hK _ va ?_
        clear hK K
        try simp only [Act.put, List.setIfInBounds_toArray, List.set_cons_zero, List.set_cons_succ]
        refine h_step 13 (by kernel_rfl) rfl (fun K hK => ?_)
        go_simp
        generalize hZ : World.setCell _ _ _ = Z
        have y0 : Z.cell? ⟨u0.w.heap.size, 0, none⟩ = some (.int .i64 p.k) := by rw [← hZ]; exact (st_off _ (.inl (by decide)) (st_off _ (.inl (by decide)) (st_off _ (.inl (by decide)) (st_off _ (.inl (by decide)) (st_off _ (.inl (by decide)) (st_off _ (.inl (by decide)) (st_off _ (.inl (by decide)) (st_off _ (.inl (by decide)) (st_hit _ q0)))))))))
        have y1 : Z.cell? ⟨u0.w.heap.size, 1, none⟩ = some (.int .i64 p.n) := by rw [← hZ]; exact (st_off _ (.inl (by decide)) (st_off _ (.inl (by decide)) (st_off _ (.inl (by decide)) (st_off _ (.inl (by decide)) (st_off _ (.inl (by decide)) (st_off _ (.inl (by decide)) (st_off _ (.inl (by decide)) (st_hit _ (st_off _ (.inl (by decide)) q1)))))))))
        have y2 : Z.cell? ⟨u0.w.heap.size, 2, none⟩ = some (.int .i64 p.d) := by rw [← hZ]; exact (st_off _ (.inl (by decide)) (st_off _ (.inl (by decide)) (st_off _ (.inl (by decide)) (st_off _ (.inl (by decide)) (st_off _ (.inl (by decide)) (st_off _ (.inl (by decide)) (st_hit _ (st_off _ (.inl (by decide)) (st_off _ (.inl (by decide)) q2)))))))))
        have y3 : Z.cell? ⟨u0.w.heap.size, 3, none⟩ = some (.bool p.r) := by rw [← hZ]; exact (st_off _ (.inl (by decide)) (st_off _ (.inl (by decide)) (st_off _ (.inl (by decide)) (st_off _ (.inl (by decide)) (st_off _ (.inl (by decide)) (st_hit _ (st_off _ (.inl (by decide)) (st_off _ (.inl (by decide)) (st_off _ (.inl (by decide)) q3)))))))))
        have y4 : Z.cell? ⟨u0.w.heap.size, 4, none⟩ = some (.int .i64 q.k) := by rw [← hZ]; exact (st_off _ (.inl (by decide)) (st_off _ (.inl (by decide)) (st_off _ (.inl (by decide)) (st_off _ (.inl (by decide)) (st_hit _ (st_off _ (.inl (by decide)) (st_off _ (.inl (by decide)) (st_off _ (.inl (by decide)) (st_off _ (.inl (by decide)) q4)))))))))
        have y5 : Z.cell? ⟨u0.w.heap.size, 5, none⟩ = some (.int .i64 q.n) := by rw [← hZ]; exact (st_off _ (.inl (by decide)) (st_off _ (.inl (by decide)) (st_off _ (.inl (by decide)) (st_hit _ (st_off _ (.inl (by decide)) (st_off _ (.inl (by decide)) (st_off _ (.inl (by decide)) (st_off _ (.inl (by decide)) (st_off _ (.inl (by decide)) q5)))))))))
        have y6 : Z.cell? ⟨u0.w.heap.size, 6, none⟩ = some (.int .i64 q.d) := by rw [← hZ]; exact (st_off _ (.inl (by decide)) (st_off _ (.inl (by decide)) (st_hit _ (st_off _ (.inl (by decide)) (st_off _ (.inl (by decide)) (st_off _ (.inl (by decide)) (st_off _ (.inl (by decide)) (st_off _ (.inl (by decide)) (st_off _ (.inl (by decide)) q6)))))))))
        have y7 : Z.cell? ⟨u0.w.heap.size, 7, none⟩ = some (.bool q.r) := by rw [← hZ]; exact (st_off _ (.inl (by decide)) (st_hit _ (st_off _ (.inl (by decide)) (st_off _ (.inl (by decide)) (st_off _ (.inl (by decide)) (st_off _ (.inl (by decide)) (st_off _ (.inl (by decide)) (st_off _ (.inl (by decide)) (st_off _ (.inl (by decide)) q7)))))))))
        have y8 : Z.cell? ⟨u0.w.heap.size, 8, none⟩ = some (.int .i64 pos) := by rw [← hZ]; exact (st_hit _ (st_off _ (.inl (by decide)) (st_off _ (.inl (by decide)) (st_off _ (.inl (by decide)) (st_off _ (.inl (by decide)) (st_off _ (.inl (by decide)) (st_off _ (.inl (by decide)) (st_off _ (.inl (by decide)) (st_off _ (.inl (by decide)) q8)))))))))
        have hB0 : V.heap.size ≤ u0.w.heap.size := u0.2.size
        obtain ⟨z, rfl⟩ : ∃ z : After V, Z = z.w := ⟨After.to (by rw [← hZ]; exact (b_set (b_set (b_set (b_set (b_set (b_set (b_set (b_set (b_set va.w_below hB0 _) hB0 _) hB0 _) hB0 _) hB0 _) hB0 _) hB0 _) hB0 _) hB0 _)), rfl⟩
        clear hZ q0 f0 q1 f1 q2 f2 q3 f3 q4 f4 q5 f5 q6 f6 q7 f7 q8 f8
        refine hK _ z ?_
        clear hK K
        try simp only [Act.put, List.setIfInBounds_toArray, List.set_cons_zero, List.set_cons_succ]
        refine wpAnyH_done (by kernel_rfl) ?_ _
        refine NoPanic.normal ?_
        have hnX : ¬ X u0.w.heap.size := fun h => by have := hX _ h; have := hBV.size; omega
        have HBz := hid (b_then hBV z.2)
        have HJz := hid (hJ _ wr _ none hJj (below_grown HBz.out) (fun r e => by cases e))
        have HKz := hid (hK.trans (Kx.of HBz.out (by omega)))
        have HY := hid hY; clear hY
        obtain ⟨fn, tmps, assign, body, hy, hR⟩ := HY.out _ ⟨k, by omega⟩ z.w HJz.out (Nat.lt_of_le_of_lt (fto_len _ _) (by omega))
        dsimp only at hy
        rw [hp, hq, hpos] at hy
        unfold partV at hy
        gi_wp2
        refine hR.mono ?_
        rintro e3 W3 (⟨rfl, hJ3, hk3⟩ | ⟨rfl, hJx3⟩)
        · have hsz3 := hk3.size
          have hzs : V.heap.size ≤ z.w.heap.size := z.2.size
          have hVs := hBV.size
          have w0 := hk3.cell hnX y0
          have w1 := hk3.cell hnX y1
          have w2 := hk3.cell hnX y2
          have w3 := hk3.cell hnX y3
          have w4 := hk3.cell hnX y4
          have w5 := hk3.cell hnX y5
          have w6 := hk3.cell hnX y6
          have w7 := hk3.cell hnX y7
          have w8 := hk3.cell hnX y8
          gi_wp2_with fail
          refine ⟨trivial, ?_⟩
          refine (callsIn_wide.2 (sample_next p q pos _ HLEG.out.1 HLEG.out.2.1 HLEG.out.2.2.1 HLEG.out.2.2.2.1 HLEG.out.2.2.2.2.1 HLEG.out.2.2.2.2.2)).mono ?_
          rintro e4 w4 ⟨rfl, hB4⟩
          have hJ4 := hid (hJ _ W3 w4 none hJ3 (below_grown hB4) (fun r e => by cases e))
          have hK4 := hid ((HKz.out.trans hk3).trans (Kx.of hB4 (by omega)))
          gi_wp2_with fail
          go_roundw
          case rel => exact ⟨k + 1, by omega, by go_num, by rw [posAt, hp, hq, hpos], by rw [fto_next (by omega)]; exact hJ4.out, hK4.out⟩
          case measure => first | (simp [intOf]; done) | (simp [intOf]; omega)
        · gi_wp2
          refine bodyPost_ret (results_none rfl _ _ _) rfl ?_
          exact ⟨⟨_, rfl⟩, .inr ⟨_, ⟨k, by omega, by rw [fto_next (by omega)]⟩, hJx3⟩⟩

      · have hm1 : ¬ (e : Int) < (j : Int) + 1 := by omega
        obtain rfl : k = j + 1 := by have := HK0.out; omega
        have hk0 : (0 : Int) ≤ (j : Int) + 1 := by omega
        have hk1 : (j : Int) + 1 < (e : Int) + 1 := by omega
        have hk2 : ((j : Int) + 1).toNat = j + 1 := rfl
        have hk3 : j < e := by omega
        have hw1 : IntKind.i64.wrap (e : Int) = e := IntWalk.i64_in _ (by omega)
        have hw2 : IntKind.i64.wrap ((j : Int) + 1) = (j : Int) + 1 := IntWalk.i64_in _ (by omega)
        clear hl
        refine whole_region 14 rfl (by kernel_rfl) ?_
        intro u0
        refine h_take 0 (x := ?_) rfl (by kernel_rfl) (by kernel_rfl) (by kernel_rfl) (fun _ _ _ h => h) (by rfl) (fun v => ?_) ?_
        rotate_left
        · (go_simp; try with_reducible rfl)
        try simp only [Act.put, List.setIfInBounds_toArray, List.set_cons_zero, List.set_cons_succ]
        refine h_take 1 (x := ?_) rfl (by kernel_rfl) (by kernel_rfl) (by kernel_rfl) (fun _ _ _ h => h) (by rfl) (fun v => ?_) ?_
        rotate_left
        · (go_simp; try with_reducible rfl)
        try simp only [Act.put, List.setIfInBounds_toArray, List.set_cons_zero, List.set_cons_succ]
        refine h_take 2 (x := ?_) rfl (by kernel_rfl) (by kernel_rfl) (by kernel_rfl) (fun _ _ _ h => h) (by rfl) (fun v => ?_) ?_
        rotate_left
        · (go_simp; try with_reducible rfl)
        try simp only [Act.put, List.setIfInBounds_toArray, List.set_cons_zero, List.set_cons_succ]
        refine h_take 3 (x := ?_) rfl (by kernel_rfl) (by kernel_rfl) (by kernel_rfl) (fun _ _ _ h => h) (by rfl) (fun v => ?_) ?_
        rotate_left
        · (go_simp; try with_reducible rfl)
        try simp only [Act.put, List.setIfInBounds_toArray, List.set_cons_zero, List.set_cons_succ]
        refine h_take 4 (x := ?_) rfl (by kernel_rfl) (by kernel_rfl) (by kernel_rfl) (fun _ _ _ h => h) (by rfl) (fun v => ?_) ?_
        rotate_left
        · (go_simp; try with_reducible rfl)
        try simp only [Act.put, List.setIfInBounds_toArray, List.set_cons_zero, List.set_cons_succ]
        refine h_take 5 (x := ?_) rfl (by kernel_rfl) (by kernel_rfl) (by kernel_rfl) (fun _ _ _ h => h) (by rfl) (fun v => ?_) ?_
        rotate_left
        · (go_simp; try with_reducible rfl)
        try simp only [Act.put, List.setIfInBounds_toArray, List.set_cons_zero, List.set_cons_succ]
        refine h_take 6 (x := ?_) rfl (by kernel_rfl) (by kernel_rfl) (by kernel_rfl) (fun _ _ _ h => h) (by rfl) (fun v => ?_) ?_
        rotate_left
        · (go_simp; try with_reducible rfl)
        try simp only [Act.put, List.setIfInBounds_toArray, List.set_cons_zero, List.set_cons_succ]
        refine h_take 7 (x := ?_) rfl (by kernel_rfl) (by kernel_rfl) (by kernel_rfl) (fun _ _ _ h => h) (by rfl) (fun v => ?_) ?_
        rotate_left
        · (go_simp; try with_reducible rfl)
        try simp only [Act.put, List.setIfInBounds_toArray, List.set_cons_zero, List.set_cons_succ]
        refine h_take 8 (x := ?_) rfl (by kernel_rfl) (by kernel_rfl) (by kernel_rfl) (fun _ _ _ h => h) (by rfl) (fun v => ?_) ?_
        rotate_left
        · (go_simp; try with_reducible rfl)
        try simp only [Act.put, List.setIfInBounds_toArray, List.set_cons_zero, List.set_cons_succ]
        refine h_take 9 (x := ?_) rfl (by kernel_rfl) (by kernel_rfl) (by kernel_rfl) (fun _ _ _ h => h) (by rfl) (fun v => ?_) ?_
        rotate_left
        · (go_simp; try with_reducible rfl)
        try simp only [Act.put, List.setIfInBounds_toArray, List.set_cons_zero, List.set_cons_succ]
        refine h_take 10 (x := ?_) rfl (by kernel_rfl) (by kernel_rfl) (by kernel_rfl) (fun _ _ _ h => h) (by rfl) (fun v => ?_) ?_
        rotate_left
        · (go_simp; try with_reducible rfl)
        try simp only [Act.put, List.setIfInBounds_toArray, List.set_cons_zero, List.set_cons_succ]
        refine h_take 11 (x := ?_) rfl (by kernel_rfl) (by kernel_rfl) (by kernel_rfl) (fun _ _ _ h => h) (by rfl) (fun v => ?_) ?_
        rotate_left
        · (go_simp; try with_reducible rfl)
        try simp only [Act.put, List.setIfInBounds_toArray, List.set_cons_zero, List.set_cons_succ]
        refine h_step 12 (by kernel_rfl) rfl (fun K hK => ?_)
        go_simp
        obtain ⟨va, hva⟩ : ∃ y : After V, y.w = u0.w.alloc (.cells #[.int .i64 0, .int .i64 0, .int .i64 0, .bool false, .int .i64 0, .int .i64 0, .int .i64 0, .bool false, .int .i64 0] 104) := ⟨u0.on (b_alloc (Below.refl _ _) _), rfl⟩
        rw [← hva]
        have hZ1 := hid hva
        clear hva
        have hq : ∀ i u, ([.int .i64 0, .int .i64 0, .int .i64 0, .bool false, .int .i64 0, .int .i64 0, .int .i64 0, .bool false, .int .i64 0] : List Value)[i]? = some u → va.w.cell? ⟨u0.w.heap.size, i, none⟩ = some u := fun i u hu => by rw [hZ1.out]; exact bn rfl (by simpa using hu)
        have q0 := hq 0 _ rfl
        have q1 := hq 1 _ rfl
        have q2 := hq 2 _ rfl
        have q3 := hq 3 _ rfl
        have q4 := hq 4 _ rfl
        have q5 := hq 5 _ rfl
        have q6 := hq 6 _ rfl
        have q7 := hq 7 _ rfl
        have q8 := hq 8 _ rfl
        clear hq
        have f0 : va.w.frozen? ⟨u0.w.heap.size, 0, none⟩ = false := by rw [hZ1.out]; exact fn rfl
        have f1 : va.w.frozen? ⟨u0.w.heap.size, 1, none⟩ = false := by rw [hZ1.out]; exact fn rfl
        have f2 : va.w.frozen? ⟨u0.w.heap.size, 2, none⟩ = false := by rw [hZ1.out]; exact fn rfl
        have f3 : va.w.frozen? ⟨u0.w.heap.size, 3, none⟩ = false := by rw [hZ1.out]; exact fn rfl
        have f4 : va.w.frozen? ⟨u0.w.heap.size, 4, none⟩ = false := by rw [hZ1.out]; exact fn rfl
        have f5 : va.w.frozen? ⟨u0.w.heap.size, 5, none⟩ = false := by rw [hZ1.out]; exact fn rfl
        have f6 : va.w.frozen? ⟨u0.w.heap.size, 6, none⟩ = false := by rw [hZ1.out]; exact fn rfl
        have f7 : va.w.frozen? ⟨u0.w.heap.size, 7, none⟩ = false := by rw [hZ1.out]; exact fn rfl
        have f8 : va.w.frozen? ⟨u0.w.heap.size, 8, none⟩ = false := by rw [hZ1.out]; exact fn rfl
        refine hK _ va ?_
        clear hK K
        try simp only [Act.put, List.setIfInBounds_toArray, List.set_cons_zero, List.set_cons_succ]
        refine h_step 13 (by kernel_rfl) rfl (fun K hK => ?_)
        go_simp
        generalize hZ : World.setCell _ _ _ = Z
        have y0 : Z.cell? ⟨u0.w.heap.size, 0, none⟩ = some (.int .i64 p.k) := by rw [← hZ]; exact (st_off _ (.inl (by decide)) (st_off _ (.inl (by decide)) (st_off _ (.inl (by decide)) (st_off _ (.inl (by decide)) (st_off _ (.inl (by decide)) (st_off _ (.inl (by decide)) (st_off _ (.inl (by decide)) (st_off _ (.inl (by decide)) (st_hit _ q0)))))))))
        have y1 : Z.cell? ⟨u0.w.heap.size, 1, none⟩ = some (.int .i64 p.n) := by rw [← hZ]; exact (st_off _ (.inl (by decide)) (st_off _ (.inl (by decide)) (st_off _ (.inl (by decide)) (st_off _ (.inl (by decide)) (st_off _ (.inl (by decide)) (st_off _ (.inl (by decide)) (st_off _ (.inl (by decide)) (st_hit _ (st_off _ (.inl (by decide)) q1)))))))))
        have y2 : Z.cell? ⟨u0.w.heap.size, 2, none⟩ = some (.int .i64 p.d) := by rw [← hZ]; exact (st_off _ (.inl (by decide)) (st_off _ (.inl (by decide)) (st_off _ (.inl (by decide)) (st_off _ (.inl (by decide)) (st_off _ (.inl (by decide)) (st_off _ (.inl (by decide)) (st_hit _ (st_off _ (.inl (by decide)) (st_off _ (.inl (by decide)) q2)))))))))
        have y3 : Z.cell? ⟨u0.w.heap.size, 3, none⟩ = some (.bool p.r) := by rw [← hZ]; exact (st_off _ (.inl (by decide)) (st_off _ (.inl (by decide)) (st_off _ (.inl (by decide)) (st_off _ (.inl (by decide)) (st_off _ (.inl (by decide)) (st_hit _ (st_off _ (.inl (by decide)) (st_off _ (.inl (by decide)) (st_off _ (.inl (by decide)) q3)))))))))
        have y4 : Z.cell? ⟨u0.w.heap.size, 4, none⟩ = some (.int .i64 q.k) := by rw [← hZ]; exact (st_off _ (.inl (by decide)) (st_off _ (.inl (by decide)) (st_off _ (.inl (by decide)) (st_off _ (.inl (by decide)) (st_hit _ (st_off _ (.inl (by decide)) (st_off _ (.inl (by decide)) (st_off _ (.inl (by decide)) (st_off _ (.inl (by decide)) q4)))))))))
        have y5 : Z.cell? ⟨u0.w.heap.size, 5, none⟩ = some (.int .i64 q.n) := by rw [← hZ]; exact (st_off _ (.inl (by decide)) (st_off _ (.inl (by decide)) (st_off _ (.inl (by decide)) (st_hit _ (st_off _ (.inl (by decide)) (st_off _ (.inl (by decide)) (st_off _ (.inl (by decide)) (st_off _ (.inl (by decide)) (st_off _ (.inl (by decide)) q5)))))))))
        have y6 : Z.cell? ⟨u0.w.heap.size, 6, none⟩ = some (.int .i64 q.d) := by rw [← hZ]; exact (st_off _ (.inl (by decide)) (st_off _ (.inl (by decide)) (st_hit _ (st_off _ (.inl (by decide)) (st_off _ (.inl (by decide)) (st_off _ (.inl (by decide)) (st_off _ (.inl (by decide)) (st_off _ (.inl (by decide)) (st_off _ (.inl (by decide)) q6)))))))))
        have y7 : Z.cell? ⟨u0.w.heap.size, 7, none⟩ = some (.bool q.r) := by rw [← hZ]; exact (st_off _ (.inl (by decide)) (st_hit _ (st_off _ (.inl (by decide)) (st_off _ (.inl (by decide)) (st_off _ (.inl (by decide)) (st_off _ (.inl (by decide)) (st_off _ (.inl (by decide)) (st_off _ (.inl (by decide)) (st_off _ (.inl (by decide)) q7)))))))))
        have y8 : Z.cell? ⟨u0.w.heap.size, 8, none⟩ = some (.int .i64 pos) := by rw [← hZ]; exact (st_hit _ (st_off _ (.inl (by decide)) (st_off _ (.inl (by decide)) (st_off _ (.inl (by decide)) (st_off _ (.inl (by decide)) (st_off _ (.inl (by decide)) (st_off _ (.inl (by decide)) (st_off _ (.inl (by decide)) (st_off _ (.inl (by decide)) q8)))))))))
        have hB0 : V.heap.size ≤ u0.w.heap.size := u0.2.size
        obtain ⟨z, rfl⟩ : ∃ z : After V, Z = z.w := ⟨After.to (by rw [← hZ]; exact (b_set (b_set (b_set (b_set (b_set (b_set (b_set (b_set (b_set va.w_below hB0 _) hB0 _) hB0 _) hB0 _) hB0 _) hB0 _) hB0 _) hB0 _) hB0 _)), rfl⟩
        clear hZ q0 f0 q1 f1 q2 f2 q3 f3 q4 f4 q5 f5 q6 f6 q7 f7 q8 f8
        refine hK _ z ?_
        clear hK K
        try simp only [Act.put, List.setIfInBounds_toArray, List.set_cons_zero, List.set_cons_succ]
        refine wpAnyH_done (by kernel_rfl) ?_ _
        refine NoPanic.normal ?_
        have hnX : ¬ X u0.w.heap.size := fun h => by have := hX _ h; have := hBV.size; omega
        have HBz := hid (b_then hBV z.2)
        have HJz := hid (hJ _ wr _ none hJj (below_grown HBz.out) (fun r e => by cases e))
        have HKz := hid (hK.trans (Kx.of HBz.out (by omega)))
        have HY := hid hY; clear hY
        obtain ⟨fn, tmps, assign, body, hy, hR⟩ := HY.out _ ⟨j, by omega⟩ z.w HJz.out (Nat.lt_of_le_of_lt (fto_len _ _) (by omega))
        dsimp only at hy
        rw [hp, hq, hpos] at hy
        unfold partV at hy
        gi_wp2
        refine hR.mono ?_
        rintro e3 W3 (⟨rfl, hJ3, hk3⟩ | ⟨rfl, hJx3⟩)
        · have hsz3 := hk3.size
          have hzs : V.heap.size ≤ z.w.heap.size := z.2.size
          have hVs := hBV.size
          have w0 := hk3.cell hnX y0
          have w1 := hk3.cell hnX y1
          have w2 := hk3.cell hnX y2
          have w3 := hk3.cell hnX y3
          have w4 := hk3.cell hnX y4
          have w5 := hk3.cell hnX y5
          have w6 := hk3.cell hnX y6
          have w7 := hk3.cell hnX y7
          have w8 := hk3.cell hnX y8
          gi_wp2_with fail
          refine ⟨trivial, ?_⟩
          refine (callsIn_wide.2 (sample_next p q pos _ HLEG.out.1 HLEG.out.2.1 HLEG.out.2.2.1 HLEG.out.2.2.2.1 HLEG.out.2.2.2.2.1 HLEG.out.2.2.2.2.2)).mono ?_
          rintro e4 w4 ⟨rfl, hB4⟩
          have hJ4 := hid (hJ _ W3 w4 none hJ3 (below_grown hB4) (fun r e => by cases e))
          have hK4 := hid ((HKz.out.trans hk3).trans (Kx.of hB4 (by omega)))
          gi_wp2_with fail
          go_roundw
          case rel => exact ⟨j + 1, by omega, by go_num, by rw [posAt, hp, hq, hpos], by rw [fto_next (by omega)]; exact hJ4.out, hK4.out⟩
          case measure => first | (simp [intOf]; done) | (simp [intOf]; omega)
        · gi_wp2
          refine bodyPost_ret (results_none rfl _ _ _) rfl ?_
          exact ⟨⟨_, rfl⟩, .inr ⟨_, ⟨j, by omega, by rw [fto_next (by omega)]⟩, hJx3⟩⟩

    · have d1 : decide ((j : Int) < (e : Int) + 1) = false := decide_eq_false (by omega)
      obtain rfl : j = e + 1 := by omega
      gi_wp2
      go_end0
      exact ⟨⟨_, rfl⟩, .inl ⟨_, fto_all _, hJj⟩⟩
end Go.Proofs.Ytbppajenihjfhaa
