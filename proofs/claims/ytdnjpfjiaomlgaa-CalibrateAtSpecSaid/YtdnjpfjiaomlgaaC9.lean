/- Backward, find. -/
import Derived.Test.YtdnjpfjiaomlgaaG0
import Derived.Test.YtdnjpfjiaomlgaaC1
import Derived.Test.YtdnjpfjiaomlgaaBV
namespace Go.Proofs.Ytdnjpfjiaomlgaa
open Go.RowKit Go.Shelf
open Go.Lib (hid)

attribute [local go_sem] Oper.semAt_some
/-- The records from j on, from the last. -/
def fdn (nn j : Nat) : List (Fin nn) := ((List.finRange nn).drop j).reverse
theorem fdn_next {nn j : Nat} (h : j < nn) : fdn nn j = fdn nn (j + 1) ++ [⟨j, h⟩] := by
  unfold fdn
  rw [List.drop_eq_getElem_cons (by simpa using h), List.reverse_cons]
  simp
theorem fdn_all (nn : Nat) : fdn nn 0 = (List.finRange nn).reverse := rfl
theorem fdn_none (nn : Nat) : fdn nn nn = [] := by
  unfold fdn
  rw [List.drop_of_length_le (by simp)]
  rfl
theorem fdn_len (nn j : Nat) : (fdn nn j).length ≤ nn := by
  unfold fdn
  rw [List.length_reverse, List.length_drop, List.length_finRange]
  omega
theorem fdn_mem {nn j : Nat} (hj : j ≤ nn) (x : Fin nn) : x ∈ fdn nn j ↔ j ≤ x.1 := by
  obtain ⟨d, hd⟩ : ∃ d, d = nn - j := ⟨_, rfl⟩
  induction d generalizing j with
  | zero =>
    have : j = nn := by omega
    subst this
    rw [fdn_none]
    have := x.2
    constructor
    · intro h; cases h
    · intro h; omega
  | succ d ih =>
    rw [fdn_next (by omega), List.mem_append, List.mem_singleton, ih (by omega) (by omega)]
    constructor
    · rintro (h | h)
      · omega
      · rw [h]; exact Nat.le_refl _
    · intro h
      by_cases he : x.1 = j
      · exact .inr (Fin.ext he)
      · exact .inl (by omega)
set_option maxRecDepth 100000 in
set_option maxHeartbeats 4000000 in
theorem back1_in (n : Nat) (hn : 1 ≤ n) (lp Bm n₀ : Nat) (l : List Rc) (nn : Nat) (hnn : l.length = nn) (h10 : nn ≤ 256) (a : Option Addr) (c : Nat) (X : Nat → Prop) (J Jx : List (Fin nn) → World → Prop)
    (hY : ∀ pre x W, J pre W → pre.length < 300 → YieldAt Fence.wide (n - 1) Try.prog lp #[.int .i64 x.1, .agg #[.int .i64 (rc l x.1).d, .int .i64 (rc l x.1).f, .int .i64 (rc l x.1).k, .int .i64 (rc l x.1).i, .int .i64 (rc l x.1).o]] W fun e W' =>
      (e = .returned (.bool true) ∧ J (pre ++ [x]) W' ∧ Kx n₀ X W W') ∨ (e = .returned (.bool false) ∧ Jx (pre ++ [x]) W'))
    (W : World) (_hn₀ : n₀ ≤ W.heap.size) (_hJ : AbidesFrom W.heap.size J)
    (hm : W.cell? ⟨Bm, 0, none⟩ = some (.slice a nn c)) (hBm : ¬ X Bm) (_hX : ∀ b, X b → b < W.heap.size) (hra : ∀ W', Below n₀ W W' → Rd W' a (l.flatMap Rc.cs)) (h0 : J [] W) :
    CallsIn Fence.wide n Try.prog 42 #[.func (.yield lp) #[] #[], .pointer (some ⟨Bm, 0, none⟩)] W fun e W' => (∃ v, e = .returned v) ∧
      ((∃ ys, ys = fdn nn 0 ∧ J ys W') ∨ (∃ pre, (∃ j, j < nn ∧ pre = fdn nn j) ∧ Jx pre W')) := by
  have HN := hid hnn; clear hnn
  refine callsIn_of_wp Try.func42 rfl trivial ?_ rfl
  simp only [Try.ntmps42, List.size_toArray, List.length_cons, List.length_nil, Nat.reduceAdd, Nat.reduceSub, Array.replicate_succ, Array.replicate_zero, List.push_toArray, List.append_toArray, List.nil_append, List.cons_append]
  gi_wp2
  gi_loopw [3] (fun i wr => ∃ j : Nat, j ≤ nn ∧ i = .int .i64 ((j : Int) - 1) ∧ J (fdn nn j) wr ∧ Kx n₀ X W wr) (fun i _ => (intOf i + 1).toNat)
  case atStart => exact ⟨nn, Nat.le_refl _, rfl, by rw [fdn_none]; exact h0, Kx.refl _ _ _⟩
  case round =>
    obtain ⟨j, hj, rfl, hJj, hK⟩ := hrel
    rcases Nat.eq_zero_or_pos j with rfl | hpos
    · rw [show ((0 : Nat) : Int) - 1 = -1 from rfl]
      gi_wp2
      go_end0
      exact ⟨⟨_, rfl⟩, .inl ⟨_, rfl, hJj⟩⟩
    obtain ⟨j, rfl⟩ : ∃ i, j = i + 1 := ⟨j - 1, by omega⟩
    rw [show ((j + 1 : Nat) : Int) - 1 = (j : Int) by omega]
    have hlt : j < nn := by omega
    have hjj : (j : Int) < (nn : Int) := by omega
    have hj0 : (0 : Int) ≤ (j : Int) := by omega
    have hsz := hK.size
    have hbm : wr.cell? ⟨Bm, 0, none⟩ = some (.slice a nn c) := hK.cell hBm hm
    have hrw := hra wr hK.below
    obtain ⟨b, off, rfl, hb⟩ := hrw.addr (by rw [flat_len Rc.cs 5 Rc.c5, HN.out]; omega)
    have RQ := hid (after_rd hrw); clear hrw
    obtain ⟨⟨xd, xf, xk, xi, xo⟩, hx⟩ : ∃ t, rc l j = t := ⟨_, rfl⟩
    have x0 : wr.cell? ⟨b, off + j * 5, none⟩ = some (.int .i64 xd) := rc_cell RQ.out (j := j) (by rw [HN.out]; exact hlt) 0 (by decide) (by rw [hx]; rfl) rfl (After.here _)
    have x1 : wr.cell? ⟨b, off + j * 5 + 1, none⟩ = some (.int .i64 xf) := rc_cell RQ.out (j := j) (by rw [HN.out]; exact hlt) 1 (by decide) (by rw [hx]; rfl) (by omega) (After.here _)
    have x2 : wr.cell? ⟨b, off + j * 5 + 2, none⟩ = some (.int .i64 xk) := rc_cell RQ.out (j := j) (by rw [HN.out]; exact hlt) 2 (by decide) (by rw [hx]; rfl) (by omega) (After.here _)
    have x3 : wr.cell? ⟨b, off + j * 5 + 3, none⟩ = some (.int .i64 xi) := rc_cell RQ.out (j := j) (by rw [HN.out]; exact hlt) 3 (by decide) (by rw [hx]; rfl) (by omega) (After.here _)
    have x4 : wr.cell? ⟨b, off + j * 5 + 4, none⟩ = some (.int .i64 xo) := rc_cell RQ.out (j := j) (by rw [HN.out]; exact hlt) 4 (by decide) (by rw [hx]; rfl) (by omega) (After.here _)
    have Hx := hid hx; clear hx
    obtain ⟨fn, tmps, assign, body, hy, hR'⟩ := hY _ ⟨j, hlt⟩ wr hJj (Nat.lt_of_le_of_lt (fdn_len _ _) (by omega))
    have hR := hR'.mono (R' := fun e W' => ∃ r : Bool, e = .returned (.bool r) ∧ (r = true → J (fdn nn j) W' ∧ Kx n₀ X wr W') ∧ (r = false → Jx (fdn nn j) W')) (fun e W' h => by
      rw [← fdn_next hlt] at h
      rcases h with ⟨h1, h2, h3⟩ | ⟨h1, h2⟩
      · exact ⟨true, h1, fun _ => ⟨h2, h3⟩, fun h => by cases h⟩
      · exact ⟨false, h1, fun h => (by cases h), fun _ => h2⟩)
    clear hR' hY
    dsimp only at hy
    rw [Hx.out] at hy
    dsimp only at hy
    gi_wp2_with fail
    refine hR.mono ?_
    rintro e W3 ⟨r, rfl, h3, h4⟩
    cases r
    · gi_wp2
      refine bodyPost_ret (results_none rfl _ _ _) rfl ?_
      exact ⟨⟨_, rfl⟩, .inr ⟨_, ⟨j, hlt, rfl⟩, h4 (by simp)⟩⟩
    · have hJ3 := (h3 (by simp)).1
      have hK3 := (h3 (by simp)).2
      clear h3 h4
      gi_wp2
      go_roundw
      case rel => exact ⟨j, by omega, rfl, hJ3, hK.trans hK3⟩
      case measure => first | (simp [intOf]; done) | (simp [intOf]; omega)
theorem back_any (a : Option Addr) (n c : Nat) (w : World) :
    Calls Try.prog 37 #[.slice a n c] w fun e w' => e = .returned (.func (.func 42) #[] #[.pointer (some ⟨w.heap.size, 0, none⟩)]) ∧ w' = w.alloc (.cells #[.slice a n c] 22) := by
  go_enter Try.func37, Try.ntmps37
  go_wp2
  go_ret
  exact ⟨rfl, rfl⟩
theorem back_stops (n : Nat) (hn : 1 ≤ n) (Bm n₀ : Nat) (l : List Rc) (nn : Nat) (hnn : l.length = nn) (h10 : nn ≤ 256) (a : Option Addr) (c : Nat) (X : Nat → Prop) (w : World) (hn₀ : n₀ ≤ w.heap.size)
    (hm : w.cell? ⟨Bm, 0, none⟩ = some (.slice a nn c)) (hBm : ¬ X Bm) (hX : ∀ b, X b → b < w.heap.size) (hra : ∀ W', Below n₀ w W' → Rd W' a (l.flatMap Rc.cs)) :
    SeqStopsK Fence.wide n Try.prog 42 #[.pointer (some ⟨Bm, 0, none⟩)] (fun x : Fin nn => #[.int .i64 x.1, .agg #[.int .i64 (rc l x.1).d, .int .i64 (rc l x.1).f, .int .i64 (rc l x.1).k, .int .i64 (rc l x.1).i, .int .i64 (rc l x.1).o]]) (Kx n₀ X) (fun ys => ys = fdn nn 0) (fun pre => ∃ j, j < nn ∧ pre = fdn nn j) 300 w := by
  intro lp J Jx W hW hJ _ hY h0
  have hs := hW.size
  exact back1_in n hn lp Bm n₀ l nn hnn h10 a c X J Jx hY W (by omega) hJ ((hW.cell (p := ⟨Bm, 0, none⟩) (cell_lt hm)).trans hm) hBm (fun b hb => Nat.lt_of_lt_of_le (hX b hb) hs) (fun W' h => hra W' ((hW.mono hn₀).trans h)) h0
/-- What holds between two rounds: no record so far counts. -/
def FnI (w : World) (nn : Nat) (l : List Rc) (dev pos kn : Int) (pre : List (Fin nn)) (W : World) : Prop :=
  W.cell? ⟨w.heap.size, 0, none⟩ = some (.int .i64 dev) ∧ W.cell? ⟨w.heap.size + 1, 0, none⟩ = some (.int .i64 pos) ∧ W.cell? ⟨w.heap.size + 2, 0, none⟩ = some (.int .i64 kn) ∧
  W.cell? ⟨w.heap.size + 3, 0, none⟩ = some (.int .i64 0) ∧ W.cell? ⟨w.heap.size + 3, 1, none⟩ = some (.int .i64 0) ∧ W.cell? ⟨w.heap.size + 3, 2, none⟩ = some (.bool false) ∧ (∀ i, i < 3 → W.frozen? ⟨w.heap.size + 3, i, none⟩ = false) ∧
  Below w.heap.size w W ∧ ∀ y ∈ pre, hitR dev pos kn (rc l y.1) = false
theorem FnI.own {w : World} {nn : Nat} {l : List Rc} {dev pos kn : Int} {B : Nat} (hB : w.heap.size ≤ B) : OwnFrom B (FnI w nn l dev pos kn) := by
  intro s A C row ⟨h0, h1, h2, h3, h4, h5, h6, hb, h7⟩ hg hr
  have hr' : ∀ r, row = some r → ∃ o : Obj, A.heap[r]? = some o ∧ o.isCells = false := fun r e => (hr r e).2
  exact ⟨cell_kept h0 hg hr', cell_kept h1 hg hr', cell_kept h2 hg hr', cell_kept h3 hg hr', cell_kept h4 hg hr', cell_kept h5 hg hr', fun i hi => (by
    have h : i = 0 ∨ i = 1 ∨ i = 2 := by omega
    rcases h with rfl | rfl | rfl
    · exact (frozen_kept h3 hg hr').trans (h6 0 hi)
    · exact (frozen_kept h4 hg hr').trans (h6 1 hi)
    · exact (frozen_kept h5 hg hr').trans (h6 2 hi)), hb.grown hg hb.size (fun k e => Nat.le_trans hB (hr k e).1), h7⟩
/-- What holds where the search has ended: the last record counts. -/
def FnX (w : World) (nn : Nat) (l : List Rc) (dev pos kn : Int) (cd : Code) (pre : List (Fin nn)) (W : World) : Prop :=
  cd = .ret ∧ ∃ p0 y, pre = p0 ++ [y] ∧ hitR dev pos kn (rc l y.1) = true ∧ (∀ z ∈ p0, hitR dev pos kn (rc l z.1) = false) ∧
  W.cell? ⟨w.heap.size + 3, 0, none⟩ = some (.int .i64 (rc l y.1).i) ∧ W.cell? ⟨w.heap.size + 3, 1, none⟩ = some (.int .i64 (rc l y.1).o) ∧ W.cell? ⟨w.heap.size + 3, 2, none⟩ = some (.bool true) ∧ Below w.heap.size w W
set_option maxRecDepth 100000 in
set_option maxHeartbeats 4000000 in
theorem find_any (l : List Rc) (nn : Nat) (hnn : l.length = nn) (h256 : nn ≤ 256) (a : Option Addr) (c : Nat) (dev pos kn : Int) (w : World) (hr : Rd w a (l.flatMap Rc.cs)) :
    Calls Try.prog 27 #[.slice a nn c, .int .i64 dev, .int .i64 pos, .int .i64 kn] w fun e w' => e = .returned (.agg #[.int .i64 (resR (fnd l dev pos kn)).1, .int .i64 (resR (fnd l dev pos kn)).2.1, .bool (resR (fnd l dev pos kn)).2.2]) ∧ Below w.heap.size w w' := by
  have HN := hid hnn; have HR := hid (after_rd hr)
  clear hnn hr
  refine (callsIn_wide (n := 10)).1 ?_
  refine callsIn_of_wp_marks Try.func27 rfl trivial ?_ rfl
  simp only [Try.ntmps27, List.size_toArray, List.length_cons, List.length_nil, Nat.reduceAdd, Nat.reduceSub, Array.replicate_succ, Array.replicate_zero, List.push_toArray, List.append_toArray, List.nil_append, List.cons_append]
  gi_wp2_with fail
  obtain ⟨V, hV⟩ : ∃ V, V = ((((w.alloc (.cells #[.int .i64 dev] 3)).alloc (.cells #[.int .i64 pos] 3)).alloc (.cells #[.int .i64 kn] 3)).alloc (.cells #[.int .i64 0, .int .i64 0, .bool false] 55)) := ⟨_, rfl⟩
  have d0 : ∀ v : After V, v.w.cell? ⟨w.heap.size, 0, none⟩ = some (.int .i64 dev) := after_cell (by rw [hV]; first | (simp; done) | omega | (simp; omega)) (by rw [hV]; (repeat (first | with_reducible assumption | exact bn (by first | (simp; done) | omega | (simp; omega)) rfl | refine bo (by first | (simp; done) | omega | (simp; omega)) ?_)))
  have fd0 : ∀ v : After V, v.w.frozen? ⟨w.heap.size, 0, none⟩ = false := after_frozen (by rw [hV]; first | (simp; done) | omega | (simp; omega)) (by rw [hV]; (repeat (first | exact fn (by first | (simp; done) | omega | (simp; omega)) | refine fo (by first | (simp; done) | omega | (simp; omega)) ?_)))
  have zd : ∀ v : After V, w.heap.size < v.w.heap.size := after_size (by rw [hV]; first | (simp; done) | omega | (simp; omega))
  have p0 : ∀ v : After V, v.w.cell? ⟨w.heap.size + 1, 0, none⟩ = some (.int .i64 pos) := after_cell (by rw [hV]; first | (simp; done) | omega | (simp; omega)) (by rw [hV]; (repeat (first | with_reducible assumption | exact bn (by first | (simp; done) | omega | (simp; omega)) rfl | refine bo (by first | (simp; done) | omega | (simp; omega)) ?_)))
  have fp0 : ∀ v : After V, v.w.frozen? ⟨w.heap.size + 1, 0, none⟩ = false := after_frozen (by rw [hV]; first | (simp; done) | omega | (simp; omega)) (by rw [hV]; (repeat (first | exact fn (by first | (simp; done) | omega | (simp; omega)) | refine fo (by first | (simp; done) | omega | (simp; omega)) ?_)))
  have zp : ∀ v : After V, w.heap.size + 1 < v.w.heap.size := after_size (by rw [hV]; first | (simp; done) | omega | (simp; omega))
  have kk0 : ∀ v : After V, v.w.cell? ⟨w.heap.size + 1 + 1, 0, none⟩ = some (.int .i64 kn) := after_cell (by rw [hV]; first | (simp; done) | omega | (simp; omega)) (by rw [hV]; (repeat (first | with_reducible assumption | exact bn (by first | (simp; done) | omega | (simp; omega)) rfl | refine bo (by first | (simp; done) | omega | (simp; omega)) ?_)))
  have fkk0 : ∀ v : After V, v.w.frozen? ⟨w.heap.size + 1 + 1, 0, none⟩ = false := after_frozen (by rw [hV]; first | (simp; done) | omega | (simp; omega)) (by rw [hV]; (repeat (first | exact fn (by first | (simp; done) | omega | (simp; omega)) | refine fo (by first | (simp; done) | omega | (simp; omega)) ?_)))
  have zk : ∀ v : After V, w.heap.size + 1 + 1 < v.w.heap.size := after_size (by rw [hV]; first | (simp; done) | omega | (simp; omega))
  have q0 : ∀ v : After V, v.w.cell? ⟨w.heap.size + 1 + 1 + 1, 0, none⟩ = some (.int .i64 0) := after_cell (by rw [hV]; first | (simp; done) | omega | (simp; omega)) (by rw [hV]; (repeat (first | with_reducible assumption | exact bn (by first | (simp; done) | omega | (simp; omega)) rfl | refine bo (by first | (simp; done) | omega | (simp; omega)) ?_)))
  have fq0 : ∀ v : After V, v.w.frozen? ⟨w.heap.size + 1 + 1 + 1, 0, none⟩ = false := after_frozen (by rw [hV]; first | (simp; done) | omega | (simp; omega)) (by rw [hV]; (repeat (first | exact fn (by first | (simp; done) | omega | (simp; omega)) | refine fo (by first | (simp; done) | omega | (simp; omega)) ?_)))
  have q1 : ∀ v : After V, v.w.cell? ⟨w.heap.size + 1 + 1 + 1, 1, none⟩ = some (.int .i64 0) := after_cell (by rw [hV]; first | (simp; done) | omega | (simp; omega)) (by rw [hV]; (repeat (first | with_reducible assumption | exact bn (by first | (simp; done) | omega | (simp; omega)) rfl | refine bo (by first | (simp; done) | omega | (simp; omega)) ?_)))
  have fq1 : ∀ v : After V, v.w.frozen? ⟨w.heap.size + 1 + 1 + 1, 1, none⟩ = false := after_frozen (by rw [hV]; first | (simp; done) | omega | (simp; omega)) (by rw [hV]; (repeat (first | exact fn (by first | (simp; done) | omega | (simp; omega)) | refine fo (by first | (simp; done) | omega | (simp; omega)) ?_)))
  have q2 : ∀ v : After V, v.w.cell? ⟨w.heap.size + 1 + 1 + 1, 2, none⟩ = some (.bool false) := after_cell (by rw [hV]; first | (simp; done) | omega | (simp; omega)) (by rw [hV]; (repeat (first | with_reducible assumption | exact bn (by first | (simp; done) | omega | (simp; omega)) rfl | refine bo (by first | (simp; done) | omega | (simp; omega)) ?_)))
  have fq2 : ∀ v : After V, v.w.frozen? ⟨w.heap.size + 1 + 1 + 1, 2, none⟩ = false := after_frozen (by rw [hV]; first | (simp; done) | omega | (simp; omega)) (by rw [hV]; (repeat (first | exact fn (by first | (simp; done) | omega | (simp; omega)) | refine fo (by first | (simp; done) | omega | (simp; omega)) ?_)))
  have zq : ∀ v : After V, w.heap.size + 1 + 1 + 1 < v.w.heap.size := after_size (by rw [hV]; first | (simp; done) | omega | (simp; omega))
  have hwV : Below w.heap.size w V := by rw [hV]; exact (by repeat (first | exact Below.refl _ _ | assumption | refine b_then ?_ (by assumption) | refine b_alloc ?_ _ | refine b_drewN ?_ _ | refine b_drew ?_ | refine b_set ?_ (by omega) _ | refine b_set ?_ (by simp) _))
  have WV := hid (after_below hwV)
  rw [← hV]
  obtain ⟨u0, hu⟩ : ∃ u : After V, u.w = V := ⟨After.here V, rfl⟩
  rw [← hu]
  clear hu hV
  refine ⟨trivial, ?_⟩
  refine (callsIn_wide.2 (back_any a nn c _)).mono ?_
  rintro e w5 ⟨rfl, hw5⟩
  have k0 : w5.cell? ⟨u0.w.heap.size, 0, none⟩ = some (.slice a nn c) := by rw [hw5]; exact bn rfl rfl
  have hsz5 : w5.heap.size = u0.w.heap.size + 1 := by rw [hw5]; simp
  have hB5 : Below u0.w.heap.size u0.w w5 := by rw [hw5]; exact b_alloc (Below.refl _ _) _
  have hzr := zq u0
  obtain ⟨v5, rfl⟩ : ∃ v5 : After V, w5 = v5.w := ⟨u0.on hB5, rfl⟩
  clear hw5 hB5
  have hI0 : FnI w nn l dev pos kn [] v5.w := ⟨d0 v5, p0 v5, kk0 v5, q0 v5, q1 v5, q2 v5, fun i hi => (by
    have h : i = 0 ∨ i = 1 ∨ i = 2 := by omega
    rcases h with rfl | rfl | rfl
    · exact fq0 v5
    · exact fq1 v5
    · exact fq2 v5), WV.out v5, fun y hy => by cases hy⟩
  gi_wp2_with fail
  refine wpIn_rangeFunc_ownH rfl (by omega) (gf := 42) (lb := #[.pointer (some ⟨u0.w.heap.size, 0, none⟩)]) rfl trivial (enters_of Try.func42 (by kernel_rfl) rfl)
    (back_stops _ (by omega) u0.w.heap.size w.heap.size l nn HN.out h256 a c (fun _ => False) v5.w (by omega) k0 id (fun b h => absurd h id) (fun W' h => HR.out (After.to ((WV.out v5).trans h))))
    (fun h k => h.trans k) ?hKb (Below.refl _ _) (fun _ => rfl)
    (FnI w nn l dev pos kn) (FnX w nn l dev pos kn) (FnI.own (by omega)) (fun cd s A C row hs hg hr => by
      have hr' : ∀ r, row = some r → ∃ o : Obj, A.heap[r]? = some o ∧ o.isCells = false := fun r e => (hr r e).2
      obtain ⟨e0, p0, y, e1, e2, e3, e4, e5, e6, hb⟩ := hs
      exact ⟨e0, p0, y, e1, e2, e3, cell_kept e4 hg hr', cell_kept e5 hg hr', cell_kept e6 hg hr', hb.grown hg hb.size (fun k e => Nat.le_trans (by omega) (hr k e).1)⟩) hI0
    (fun x a' W => ∃ Bx, (∀ o u, ((rc l x.1).cs)[o]? = some u → W.cell? ⟨Bx, o, none⟩ = some u) ∧ a' = { tmps := #[.slice a nn c, .int .i64 dev, .int .i64 pos, .int .i64 kn, undef, .pointer (some ⟨w.heap.size, 0, none⟩), .pointer (some ⟨w.heap.size + 1, 0, none⟩), .pointer (some ⟨w.heap.size + 2, 0, none⟩), .pointer (some ⟨w.heap.size + 3, 0, none⟩), undef, .pointer (some ⟨Bx, 0, none⟩), .slice a nn c, .func (.func 42) #[] #[.pointer (some ⟨u0.w.heap.size, 0, none⟩)], .int .i64 x.1, .agg #[.int .i64 (rc l x.1).d, .int .i64 (rc l x.1).f, .int .i64 (rc l x.1).k, .int .i64 (rc l x.1).i, .int .i64 (rc l x.1).o], undef, undef, undef, undef, undef, undef, undef, undef, undef, undef, undef, undef, undef, undef, undef, undef, undef, undef, undef, undef, undef, undef], defers := [] })
    (fun x a' _ X Z row hs hg hr => by obtain ⟨Bx, h1, h2⟩ := hs; exact ⟨Bx, fun o u h => cell_kept (h1 o u h) hg (fun r e => (hr r e).2), h2⟩)
    ?assign ?body ?done ?stop
  case hKb =>
    intro W l o o' hl h h1 _
    have hlt := (Array.getElem?_eq_some_iff.1 h).1
    refine ⟨(Below.refl _ W).grown (grownBy_putObj' W l o') (by omega) (fun k e => by cases e; omega), by simp [World.putObj], fun b ob hb hob hc => ?_⟩
    have hne : b ≠ l := fun e => by
      subst e
      rw [h] at hob
      cases hob
      rw [h1] at hc
      cases hc
    rw [World.putObj_heap_other hne]
    exact hob
  case assign =>
    rintro lp pre x W K hi hK
    gi_wp2
    exact hK _ _ ((KeepsOthers.alloc _ _).from _) (Kx.of (b_alloc (Below.refl _ _) _) (by obtain ⟨_, _, _, _, _, _, _, hb, _⟩ := hi; exact hb.size)) (FnI.own (Nat.le_refl _) _ W _ none hi (World.grownBy_alloc W _ none) (fun r e => by cases e)) ⟨W.heap.size, fun o u h => bn rfl (by simpa [Rc.cs] using h), rfl⟩
  case body =>
    rintro lp pre x a' W hl ⟨r, hr⟩ ⟨h0, h1, h2, h3, h4, h5, h6, hb, h7⟩ ⟨Bx, hx, rfl⟩ hlt
    have c0 := hx 0 _ rfl
    have c1 := hx 1 _ rfl
    have c2 := hx 2 _ rfl
    have c3 := hx 3 _ rfl
    have c4 := hx 4 _ rfl
    have hs := hb.size
    clear hx
    obtain ⟨⟨xd, xf, xk, xi, xo⟩, hx⟩ : ∃ t, rc l x.1 = t := ⟨_, rfl⟩
    rw [hx] at c0 c1 c2 c3 c4 ⊢
    dsimp only at c0 c1 c2 c3 c4 ⊢
    have Hx := hid hx; clear hx
    have H7 := hid h7; clear h7
    rcases t0 : (xd == dev) with _ | _
    · skip
      have HH := hid (show hitR dev pos kn (rc l x.1) = false by rw [Hx.out]; simp [hitR, t0])
      gi_wp2_with fail
      exact ⟨KeepsFrom.refl _ _, Kx.refl _ _ _, h0, h1, h2, h3, h4, h5, h6, hb, fun y hy => by
        rcases List.mem_append.1 hy with hy | hy
        · exact H7.out y hy
        · rw [List.mem_singleton.1 hy]; exact HH.out⟩
    · skip
      rcases t1 : decide (xf ≤ pos) with _ | _
      · skip
        have HH := hid (show hitR dev pos kn (rc l x.1) = false by rw [Hx.out]; simp [hitR, t0, t1])
        gi_wp2_with fail
        exact ⟨KeepsFrom.refl _ _, Kx.refl _ _ _, h0, h1, h2, h3, h4, h5, h6, hb, fun y hy => by
          rcases List.mem_append.1 hy with hy | hy
          · exact H7.out y hy
          · rw [List.mem_singleton.1 hy]; exact HH.out⟩
      · skip
        rcases t2 : decide (xk ≤ kn) with _ | _
        · skip
          have HH := hid (show hitR dev pos kn (rc l x.1) = false by rw [Hx.out]; simp [hitR, t0, t1, t2])
          gi_wp2_with fail
          exact ⟨KeepsFrom.refl _ _, Kx.refl _ _ _, h0, h1, h2, h3, h4, h5, h6, hb, fun y hy => by
            rcases List.mem_append.1 hy with hy | hy
            · exact H7.out y hy
            · rw [List.mem_singleton.1 hy]; exact HH.out⟩
        · skip
          have HH := hid (show hitR dev pos kn (rc l x.1) = true by rw [Hx.out]; simp [hitR, t0, t1, t2])
          have f0 := h6 0 (by omega)
          have f1 := h6 1 (by omega)
          have f2 := h6 2 (by omega)
          gi_wp2_with fail
          refine ⟨(((KeepsOthers.setCell _ _ _).trans (KeepsOthers.setCell _ _ _)).trans (KeepsOthers.setCell _ _ _)).from _, rfl, pre, x, rfl, HH.out, H7.out, ?_, ?_, ?_, b_set (b_set (b_set hb (by omega) _) (by omega) _) (by omega) _⟩
          · rw [Hx.out]; exact st_off _ (.inl (by decide)) (st_off _ (.inl (by decide)) (st_hit _ h3))
          · rw [Hx.out]; exact st_off _ (.inl (by decide)) (st_hit _ (st_off _ (.inl (by decide)) h4))
          · exact st_hit _ (st_off _ (.inl (by decide)) (st_off _ (.inl (by decide)) h5))
  case done =>
    rintro D zs W hD rfl ⟨h0, h1, h2, h3, h4, h5, h6, hb, h7⟩ hK
    have HF := hid (show fnd l dev pos kn = none from fnd_none.2 (fun t ht => by
      obtain ⟨i, hi, rfl⟩ := mem_rc ht
      exact h7 ⟨i, by rw [← HN.out]; exact hi⟩ ((fdn_mem (Nat.zero_le _) _).2 (Nat.zero_le _))))
    have f0 := h6 0 (by omega)
    have f1 := h6 1 (by omega)
    have f2 := h6 2 (by omega)
    clear h6 h7
    gi_wp2
    generalize hZ : World.setCell _ _ _ = Z
    have hKZ : Z.heap[D]? = some (.deferred (some [])) := by rw [← hZ]; exact (KeepsOthers.setCell _ _ _).same D _ ((KeepsOthers.setCell _ _ _).same D _ ((KeepsOthers.setCell _ _ _).same D _ hK rfl) rfl) rfl
    have q0 : (Z.putObj D (.deferred none)).cell? ⟨w.heap.size + 3, 0, none⟩ = some (.int .i64 0) := cell_kept (by rw [← hZ]; exact st_off _ (.inl (by decide)) (st_off _ (.inl (by decide)) (st_hit _ h3))) (grownBy_putObj' _ D _) (fun r e => by cases e; exact ⟨_, hKZ, rfl⟩)
    have q1 : (Z.putObj D (.deferred none)).cell? ⟨w.heap.size + 3, 1, none⟩ = some (.int .i64 0) := cell_kept (by rw [← hZ]; exact st_off _ (.inl (by decide)) (st_hit _ (st_off _ (.inl (by decide)) h4))) (grownBy_putObj' _ D _) (fun r e => by cases e; exact ⟨_, hKZ, rfl⟩)
    have q2 : (Z.putObj D (.deferred none)).cell? ⟨w.heap.size + 3, 2, none⟩ = some (.bool false) := cell_kept (by rw [← hZ]; exact st_hit _ (st_off _ (.inl (by decide)) (st_off _ (.inl (by decide)) h5))) (grownBy_putObj' _ D _) (fun r e => by cases e; exact ⟨_, hKZ, rfl⟩)
    have hWZ : Below w.heap.size w (Z.putObj D (.deferred none)) := by
      refine Below.grown (w := Z) ?_ (grownBy_putObj' Z D _) ?_ (fun k e => by cases e; omega)
      · rw [← hZ]; exact b_set (b_set (b_set hb (by omega) _) (by omega) _) (by omega) _
      · rw [← hZ]; have := hb.size; simp; omega
    refine ⟨by simp, .inl ⟨_, _, rfl, run_takeDeferred hKZ, ?_⟩⟩
    exact ⟨.agg #[.int .i64 0, .int .i64 0, .bool false], by simp [results, Try.results27, go_sem, q0, q1, q2], by rw [HF.out]; rfl, hWZ⟩
  case stop =>
    rintro D cd pre W hD ⟨j, hj, hpre⟩ ⟨rfl, p0, y, hp0, hh, hms, g0, g1, g2, hb⟩ hK
    rw [fdn_next hj] at hpre
    obtain ⟨e1, e2⟩ := List.append_inj' (hp0.symm.trans hpre) rfl
    obtain rfl : y = ⟨j, hj⟩ := by simpa using e2
    have HF := hid (show fnd l dev pos kn = some (rc l j) from fndJ_some.2 ⟨j, by rw [HN.out]; exact hj, rfl, hh, fun x h1 h2 => hms ⟨x, by rw [← HN.out]; exact h2⟩ (by rw [e1]; exact (fdn_mem (by omega) _).2 h1)⟩)
    clear hms hh e1 e2 hpre hp0
    gi_wp2
    have q0 : (W.putObj D (.deferred none)).cell? ⟨w.heap.size + 3, 0, none⟩ = some (.int .i64 (rc l j).i) := cell_kept g0 (grownBy_putObj' _ D _) (fun r e => by cases e; exact ⟨_, hK, rfl⟩)
    have q1 : (W.putObj D (.deferred none)).cell? ⟨w.heap.size + 3, 1, none⟩ = some (.int .i64 (rc l j).o) := cell_kept g1 (grownBy_putObj' _ D _) (fun r e => by cases e; exact ⟨_, hK, rfl⟩)
    have q2 : (W.putObj D (.deferred none)).cell? ⟨w.heap.size + 3, 2, none⟩ = some (.bool true) := cell_kept g2 (grownBy_putObj' _ D _) (fun r e => by cases e; exact ⟨_, hK, rfl⟩)
    have hWZ : Below w.heap.size w (W.putObj D (.deferred none)) := Below.grown (w := W) hb (grownBy_putObj' W D _) hb.size (fun k e => by cases e; omega)
    refine ⟨by simp, .inl ⟨_, _, rfl, run_takeDeferred hK, ?_⟩⟩
    exact ⟨.agg #[.int .i64 (rc l j).i, .int .i64 (rc l j).o, .bool true], by simp [results, Try.results27, go_sem, q0, q1, q2], by rw [HF.out]; rfl, hWZ⟩
end Go.Proofs.Ytdnjpfjiaomlgaa
