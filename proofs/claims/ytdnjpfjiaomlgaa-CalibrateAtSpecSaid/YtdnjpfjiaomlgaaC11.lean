/- pieces. -/
import Derived.Test.YtdnjpfjiaomlgaaG0
import Derived.Test.YtdnjpfjiaomlgaaC1
import Derived.Test.YtdnjpfjiaomlgaaBV
import Derived.Sort.BigQuietIn
import Derived.RangeFuncKeeps
import Derived.RangeFuncBox
namespace Go.Proofs.Ytdnjpfjiaomlgaa
open Go.RowKit Go.Shelf
open Go.Lib (hid)

attribute [local go_sem] Oper.semAt_some
/-- No operation defers. -/
def noDefer (ops : Array Oper) : Bool := ops.all fun o => match o.op with | .defer _ => false | _ => true
theorem noDefer_spec {ops : Array Oper} (h : noDefer ops = true) {j : Nat} {o : Oper} (hj : ops[j]? = some o) : ∀ c, o.op ≠ .defer c := by
  intro c hc
  obtain ⟨hlt, rfl⟩ := Array.getElem?_eq_some_iff.1 hj
  have h2 := Array.all_eq_true.1 h j hlt
  rw [hc] at h2
  cases h2
theorem wpIn_round {F : Fence} {n : Nat} {P : Program} {o : Oper} {a : Act} {w : World} {K : Act → World → Prop} {Q : Exit → Act → World → Prop} (lp : Nat) (hro : F.round = none) (hno : ∀ c, o.op ≠ .defer c) (h : o.wpIn F n P a w K Q) : o.wpIn (F.inRound lp) n P a w K Q := by
  have h2 := h.2
  rw [hro, Oper.semAt_none] at h2
  refine ⟨h.1, ?_⟩
  rw [Oper.semAt_eq _ _ _ hno]
  exact h2
theorem wpAnyIn_round {F : Fence} {n : Nat} {P : Program} {md : Region.Mode} {ops : Array Oper} {Q : Exit → Act → World → Prop} (lp : Nat) (hro : F.round = none) (hno : noDefer ops = true) : ∀ (k : Nat) (listed : Array Bool) (a : Act) (w : World),
    wpAnyIn F n P md ops Q k listed a w → wpAnyIn (F.inRound lp) n P md ops Q k listed a w := by
  intro k
  induction k with
  | zero => intro listed a w h; exact h
  | succ k ih =>
    intro listed a w h
    refine ⟨h.1, fun i hi => ?_⟩
    have h2 := wpOpIn_mono (fun a w => ih _ a w) (h.2 i hi)
    revert h2
    unfold wpOpIn
    split
    · exact id
    · rename_i o ho
      split
      · exact wpIn_round lp hro (noDefer_spec hno ho)
      · exact id
theorem quietUpon_wide {n : Nat} {P : Program} {C : World → Prop} {w : World} {v : Value} : ∀ (r : Result Next), Oper.quietUpon P C w v r → Oper.quietUponIn Fence.wide n P C w v r := by
  intro r h
  unfold Oper.quietUpon at h
  split at h
  · exact h
  · exact h
  · exact ⟨h.1, fun h => (by cases h), callsIn_wide.2 h.2⟩
  · exact h.elim
theorem wpQuiet_wide {n : Nat} {P : Program} {ops : Array Oper} {C : World → Prop} {Q : Act → Prop} : ∀ (l : List Oper) (a : Act), wpQuiet P ops C Q l a → wpQuietIn Fence.wide n P ops C Q l a := by
  intro l
  induction l with
  | nil => intro a h; exact h
  | cons o l ih =>
    intro a h
    unfold wpQuiet at h
    refine ⟨fun _ _ _ _ => trivial, ?_⟩
    split
    · rename_i hw
      rw [if_pos hw] at h
      obtain ⟨v, h1, h2⟩ := h
      exact ⟨v, fun w hC => quietUpon_wide _ (h1 w hC), ih _ h2⟩
    · rename_i hw
      rw [if_neg hw] at h
      exact ih _ h
/-- A region that draws its order, whose operations and callees only read or lay memory, in a round. -/
theorem region_round_since {id lp n : Nat} {Q : Exit → Act → World → Prop} {a : Act} {V : World} {u : After V} {l : List Oper} (hno : noDefer l.toArray = true) (hm : Try.prog.follows .mixedOrders = true) (hB : Region.lexB .any l.toArray = true)
    (h : wpQuiet Try.prog l.toArray (fun w' => ∃ v : After V, w' = v.w) (fun a' => ∀ v : After V, Q .normal a' v.w) l a) : (Code.region id l.toArray true).wpIn (Fence.wide.inRound lp) n Try.prog Q a u.w := by
  simp only [Region.lexB, Bool.and_eq_true] at hB
  refine wpIn_region_any hm (wpAnyIn_round lp rfl hno _ _ _ _ (wpAnyIn_of_quiet (C := fun w' => ∃ v : After V, w' = v.w) (Q := fun a' => ∀ v : After V, Q .normal a' v.w) rfl (fun a w hw h => by obtain ⟨v, rfl⟩ := hw; exact h v) _ _ _ _ ⟨⟨u.w.drew, b_drew u.2⟩, rfl⟩ ?_))
  have := wpAnyQIn_lex (F := Fence.wide) (n := n) (C := fun w' => ∃ v : After V, w' = v.w) (md := .any) hB.1 l 0 (Array.replicate l.toArray.size false) a (by simp) (by simpa using hB.2) (wpQuiet_wide _ _ h)
  simpa using this
/-- What an iterator asks of a round: old memory below n₀ stands, and so do all cells but those of some blocks and those of rows of type e. -/
structure Kz (n₀ : Nat) (X : Nat → Prop) (e : TypeId) (W W' : World) : Prop where
  below : Below n₀ W W'
  size : W.heap.size ≤ W'.heap.size
  keep : ∀ b cs t fr, ¬ X b → t ≠ e → W.heap[b]? = some (.cells cs t fr) → W'.heap[b]? = some (.cells cs t fr)
theorem Kz.refl (n₀ : Nat) (X : Nat → Prop) (e : TypeId) (W : World) : Kz n₀ X e W W := ⟨Below.refl _ _, Nat.le_refl _, fun _ _ _ _ _ _ h => h⟩
theorem Kz.trans {n₀ : Nat} {X : Nat → Prop} {e : TypeId} {A B C : World} (h : Kz n₀ X e A B) (k : Kz n₀ X e B C) : Kz n₀ X e A C := ⟨h.below.trans k.below, Nat.le_trans h.size k.size, fun b cs t fr hb ht ho => k.keep b cs t fr hb ht (h.keep b cs t fr hb ht ho)⟩
theorem Kz.of {n₀ : Nat} {X : Nat → Prop} {e : TypeId} {W W' : World} (h : Below W.heap.size W W') (hn : n₀ ≤ W.heap.size) : Kz n₀ X e W W' := ⟨h.mono hn, h.size, fun b _ _ _ _ _ ho => (h.block b (Array.getElem?_eq_some_iff.1 ho).1).trans ho⟩
theorem Kz.setX {n₀ : Nat} {X : Nat → Prop} {e : TypeId} {W W' : World} (h : Kz n₀ X e W W') {b o : Nat} (hb : n₀ ≤ b) (hX : X b) (v : Value) : Kz n₀ X e W (W'.setCell ⟨b, o, none⟩ v) :=
  ⟨h.below.setCell (p := ⟨b, o, none⟩) hb _, by simp; exact h.size, fun b' cs t fr hb' ht ho => by
    rw [Below.heap_setCell W' ⟨b, o, none⟩ _ b' (fun e' => hb' (by have e2 : b' = b := e'; rw [e2]; exact hX))]
    exact h.keep b' cs t fr hb' ht ho⟩
theorem Kz.setRow {n₀ : Nat} {X : Nat → Prop} {e : TypeId} {W W' : World} (h : Kz n₀ X e W W') {b o : Nat} (hb : n₀ ≤ b) {cs : Array Value} {fr : Nat × Nat} (hr : W'.heap[b]? = some (.cells cs e fr)) (v : Value) : Kz n₀ X e W (W'.setCell ⟨b, o, none⟩ v) :=
  ⟨h.below.setCell (p := ⟨b, o, none⟩) hb _, by simp; exact h.size, fun b' cs' t fr' hb' ht ho => by
    have h2 := h.keep b' cs' t fr' hb' ht ho
    rw [Below.heap_setCell W' ⟨b, o, none⟩ _ b' (fun e' => by
      have e2 : b' = b := e'
      rw [e2, hr] at h2
      cases h2
      exact ht rfl)]
    exact h2⟩
theorem Kz.box {n₀ : Nat} {X : Nat → Prop} {e : TypeId} {W W' : World} (h : Kz n₀ X e W W') {b : Nat} {t : TypeId} {v : Value} (hb : ¬ X b) (ht : t ≠ e) (hc : Boxed W b t v) : Boxed W' b t v := h.keep b _ t _ hb ht hc
theorem piece_next {l : List Rc} {dev : Int} {j np : Nat} (hnp : (pcs l dev).length = np) (hj : j < l.length) {xd xf xk xi xo : Int} (hx : rc l j = ⟨xd, xf, xk, xi, xo⟩) (h1 : xd = dev) (h2 : bnd l dev j < xf) :
    (pcsJ l dev (j + 1)).length = (pcsJ l dev j).length + 1 ∧ (pcsJ l dev j).length < np ∧ pc l dev (pcsJ l dev j).length = (bnd l dev j, xf) ∧ bnd l dev (j + 1) = xf := by
  have h := pc_next (l := l) (dev := dev) hj (by rw [hx]; exact ⟨h1, h2⟩)
  rw [hnp, hx] at h
  refine ⟨h.1, h.2.1, h.2.2, ?_⟩
  rw [bnd_succ, hx, if_pos ⟨h1, h2⟩]
theorem piece_stay {l : List Rc} {dev : Int} {j : Nat} {xd xf xk xi xo : Int} (hx : rc l j = ⟨xd, xf, xk, xi, xo⟩) (h : ¬ (xd = dev ∧ bnd l dev j < xf)) : (pcsJ l dev (j + 1)).length = (pcsJ l dev j).length ∧ bnd l dev (j + 1) = bnd l dev j := by
  have h := pc_stay (l := l) (dev := dev) (j := j) (by rw [hx]; exact h)
  rw [h.1, h.2]
  exact ⟨rfl, rfl⟩
set_option maxRecDepth 100000 in
set_option maxHeartbeats 4000000 in
theorem piece1_in (n : Nat) (hn : 1 ≤ n) (lp Bm Bd n₀ : Nat) (l : List Rc) (nn : Nat) (hnn : l.length = nn) (h10 : nn ≤ 256) (a : Option Addr) (c : Nat) (dev : Int) (np : Nat) (hnp : (pcs l dev).length = np) (X : Nat → Prop) (J Jx : List (Fin np) → World → Prop)
    (hY : ∀ pre x W, J pre W → pre.length < 300 → YieldAt Fence.wide (n - 1) Try.prog lp #[.int .i64 (pc l dev x.1).1, .int .i64 (pc l dev x.1).2] W fun e W' =>
      (e = .returned (.bool true) ∧ J (pre ++ [x]) W' ∧ Kz n₀ X 40 W W') ∨ (e = .returned (.bool false) ∧ Jx (pre ++ [x]) W'))
    (W : World) (hn₀ : n₀ ≤ W.heap.size) (hJ : AbidesFrom W.heap.size J)
    (hm : Boxed W Bm 22 (.slice a nn c)) (_hBm : ¬ X Bm) (hmd : Boxed W Bd 3 (.int .i64 dev)) (hBd : ¬ X Bd) (hX : ∀ b, X b → b < W.heap.size) (hra : ∀ W', Below n₀ W W' → Rd W' a (l.flatMap Rc.cs)) (h0 : J [] W) :
    CallsIn Fence.wide n Try.prog 38 #[.func (.yield lp) #[] #[], .pointer (some ⟨Bm, 0, none⟩), .pointer (some ⟨Bd, 0, none⟩)] W fun e W' => (∃ v, e = .returned v) ∧
      ((∃ ys, ys = List.finRange np ∧ J ys W') ∨ (∃ pre, True ∧ Jx pre W')) := by
  have HN := hid hnn; clear hnn
  refine callsIn_of_wp Try.func38 rfl trivial ?_ rfl
  simp only [Try.ntmps38, List.size_toArray, List.length_cons, List.length_nil, Nat.reduceAdd, Nat.reduceSub, Array.replicate_succ, Array.replicate_zero, List.push_toArray, List.append_toArray, List.nil_append, List.cons_append]
  have hm0 := hm.cell
  gi_wp2
  gi_loopw [4, 9] (fun p i wr => ∃ j : Nat, j ≤ nn ∧ i = .int .i64 j ∧ p = .int .i64 (bnd l dev j) ∧ J (fto np (pcsJ l dev j).length) wr ∧ Kz n₀ X 40 W wr) (fun _ i _ => nn - (intOf i).toNat)
  case atStart => exact ⟨0, by omega, rfl, rfl, h0, Kz.refl _ _ _ _⟩
  case round =>
    obtain ⟨j, hj, rfl, rfl, hJj, hK⟩ := hrel
    clear hm0
    by_cases hlt : j < nn
    case neg =>
      have d1 : decide ((j : Int) < (nn : Int)) = false := decide_eq_false (by omega)
      have d1' : decide (j < nn) = false := decide_eq_false hlt
      have hjn : j = nn := by omega
      have hpl := pc_last l dev
      rw [HN.out, ← hjn] at hpl
      have hnl := pcs_len l dev
      rw [hnp, HN.out, ← hjn] at hnl
      have hkl := pcsJ_len l dev j
      obtain ⟨k, hk⟩ : ∃ k, (pcsJ l dev j).length = k := ⟨_, rfl⟩
      rw [hk] at hpl hnl hJj hkl
      have hkn : k < np := by omega
      obtain ⟨fr, hfr⟩ : ∃ y, bnd l dev j = y := ⟨_, rfl⟩
      rw [hfr] at hpl
      rw [hfr]
      obtain ⟨fn, tmps, assign, body, hy, hR'⟩ := hY _ ⟨k, hkn⟩ wr hJj (Nat.lt_of_le_of_lt (fto_len _ _) (by omega))
      rw [← fto_next hkn] at hR'
      have hall : fto np (k + 1) = List.finRange np := by rw [show k + 1 = np by omega]; exact fto_all np
      rw [hall] at hR'
      have hR := hR'.mono (R' := fun e W' => ∃ r : Bool, e = .returned (.bool r) ∧ (r = true → J (List.finRange np) W') ∧ (r = false → Jx (List.finRange np) W')) (fun e W' h => by
        rcases h with ⟨h1, h2, h3⟩ | ⟨h1, h2⟩
        · exact ⟨true, h1, fun _ => h2, fun h => by cases h⟩
        · exact ⟨false, h1, fun h => (by cases h), fun _ => h2⟩)
      clear hR' hY
      dsimp only at hy
      rw [hpl] at hy
      dsimp only at hy
      clear hpl hfr hk hall hnl
      gi_wp2_with fail
      refine hR.mono ?_
      rintro e W3 ⟨r, rfl, h3, h4⟩
      cases r
      · gi_wp2
        go_end0
        exact ⟨⟨_, rfl⟩, .inr ⟨_, trivial, h4 (by simp)⟩⟩
      · gi_wp2
        go_end0
        exact ⟨⟨_, rfl⟩, .inl ⟨_, rfl, h3 (by simp)⟩⟩
    have hlj : j < l.length := by rw [HN.out]; exact hlt
    have d1 : decide ((j : Int) < (nn : Int)) = true := decide_eq_true (by omega)
    have d1' : decide (j < nn) = true := decide_eq_true hlt
    have hjj : (j : Int) < (nn : Int) := by omega
    have hsz := hK.size
    have hbd := hK.box hBd (by decide) hmd
    have hba := hbd.cell
    have hrw := hra wr hK.below
    obtain ⟨b, off, rfl, hb⟩ := hrw.addr (by rw [flat_len Rc.cs 5 Rc.c5, HN.out]; omega)
    have RQ := hid (after_rd hrw); clear hrw
    obtain ⟨⟨xd, xf, xk, xi, xo⟩, hx⟩ : ∃ t, rc l j = t := ⟨_, rfl⟩
    have x0 : wr.cell? ⟨b, off + j * 5, none⟩ = some (.int .i64 xd) := rc_cell RQ.out (j := j) (hlj) 0 (by decide) (by rw [hx]; rfl) rfl (After.here _)
    have x1 : wr.cell? ⟨b, off + j * 5 + 1, none⟩ = some (.int .i64 xf) := rc_cell RQ.out (j := j) (hlj) 1 (by decide) (by rw [hx]; rfl) (by omega) (After.here _)
    have x2 : wr.cell? ⟨b, off + j * 5 + 2, none⟩ = some (.int .i64 xk) := rc_cell RQ.out (j := j) (hlj) 2 (by decide) (by rw [hx]; rfl) (by omega) (After.here _)
    have x3 : wr.cell? ⟨b, off + j * 5 + 3, none⟩ = some (.int .i64 xi) := rc_cell RQ.out (j := j) (hlj) 3 (by decide) (by rw [hx]; rfl) (by omega) (After.here _)
    have x4 : wr.cell? ⟨b, off + j * 5 + 4, none⟩ = some (.int .i64 xo) := rc_cell RQ.out (j := j) (hlj) 4 (by decide) (by rw [hx]; rfl) (by omega) (After.here _)
    have Hx := hid hx; clear hx
    have hBV : Below wr.heap.size wr (wr.alloc (.cells #[.int .i64 xd, .int .i64 xf, .int .i64 xk, .int .i64 xi, .int .i64 xo] 24)) := b_alloc (Below.refl _ _) _
    have y0 : (wr.alloc (.cells #[.int .i64 xd, .int .i64 xf, .int .i64 xk, .int .i64 xi, .int .i64 xo] 24)).cell? ⟨wr.heap.size, 0, none⟩ = some (.int .i64 xd) := bn rfl rfl
    have y1 : (wr.alloc (.cells #[.int .i64 xd, .int .i64 xf, .int .i64 xk, .int .i64 xi, .int .i64 xo] 24)).cell? ⟨wr.heap.size, 1, none⟩ = some (.int .i64 xf) := bn rfl rfl
    have hhp : (wr.alloc (.cells #[.int .i64 xd, .int .i64 xf, .int .i64 xk, .int .i64 xi, .int .i64 xo] 24)).heap[wr.heap.size]? = some (.cells #[.int .i64 xd, .int .i64 xf, .int .i64 xk, .int .i64 xi, .int .i64 xo] 24 (0, 0)) := World.alloc_heap_new _ _
    have ba0 : (wr.alloc (.cells #[.int .i64 xd, .int .i64 xf, .int .i64 xk, .int .i64 xi, .int .i64 xo] 24)).cell? ⟨Bd, 0, none⟩ = some (.int .i64 dev) := bb hBV (cell_lt hba) hba
    have hnX : ¬ X wr.heap.size := fun h => by have := hX _ h; omega
    obtain ⟨fr, hfr⟩ : ∃ y, bnd l dev j = y := ⟨_, rfl⟩
    have HFR := hid hfr
    rw [hfr]
    clear hfr hba
    by_cases h1 : xd = dev
    case neg =>
      have e1 : (xd == dev) = false := beq_eq_false_iff_ne.2 h1
      have HST := hid (piece_stay (dev := dev) Hx.out (fun h => h1 h.1))
      rw [HFR.out] at HST
      gi_wp2_with fail
      go_roundw
      case rel => exact ⟨j + 1, by omega, by go_num, by rw [HST.out.2], by rw [HST.out.1]; exact hJ _ wr _ none hJj (below_grown hBV) (fun r e => by cases e), hK.trans (Kz.of hBV (by omega))⟩
      case measure => first | (simp [intOf]; done) | (simp [intOf]; omega)
    subst h1
    by_cases h2 : fr < xf
    case neg =>
      have e2 : decide (fr < xf) = false := decide_eq_false h2
      have HST := hid (piece_stay (dev := xd) Hx.out (fun h => h2 (by rw [← HFR.out]; exact h.2)))
      rw [HFR.out] at HST
      gi_wp2_with fail
      go_roundw
      case rel => exact ⟨j + 1, by omega, by go_num, by rw [HST.out.2], by rw [HST.out.1]; exact hJ _ wr _ none hJj (below_grown hBV) (fun r e => by cases e), hK.trans (Kz.of hBV (by omega))⟩
      case measure => first | (simp [intOf]; done) | (simp [intOf]; omega)
    have e2 : decide (fr < xf) = true := decide_eq_true h2
    have HST := hid (piece_next hnp hlj Hx.out rfl (by rw [HFR.out]; exact h2))
    rw [HFR.out] at HST
    obtain ⟨k, hk⟩ : ∃ k, (pcsJ l xd j).length = k := ⟨_, rfl⟩
    have hkl := pcsJ_len l xd j
    rw [hk] at hJj hkl HST
    have hkn : k < np := HST.out.2.1
    obtain ⟨fn, tmps, assign, body, hy, hR'⟩ := hY _ ⟨k, hkn⟩ (wr.alloc (.cells #[.int .i64 xd, .int .i64 xf, .int .i64 xk, .int .i64 xi, .int .i64 xo] 24)) (hJ _ wr _ none hJj (below_grown hBV) (fun r e => by cases e)) (Nat.lt_of_le_of_lt (fto_len _ _) (by omega))
    have hR := hR'.mono (R' := fun e W' => ∃ r : Bool, e = .returned (.bool r) ∧ (r = true → J (fto np k ++ [⟨k, hkn⟩]) W' ∧ Kz n₀ X 40 (wr.alloc (.cells #[.int .i64 xd, .int .i64 xf, .int .i64 xk, .int .i64 xi, .int .i64 xo] 24)) W') ∧ (r = false → Jx (fto np k ++ [⟨k, hkn⟩]) W')) (fun e W' h => by
      rcases h with ⟨h1, h2, h3⟩ | ⟨h1, h2⟩
      · exact ⟨true, h1, fun _ => ⟨h2, h3⟩, fun h => by cases h⟩
      · exact ⟨false, h1, fun h => (by cases h), fun _ => h2⟩)
    clear hR' hY
    dsimp only at hy
    rw [HST.out.2.2.1] at hy
    dsimp only at hy
    clear hk
    gi_wp2_with fail
    refine hR.mono ?_
    rintro e W3 ⟨r, rfl, h3, h4⟩
    cases r
    · gi_wp2
      refine bodyPost_ret (results_none rfl _ _ _) rfl ?_
      exact ⟨⟨_, rfl⟩, .inr ⟨_, trivial, h4 (by simp)⟩⟩
    · have hJ3 := (h3 (by simp)).1
      have hK3 := (h3 (by simp)).2
      have hh3 := hK3.keep _ _ _ _ hnX (by decide) hhp
      have z1 : W3.cell? ⟨wr.heap.size, 1, none⟩ = some (.int .i64 xf) := by simp [World.cell?, hh3]
      clear h3 h4 y0 y1 hhp ba0 hh3
      gi_wp2
      go_roundw
      case rel => exact ⟨j + 1, by omega, by go_num, by rw [HST.out.2.2.2], by rw [HST.out.1, fto_next hkn]; exact hJ3, (hK.trans (Kz.of hBV (by omega))).trans hK3⟩
      case measure => first | (simp [intOf]; done) | (simp [intOf]; omega)
theorem pieces_any (a : Option Addr) (n c : Nat) (dev : Int) (w : World) :
    Calls Try.prog 29 #[.slice a n c, .int .i64 dev] w fun e w' => e = .returned (.func (.func 38) #[] #[.pointer (some ⟨w.heap.size, 0, none⟩), .pointer (some ⟨w.heap.size + 1, 0, none⟩)]) ∧ w' = (w.alloc (.cells #[.slice a n c] 22)).alloc (.cells #[.int .i64 dev] 3) := by
  go_enter Try.func29, Try.ntmps29
  go_wp2
  go_ret
  exact ⟨rfl, rfl⟩
theorem piece_stops (n : Nat) (hn : 1 ≤ n) (Bm Bd n₀ : Nat) (l : List Rc) (nn : Nat) (hnn : l.length = nn) (h10 : nn ≤ 256) (a : Option Addr) (c : Nat) (dev : Int) (np : Nat) (hnp : (pcs l dev).length = np) (X : Nat → Prop) (w : World) (hn₀ : n₀ ≤ w.heap.size)
    (hm : Boxed w Bm 22 (.slice a nn c)) (hBm : ¬ X Bm) (hmd : Boxed w Bd 3 (.int .i64 dev)) (hBd : ¬ X Bd) (hX : ∀ b, X b → b < w.heap.size) (hra : ∀ W', Below n₀ w W' → Rd W' a (l.flatMap Rc.cs)) :
    SeqStopsK Fence.wide n Try.prog 38 #[.pointer (some ⟨Bm, 0, none⟩), .pointer (some ⟨Bd, 0, none⟩)] (fun x : Fin np => #[.int .i64 (pc l dev x.1).1, .int .i64 (pc l dev x.1).2]) (Kz n₀ X 40) (fun ys => ys = List.finRange np) (fun _ => True) 300 w := by
  intro lp J Jx W hW hJ _ hY h0
  have hs := hW.size
  exact piece1_in n hn lp Bm Bd n₀ l nn hnn h10 a c dev np hnp X J Jx hY W (by omega) hJ ((hW.block Bm (Array.getElem?_eq_some_iff.1 hm).1).trans hm) hBm ((hW.block Bd (Array.getElem?_eq_some_iff.1 hmd).1).trans hmd) hBd (fun b hb => Nat.lt_of_lt_of_le (hX b hb) hs) (fun W' h => hra W' ((hW.mono hn₀).trans h)) h0
end Go.Proofs.Ytdnjpfjiaomlgaa
