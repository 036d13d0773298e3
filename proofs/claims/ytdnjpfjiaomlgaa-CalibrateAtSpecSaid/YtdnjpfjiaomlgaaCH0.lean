/- Changed: words. -/
import Derived.Test.YtdnjpfjiaomlgaaC11
import Derived.Test.YtdnjpfjiaomlgaaCA
import Derived.Laws.StructEq
import Derived.IntWalk
namespace Go.Proofs.Ytdnjpfjiaomlgaa
open Go.RowKit Go.Shelf
open Go.Lib (hid)

attribute [local go_sem] Oper.semAt_some
theorem und34 : Try.prog.underlying 34 = some (.slice 40) := by kernel_rfl
theorem info40 : (Try.prog.info? 40).map (fun i => (i.zero, i.size, i.bytes)) = some (some (.agg #[.int .i64 0, .int .i64 0, .int .i64 0]), 3, 24) := by kernel_rfl
theorem mix55 : Try.prog.eqGuardType Try.prog.depth 55 = false := by kernel_rfl
theorem fld55 : Try.prog.underlying 55 = some (.struct (Try.prog.fieldsOf 55)) := by kernel_rfl
theorem sto55 : Try.prog.stoodInHeld 55 = false := by kernel_rfl
theorem lst55 : (Try.prog.fieldsOf 55).toList = [{ name := "in", type := 3, offset := 0, embedded := false, tag := "", pkgPath := "soundpost/calibrate", byteOffset := 0 }, { name := "out", type := 3, offset := 1, embedded := false, tag := "", pkgPath := "soundpost/calibrate", byteOffset := 8 }, { name := "ok", type := 4, offset := 2, embedded := false, tag := "", pkgPath := "soundpost/calibrate", byteOffset := 16 }] := by kernel_rfl
theorem eq55 (a b a' b' : Int) (c c' : Bool) (w : World) : (Op.equalIn 10000 55 (.agg #[.int .i64 a, .int .i64 b, .bool c]) (.agg #[.int .i64 a', .int .i64 b', .bool c'])).run Try.prog w = .ok (decide (a = a' ∧ b = b' ∧ c = c')) w := by
  show (Op.equalIn (9998 + 1 + 1) _ _ _).run _ _ = _
  rw [run_equalIn_agg w (9998 + 1) 55 _ _ fld55 sto55, lst55]
  simp [Op.eqFields, part, isAgg, run_underlying Try.underlying3, run_underlying Try.underlying4, go_sem]
  by_cases h1 : a = a' <;> by_cases h2 : b = b' <;> by_cases h3 : c = c' <;> simp [h1, h2, h3]
/-- The marks of the loops so far. -/
def mark (D : Nat) : Deferred := { target := .collected D, args := #[] }
theorem leave_marks {fn : Func} {tmps : Array Value} {R : Ending → World → Prop} {n B : Nat} : ∀ (Ds : List Nat) (w : World), Ds.Nodup → (∀ D ∈ Ds, B ≤ D ∧ w.heap[D]? = some (.deferred (some []))) → B ≤ w.heap.size →
    (∀ w', Below B w w' → (∀ (b : Nat) (cs : Array Value) (t : TypeId) (fr : Nat × Nat), w.heap[b]? = some (Obj.cells cs t fr) → w'.heap[b]? = some (Obj.cells cs t fr)) → ∃ v, (results fn tmps).run Try.prog w' = .ok v w' ∧ R (.returned v) w') → LeavesInM Fence.wide n Try.prog fn tmps R (Ds.map mark) .returning w := by
  intro Ds
  induction Ds with
  | nil =>
    intro w _ _ _ h
    exact h w (Below.refl _ _) (fun _ _ _ _ h => h)
  | cons D Ds ih =>
    intro w hn hD hB h
    obtain ⟨hBD, hK⟩ := hD D (by simp)
    have hn2 := List.nodup_cons.1 hn
    have hb : Below B w (w.putObj D (.deferred none)) := (Below.refl _ w).grown (grownBy_putObj' w D _) hB (fun k e => by cases e; exact hBD)
    refine ⟨by simp, .inl ⟨D, w.putObj D (.deferred none), rfl, run_takeDeferred hK, ?_⟩⟩
    refine ih _ hn2.2 (fun E hE => ?_) (by rw [show (w.putObj D (.deferred none)).heap.size = w.heap.size by simp [World.putObj]]; exact hB) (fun w' hb' hk => h w' (hb.trans hb') (fun b cs t fr ho => hk b cs t fr ?_))
    · obtain ⟨h1, h2⟩ := hD E (by simp [hE])
      refine ⟨h1, ?_⟩
      rw [World.putObj_heap_other (fun e => hn2.1 (by rw [← e]; exact hE))]
      exact h2
    · rw [World.putObj_heap_other (fun e => by rw [e, hK] at ho; cases ho)]
      exact ho
/-- The spans behind some pieces. -/
def cgO (l : List Rc) (k1 k2 dev : Int) (out0 : List Sp) {np : Nat} (pre : List (Fin np)) : List Sp := pre.foldl (fun out i => pieceR l k1 k2 out dev (pc l dev i.1).1 (pc l dev i.1).2) out0
theorem cgO_snoc (l : List Rc) (k1 k2 dev : Int) (out0 : List Sp) {np : Nat} (pre : List (Fin np)) (x : Fin np) : cgO l k1 k2 dev out0 (pre ++ [x]) = pieceR l k1 k2 (cgO l k1 k2 dev out0 pre) dev (pc l dev x.1).1 (pc l dev x.1).2 := by
  unfold cgO; rw [List.foldl_append]; rfl
theorem cgO_fto (l : List Rc) (k1 k2 dev : Int) (out0 : List Sp) (np : Nat) (hnp : (pcs l dev).length = np) (j : Nat) (hj : j ≤ np) : cgO l k1 k2 dev out0 (fto np j) = fld l k1 k2 dev out0 j := by
  induction j with
  | zero => unfold fto; rfl
  | succ j ih => rw [fto_next (by omega), cgO_snoc, fld_next l k1 k2 dev out0 (by omega), ih (by omega)]
theorem cgO_all (l : List Rc) (k1 k2 dev : Int) (out0 : List Sp) (np : Nat) (hnp : (pcs l dev).length = np) : cgO l k1 k2 dev out0 (List.finRange np) = chgD l k1 k2 dev out0 := by
  rw [← fto_all, cgO_fto l k1 k2 dev out0 np hnp np (Nat.le_refl _), ← hnp, fld_all]
theorem cgO_len (l : List Rc) (k1 k2 dev : Int) (out0 : List Sp) {np : Nat} (pre : List (Fin np)) : (cgO l k1 k2 dev out0 pre).length ≤ out0.length + pre.length := by
  unfold cgO
  induction pre generalizing out0 with
  | nil => simp
  | cons x pre ih =>
    rw [List.foldl_cons, List.length_cons]
    have h1 := ih (pieceR l k1 k2 out0 dev (pc l dev x.1).1 (pc l dev x.1).2)
    have h2 := pieceR_len l k1 k2 out0 dev (pc l dev x.1).1 (pc l dev x.1).2
    omega
theorem boxed_kept {A C : World} {b : Nat} {t : TypeId} {v : Value} {row : Option Nat} (h : Boxed A b t v) (hg : A.grownBy C row) (hr : ∀ r, row = some r → ∃ o : Obj, A.heap[r]? = some o ∧ o.isCells = false) : Boxed C b t v :=
  h.kept hg (fun e => by
    obtain ⟨o, ho, hc⟩ := hr b e.symm
    rw [show A.heap[b]? = _ from h] at ho
    cases ho
    cases hc)
theorem row_kept {A C : World} {base : Nat} {e : TypeId} {size n : Nat} {v : Value} {xs : List Value} {row : Option Nat} (h : A.ownsRow base e size v n xs) (hg : A.grownBy C row) (hr : ∀ r, row = some r → ∃ o : Obj, A.heap[r]? = some o ∧ o.isCells = false) : C.ownsRow base e size v n xs := by
  refine h.kept hg ?_
  rcases h.2 with ⟨rfl, _⟩ | ⟨g, cap, cur, rfl, _, hgb, _⟩
  · exact .inl rfl
  · refine .inr fun e' => ?_
    obtain ⟨o, ho, hc⟩ := hr g (by simpa [Value.ownBlock] using e'.symm)
    rw [hgb] at ho
    cases ho
    cases hc
theorem bx_after {A C : World} {b : Nat} {t : TypeId} {v : Value} (h : Boxed A b t v) (hB : Below A.heap.size A C) : Boxed C b t v := (hB.block b h.lt).trans h
theorem bx_other {A : World} {b g : Nat} {t : TypeId} {v u : Value} {o : Nat} (h : Boxed A b t v) (hne : b ≠ g) : Boxed (A.setCell ⟨g, o, none⟩ u) b t v := (Below.heap_setCell A ⟨g, o, none⟩ u b hne).trans h
/-- What holds between two pieces. -/
def CgI (l : List Rc) (k1 k2 : Int) (a : Option Addr) (nn c : Nat) (dev : Int) (Bd Bl : Nat) (w : World) (Ds : List Nat) (out0 : List Sp) {np : Nat} (pre : List (Fin np)) (W : World) : Prop :=
  ∃ v lst, Boxed W w.heap.size 22 (.slice a nn c) ∧ Boxed W (w.heap.size + 1) 3 (.int .i64 k1) ∧ Boxed W (w.heap.size + 2) 3 (.int .i64 k2) ∧ Boxed W Bd 3 (.int .i64 dev) ∧ Boxed W Bl 3 (.int .i64 lst) ∧ Boxed W (w.heap.size + 3) 34 v ∧
    W.ownsRow w.heap.size 40 3 v (cgO l k1 k2 dev out0 pre).length ((cgO l k1 k2 dev out0 pre).flatMap Sp.cs) ∧ Hid (LstIs (cgO l k1 k2 dev out0 pre) dev lst) ∧ Below w.heap.size w W ∧ (∀ D ∈ Ds, W.heap[D]? = some (.deferred (some [])))
theorem CgI.own {l : List Rc} {k1 k2 : Int} {a : Option Addr} {nn c : Nat} {dev : Int} {Bd Bl : Nat} {w : World} {Ds : List Nat} {out0 : List Sp} {np B : Nat} (hB : w.heap.size ≤ B) (hD : ∀ D ∈ Ds, D < B) : OwnFrom B (CgI l k1 k2 a nn c dev Bd Bl w Ds out0 (np := np)) := by
  intro s A C row ⟨v, lst, h0, h1, h2, h3, h4, h5, h6, h7, h8, h9⟩ hg hr
  have hr' : ∀ r, row = some r → ∃ o : Obj, A.heap[r]? = some o ∧ o.isCells = false := fun r e => (hr r e).2
  exact ⟨v, lst, boxed_kept h0 hg hr', boxed_kept h1 hg hr', boxed_kept h2 hg hr', boxed_kept h3 hg hr', boxed_kept h4 hg hr', boxed_kept h5 hg hr', row_kept h6 hg hr', h7, h8.grown hg h8.size (fun k e => Nat.le_trans hB (hr k e).1),
    fun D hd => (hg.block D (Array.getElem?_eq_some_iff.1 (h9 D hd)).1 (fun e => by have := (hr D e.symm).1; have := hD D hd; omega)).trans (h9 D hd)⟩
/-- What holds between two devices. -/
def ChI (l : List Rc) (k1 k2 : Int) (a : Option Addr) (nn c : Nat) (w : World) (Ds : List Nat) (j : Nat) (W : World) : Prop :=
  ∃ v, Boxed W w.heap.size 22 (.slice a nn c) ∧ Boxed W (w.heap.size + 1) 3 (.int .i64 k1) ∧ Boxed W (w.heap.size + 2) 3 (.int .i64 k2) ∧ Boxed W (w.heap.size + 3) 34 v ∧
    W.ownsRow w.heap.size 40 3 v (chgN l k1 k2 j).length ((chgN l k1 k2 j).flatMap Sp.cs) ∧ Below w.heap.size w W ∧ Ds.Nodup ∧ (∀ D ∈ Ds, w.heap.size ≤ D ∧ D < W.heap.size ∧ W.heap[D]? = some (.deferred (some [])))
theorem chE_bad2 {l : List Rc} {k1 k2 mn mx : Int} (h : chkR l = 0) (h1 : (if k2 < k1 then k2 else k1) = mn) (h2 : (if k1 < k2 then k2 else k1) = mx) (hb : mn < 0 ∨ 16777216 < mx) : chE l k1 k2 = 1 := chE_arg h (by
  split at h1 <;> split at h2 <;> omega)
theorem chE_ok2 {l : List Rc} {k1 k2 mn mx : Int} (h : chkR l = 0) (h1 : (if k2 < k1 then k2 else k1) = mn) (h2 : (if k1 < k2 then k2 else k1) = mx) (ha : ¬ mn < 0) (hb : ¬ 16777216 < mx) : chE l k1 k2 = 0 := chE_ok h (by
  split at h1 <;> split at h2 <;> omega)
end Go.Proofs.Ytdnjpfjiaomlgaa
