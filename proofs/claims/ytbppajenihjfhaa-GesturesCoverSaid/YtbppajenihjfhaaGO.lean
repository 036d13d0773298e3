/- Gestures: made. -/
import Derived.Test.YtbppajenihjfhaaGN
import Derived.Test.YtbppajenihjfhaaCB
import Derived.IntWalk
namespace Go.Proofs.Ytbppajenihjfhaa
open Go.RowKit Go.Shelf
open Go.Lib (hid)

/-- No operation defers. -/
def noDefer (ops : Array Oper) : Bool := ops.all fun o => match o.op with | .defer _ => false | _ => true
theorem noDefer_spec {ops : Array Oper} (h : noDefer ops = true) {j : Nat} {o : Oper} (hj : ops[j]? = some o) : ∀ c, o.op ≠ .defer c := by
  intro c hc
  obtain ⟨hlt, rfl⟩ := Array.getElem?_eq_some_iff.1 hj
  have h2 := Array.all_eq_true.1 h j hlt
  rw [hc] at h2
  cases h2
theorem wpIn_round {F : Fence} {n : Nat} {P : Program} {o : Oper} {a : Act} {w : World} {K : Act → World → Prop} {Q : Exit → Act → World → Prop} (lp : Nat) (hro : F.round = none) (hno : ∀ c, o.op ≠ .defer c) (h : o.wpIn F n P a w K Q) : o.wpIn (F.inRound lp) n P a w K Q := by
  have h2 := h.2
  rw [hro, Oper.semAt_none] at h2
  refine ⟨h.1, ?_⟩
  rw [Oper.semAt_eq _ _ _ hno]
  exact h2
theorem wpAnyIn_round {F : Fence} {n : Nat} {P : Program} {md : Region.Mode} {ops : Array Oper} {Q : Exit → Act → World → Prop} (lp : Nat) (hro : F.round = none) (hno : noDefer ops = true) : ∀ (k : Nat) (listed : Array Bool) (a : Act) (w : World),
    wpAnyIn F n P md ops Q k listed a w → wpAnyIn (F.inRound lp) n P md ops Q k listed a w := by
  intro k
  induction k with
  | zero => intro listed a w h; exact h
  | succ k ih =>
    intro listed a w h
    refine ⟨h.1, fun i hi => ?_⟩
    have h2 := wpOpIn_mono (fun a w => ih _ a w) (h.2 i hi)
    revert h2
    unfold wpOpIn
    split
    · exact id
    · rename_i o ho
      split
      · exact wpIn_round lp hro (noDefer_spec hno ho)
      · exact id
/-- A region that draws its order, in a round. -/
theorem wpIn_region_round {F : Fence} {n : Nat} {P : Program} {ops : Array Oper} {Q : Exit → Act → World → Prop} {id lp : Nat} {a : Act} {w : World} (hro : F.round = none) (hno : noDefer ops = true) (hm : P.follows .mixedOrders = true)
    (h : wpAnyIn F n P .any ops Q ops.size (Array.replicate ops.size false) a w.drew) : (Code.region id ops true).wpIn (F.inRound lp) n P Q a w :=
  wpIn_region_any hm (wpAnyIn_round lp hro hno _ _ _ _ h)
theorem und97 : Try.prog.underlying 97 = some (.array 4 96) := by kernel_rfl
theorem idx97_1 (w : World) : (Instr.index 97 (.agg #[.nilFunc, .func (.func 100) #[] #[], .func (.func 101) #[] #[], .func (.func 102) #[] #[]]) (.int .i64 1)).run Try.prog w = .ok (.func (.func 100) #[] #[]) w := by
  simp [Instr.index, run_underlying und97, asIntOf, go_sem, part, isAgg]
theorem idx97_2 (w : World) : (Instr.index 97 (.agg #[.nilFunc, .func (.func 100) #[] #[], .func (.func 101) #[] #[], .func (.func 102) #[] #[]]) (.int .i64 2)).run Try.prog w = .ok (.func (.func 101) #[] #[]) w := by
  simp [Instr.index, run_underlying und97, asIntOf, go_sem, part, isAgg]
theorem idx97_3 (w : World) : (Instr.index 97 (.agg #[.nilFunc, .func (.func 100) #[] #[], .func (.func 101) #[] #[], .func (.func 102) #[] #[]]) (.int .i64 3)).run Try.prog w = .ok (.func (.func 102) #[] #[]) w := by
  simp [Instr.index, run_underlying und97, asIntOf, go_sem, part, isAgg]
attribute [local go_sem] idx97_1 idx97_2 idx97_3
attribute [local go_sem] Oper.semAt_some
/-- What a gesture that reaches a sample makes of a value. -/
def ownV (v : Int) (g : Ge) (at_ : Int) : Int := if g.m = 3 then clipT (v + kvV g.l (if at_ < g.t - 1 then at_ else g.t - 1)) else kvV g.l (if at_ < g.t - 1 then at_ else g.t - 1)
theorem madeV_own {v : Int} {g : Ge} {at_ : Int} (h : gHas g at_ = true) : madeV v g at_ = ownV v g at_ := by
  have := (gHas_iff g at_).1 h
  unfold madeV ownV
  rw [if_neg (by omega)]
def accG (v0 : Int) (l : List Ge) (at_ : Int) {nn : Nat} (pre : List (Fin nn)) : Int := pre.foldl (fun v i => ownV v (ge l i.1) at_) v0
theorem accG_snoc (v0 : Int) (l : List Ge) (at_ : Int) {nn : Nat} (pre : List (Fin nn)) (x : Fin nn) : accG v0 l at_ (pre ++ [x]) = ownV (accG v0 l at_ pre) (ge l x.1) at_ := by
  unfold accG; rw [List.foldl_append]; rfl
theorem accG_fto (v0 : Int) (l : List Ge) (at_ : Int) (nn : Nat) (hn : l.length = nn) (j : Nat) (hj : j ≤ nn) : accG v0 l at_ (ftg l at_ nn j) = allJ v0 l at_ j := by
  induction j with
  | zero => unfold ftg fto; rfl
  | succ j ih =>
    rw [fg_next (by omega), allJ_next v0 at_ (by omega)]
    cases hh : gHas (ge l j) at_
    · rw [if_neg (by decide), ih (by omega), madeV_far hh]
    · rw [if_pos rfl, accG_snoc, ih (by omega), madeV_own hh]
theorem ownV_rng (v : Int) (g : Ge) (at_ : Int) : R64 (ownV v g at_) := by
  unfold R64 ownV
  split
  · have := clip_rng (v + kvV g.l (if at_ < g.t - 1 then at_ else g.t - 1)); omega
  · have := kvV_rng g.l (if at_ < g.t - 1 then at_ else g.t - 1); omega
theorem Kx.set {n₀ : Nat} {X : Nat → Prop} {W W' : World} (h : Kx n₀ X W W') {b o : Nat} (hb : n₀ ≤ b) (hX : X b) (v : Value) : Kx n₀ X W (W'.setCell ⟨b, o, none⟩ v) :=
  ⟨h.below.setCell (p := ⟨b, o, none⟩) hb _, by simp; exact h.size, fun b' ob hb' hob hc => by
    rw [Below.heap_setCell W' ⟨b, o, none⟩ _ b' (fun e => hb' (by have e2 : b' = b := e; rw [e2]; exact hX))]
    exact h.keep b' ob hb' hob hc⟩
theorem reach_stops (n : Nat) (hn : 1 ≤ n) (Bm Ba n₀ : Nat) (l : List Ge) (nn : Nat) (hnn : l.length = nn) (h10 : nn ≤ 64) (a : Option Addr) (c : Nat) (at_ : Int) (X : Nat → Prop) (w : World) (hn₀ : n₀ ≤ w.heap.size)
    (hm : w.cell? ⟨Bm, 0, none⟩ = some (.slice a nn c)) (hBm : ¬ X Bm) (hma : w.cell? ⟨Ba, 0, none⟩ = some (.int .i64 at_)) (hBa : ¬ X Ba) (hX : ∀ b, X b → b < w.heap.size) (hra : ∀ W', Below n₀ w W' → Rd W' a (l.flatMap Ge.cs)) :
    SeqStopsK Fence.wide n Try.prog 99 #[.pointer (some ⟨Bm, 0, none⟩), .pointer (some ⟨Ba, 0, none⟩)] (fun x : Fin nn => #[(ge l x.1).v']) (Kx n₀ X) (fun ys => ys = ftg l at_ nn nn) (fun _ => True) 100 w := by
  intro lp J Jx W hW hJ _ hY h0
  have hs := hW.size
  exact reach1_in n hn lp Bm Ba n₀ l nn hnn h10 a c at_ X J Jx hY W (by omega) hJ ((hW.cell (p := ⟨Bm, 0, none⟩) (cell_lt hm)).trans hm) hBm ((hW.cell (p := ⟨Ba, 0, none⟩) (cell_lt hma)).trans hma) hBa (fun b hb => Nat.lt_of_lt_of_le (hX b hb) hs) (fun W' h => hra W' ((hW.mono hn₀).trans h)) h0
/-- What holds between two rounds. -/
def MkI (w : World) (nn : Nat) (l : List Ge) (v0 at_ : Int) (pre : List (Fin nn)) (W : World) : Prop :=
  ∃ v : Int, W.cell? ⟨w.heap.size, 0, none⟩ = some (.int .i64 v) ∧ W.frozen? ⟨w.heap.size, 0, none⟩ = false ∧ W.cell? ⟨w.heap.size + 1, 0, none⟩ = some (.int .i64 at_) ∧ Below w.heap.size w W ∧ v = accG v0 l at_ pre ∧ R64 v
theorem MkI.own {w : World} {nn : Nat} {l : List Ge} {v0 at_ : Int} {B : Nat} (hB : w.heap.size ≤ B) : OwnFrom B (MkI w nn l v0 at_) := by
  intro s A C row ⟨v, h0, f0, h1, hb, h2, h3⟩ hg hr
  have hr' : ∀ r, row = some r → ∃ o : Obj, A.heap[r]? = some o ∧ o.isCells = false := fun r e => (hr r e).2
  exact ⟨v, cell_kept h0 hg hr', (frozen_kept h0 hg hr').trans f0, cell_kept h1 hg hr', hb.grown hg hb.size (fun k e => Nat.le_trans hB (hr k e).1), h2, h3⟩
set_option maxRecDepth 100000 in
set_option maxHeartbeats 4000000 in
theorem made_any (l : List Ge) (nn : Nat) (hnn : l.length = nn) (a : Option Addr) (c : Nat) (v0 at_ : Int) (hv : R64 v0) (w : World) (_hn : nn ≤ 9223372036854775807) (hr : Ges w a l) (hc : chkG l = 0) :
    Calls Try.prog 58 #[.int .i64 v0, .slice a nn c, .int .i64 at_] w fun e w' => e = .returned (.int .i64 (allV v0 l at_)) ∧ Below w.heap.size w w' := by
  have h64 := ges_len hc
  rw [hnn] at h64
  have HN := hid hnn; have HR := hid (after_ges hr); have HRD := hid (fun v : After w => (HR.out v).rd)
  clear hnn hr
  have HC := hid hc; have HV := hid hv
  clear hc hv
  refine (callsIn_wide (n := 10)).1 ?_
  refine callsIn_of_wp_marks Try.func58 rfl trivial ?_ rfl
  simp only [Try.ntmps58, List.size_toArray, List.length_cons, List.length_nil, Nat.reduceAdd, Nat.reduceSub, Array.replicate_succ, Array.replicate_zero, List.push_toArray, List.append_toArray, List.nil_append, List.cons_append]
  gi_wp2_with fail
  obtain ⟨V, hV⟩ : ∃ V, V = ((w.alloc (.cells #[.int .i64 v0] 3)).alloc (.cells #[.int .i64 at_] 3)) := ⟨_, rfl⟩
  have t0 : ∀ v : After V, v.w.cell? ⟨w.heap.size, 0, none⟩ = some (.int .i64 v0) := after_cell (by rw [hV]; first | (simp; done) | omega | (simp; omega)) (by rw [hV]; (repeat (first | with_reducible assumption | exact bn (by first | (simp; done) | omega | (simp; omega)) rfl | refine bo (by first | (simp; done) | omega | (simp; omega)) ?_)))
  have ft0 : ∀ v : After V, v.w.frozen? ⟨w.heap.size, 0, none⟩ = false := after_frozen (by rw [hV]; first | (simp; done) | omega | (simp; omega)) (by rw [hV]; (repeat (first | exact fn (by first | (simp; done) | omega | (simp; omega)) | refine fo (by first | (simp; done) | omega | (simp; omega)) ?_)))
  have zt : ∀ v : After V, w.heap.size < v.w.heap.size := after_size (by rw [hV]; first | (simp; done) | omega | (simp; omega))
  have r0 : ∀ v : After V, v.w.cell? ⟨w.heap.size + 1, 0, none⟩ = some (.int .i64 at_) := after_cell (by rw [hV]; first | (simp; done) | omega | (simp; omega)) (by rw [hV]; (repeat (first | with_reducible assumption | exact bn (by first | (simp; done) | omega | (simp; omega)) rfl | refine bo (by first | (simp; done) | omega | (simp; omega)) ?_)))
  have fr0 : ∀ v : After V, v.w.frozen? ⟨w.heap.size + 1, 0, none⟩ = false := after_frozen (by rw [hV]; first | (simp; done) | omega | (simp; omega)) (by rw [hV]; (repeat (first | exact fn (by first | (simp; done) | omega | (simp; omega)) | refine fo (by first | (simp; done) | omega | (simp; omega)) ?_)))
  have zr : ∀ v : After V, w.heap.size + 1 < v.w.heap.size := after_size (by rw [hV]; first | (simp; done) | omega | (simp; omega))
  have hwV : Below w.heap.size w V := by rw [hV]; exact (by repeat (first | exact Below.refl _ _ | assumption | refine b_then ?_ (by assumption) | refine b_alloc ?_ _ | refine b_drewN ?_ _ | refine b_drew ?_ | refine b_set ?_ (by omega) _ | refine b_set ?_ (by simp) _))
  have WV := hid (after_below hwV)
  rw [← hV]
  obtain ⟨u0, hu⟩ : ∃ u : After V, u.w = V := ⟨After.here V, rfl⟩
  rw [← hu]
  clear hu hV
  refine ⟨trivial, ?_⟩
  refine (callsIn_wide.2 (reaching_any a nn c at_ _)).mono ?_
  rintro e w5 ⟨rfl, hw5⟩
  have k0 : w5.cell? ⟨u0.w.heap.size, 0, none⟩ = some (.slice a nn c) := by rw [hw5]; exact bo (by simp) (bn rfl rfl)
  have k1 : w5.cell? ⟨u0.w.heap.size + 1, 0, none⟩ = some (.int .i64 at_) := by rw [hw5]; exact bn (by simp) rfl
  have hsz5 : w5.heap.size = u0.w.heap.size + 2 := by rw [hw5]; simp
  have hB5 : Below u0.w.heap.size u0.w w5 := by rw [hw5]; exact b_alloc (b_alloc (Below.refl _ _) _) _
  have hzr := zr u0
  obtain ⟨v5, rfl⟩ : ∃ v5 : After V, w5 = v5.w := ⟨u0.on hB5, rfl⟩
  clear hw5 hB5
  have hI0 : MkI w nn l v0 at_ [] v5.w := ⟨v0, t0 v5, ft0 v5, r0 v5, WV.out v5, rfl, HV.out⟩
  gi_wp2_with fail
  refine wpIn_rangeFunc_ownH rfl (by omega) (gf := 99) (lb := #[.pointer (some ⟨u0.w.heap.size, 0, none⟩), .pointer (some ⟨u0.w.heap.size + 1, 0, none⟩)]) rfl trivial (enters_of Try.func99 (by kernel_rfl) rfl)
    (reach_stops _ (by omega) u0.w.heap.size (u0.w.heap.size + 1) w.heap.size l nn HN.out h64 a c at_ (fun b => b = w.heap.size) v5.w (by omega) k0 (by omega) k1 (by omega) (fun b h => by omega) (fun W' h => (HR.out (After.to ((WV.out v5).trans h))).rd))
    (fun h k => h.trans k) ?hKb (Below.refl _ _) (fun _ => rfl)
    (MkI w nn l v0 at_) (fun _ _ _ => False) (MkI.own (by omega)) (fun cd s A C row hs _ _ => hs) hI0
    (fun x a' W => ∃ Bx, (∀ o u, ((ge l x.1).cs)[o]? = some u → W.cell? ⟨Bx, o, none⟩ = some u) ∧ a' = { tmps := #[.int .i64 v0, .slice a nn c, .int .i64 at_, .pointer (some ⟨w.heap.size, 0, none⟩), undef, .pointer (some ⟨w.heap.size + 1, 0, none⟩), .int .i64 0, .pointer (some ⟨Bx, 0, none⟩), undef, undef, .slice a nn c, .int .i64 at_, .func (.func 99) #[] #[.pointer (some ⟨u0.w.heap.size, 0, none⟩), .pointer (some ⟨u0.w.heap.size + 1, 0, none⟩)], .agg #[.int .i64 (ge l x.1).m, .int .i64 (ge l x.1).f, .int .i64 (ge l x.1).t, .int .i64 (ge l x.1).e, .slice (ge l x.1).a (ge l x.1).n (ge l x.1).c], undef, undef, undef, undef, undef, undef, undef, undef, undef, undef, undef, undef, undef, undef, undef, undef, undef, undef, undef], defers := [] })
    (fun x a' _ X Z row hs hg hr => by obtain ⟨Bx, h1, h2⟩ := hs; exact ⟨Bx, fun o u h => cell_kept (h1 o u h) hg (fun r e => (hr r e).2), h2⟩)
    ?assign ?body ?done ?stop
  case hKb =>
    intro W l o o' hl h h1 _
    have hlt := (Array.getElem?_eq_some_iff.1 h).1
    refine ⟨(Below.refl _ W).grown (grownBy_putObj' W l o') (by omega) (fun k e => by cases e; omega), by simp [World.putObj], fun b ob hb hob hc => ?_⟩
    have hne : b ≠ l := fun e => by
      subst e
      rw [h] at hob
      cases hob
      rw [h1] at hc
      cases hc
    rw [World.putObj_heap_other hne]
    exact hob
  case assign =>
    rintro lp pre x W K hi hK
    simp only [Ge.v']
    gi_wp2
    exact hK _ _ ((KeepsOthers.alloc _ _).from _) (Kx.of (b_alloc (Below.refl _ _) _) (by obtain ⟨_, _, _, _, hb, _⟩ := hi; exact hb.size)) (MkI.own (Nat.le_refl _) _ W _ none hi (World.grownBy_alloc W _ none) (fun r e => by cases e)) ⟨W.heap.size, fun o u h => bn rfl (by simpa [Ge.cs] using h), rfl⟩
  case body =>
    rintro lp pre x a' W hl ⟨r, hr⟩ ⟨v, h0, f0, h1, hb, h2, h3⟩ ⟨Bx, hx, rfl⟩ hlt
    have hs := hb.size
    have hB4 := cell_lt h0
    have c0 := hx 0 _ rfl
    have c2 := hx 2 _ rfl
    have c4 := hx 4 _ rfl
    clear hx
    have hlx : x.1 < l.length := by rw [HN.out]; exact x.2
    have hat := (HR.out (After.to hb)).at_ x.1 hlx
    have hok := geB_ok (ges_at HC.out hlx)
    have HNX : ∀ y : Int, y = ownV v (ge l x.1) at_ → y = accG v0 l at_ (pre ++ [x]) := fun y hy => by rw [accG_snoc, ← h2, hy]
    obtain ⟨⟨gm, gf, gt, ge', ga, gn, gc, gl⟩, hg⟩ : ∃ t, ge l x.1 = t := ⟨_, rfl⟩
    rw [hg] at c0 c2 c4 hat hok HNX ⊢
    dsimp only at c0 c2 c4 hat hok ⊢
    clear hg
    have HAT := hid hat
    obtain ⟨o0, o1, o2, o3, o4⟩ := hok
    dsimp only at o0 o1 o2 o3 o4
    have hBx := cell_lt c0
    obtain ⟨T1, hT1⟩ : ∃ y, gt - 1 = y := ⟨_, rfl⟩
    obtain ⟨q, hq⟩ : ∃ q, (if at_ < gt - 1 then at_ else gt - 1) = q := ⟨_, rfl⟩
    have hmn : (if T1 < at_ then T1 else at_) = q := by rw [← hq, hT1]; split <;> split <;> omega
    have hwr : IntKind.i64.wrap T1 = T1 := IntWalk.i64_in _ (by omega)
    have hxr : R64 (kvV gl q) := by have := kvV_rng gl q; unfold R64; omega
    have HOV : ∀ y : Int, (y = if gm = 3 then clipT (v + kvV gl q) else kvV gl q) → y = ownV v ⟨gm, gf, gt, ge', ga, gn, gc, gl⟩ at_ := fun y hy => by
      unfold ownV; dsimp only; rw [hq]; exact hy
    have hT0 : KeepsOthers W W := KeepsOthers.refl W
    have HVR := hid h3
    have HNX := hid HNX; have HOV := hid HOV
    clear hq hat h2 h3
    gi_wp2_with fail
    refine ⟨trivial, ?_⟩
    refine (callsIn_wide.2 (Value_any gl gn HAT.out.len ga gc q W HAT.out.le HAT.out.rd)).mono ?_
    rintro e w6 ⟨rfl, hB6⟩
    have HXR := hid hxr
    clear hxr hmn hwr hT1 c2 c4
    obtain ⟨X, hX⟩ : ∃ X, kvV gl q = X := ⟨_, rfl⟩
    rw [hX] at HXR HOV ⊢
    obtain ⟨K9, hK9⟩ : ∃ y, chkK gl = y := ⟨_, rfl⟩
    rw [hK9]
    clear hK9 hX
    have hwW : Below w.heap.size w w6 := b_then hb hB6
    have hT := hT0.trans (KeepsOthers.of_grownBy (below_grown hB6) (fun j o ej hj => by cases ej))
    have hKx := (Kx.refl w.heap.size (fun b => b = w.heap.size) W).trans (Kx.of hB6 hs)
    have hwW0 : w.heap.size ≤ w6.heap.size := hwW.size
    have g1 := bb hB6 (cell_lt h1) h1
    replace h0 := bb hB6 hB4 h0
    replace f0 := fb hB6 hB4 f0
    replace c0 := bb hB6 hBx c0
    replace hB4 := Nat.lt_of_lt_of_le hB4 hB6.size
    replace hBx := Nat.lt_of_lt_of_le hBx hB6.size
    clear hT0
    have hBd : Below w6.heap.size w6 w6.drew := (Below.refl _ _).drew
    replace h0 := bb hBd (cell_lt h0) h0
    replace f0 := fb hBd hB4 f0
    replace c0 := bb hBd (cell_lt c0) c0
    replace g1 := bb hBd (cell_lt g1) g1
    replace hwW := b_then hwW hBd
    replace hT := hT.trans (KeepsOthers.of_grownBy (below_grown hBd) (fun j o ej hj => by cases ej))
    replace hKx := hKx.trans (Kx.of (X := fun b => b = w.heap.size) hBd hwW0)
    replace hwW0 := Nat.le_trans hwW0 hBd.size
    replace hB4 := Nat.lt_of_lt_of_le hB4 hBd.size
    by_cases m1 : gm = 1
    · subst m1
      have HNEW := hid (HNX.out X (HOV.out X (by simp)))
      have HRN := hid (show R64 X from HXR.out)
      gi_wp2_with fail
      refine wpIn_region_round (F := Fence.wide) rfl (by kernel_rfl) (by kernel_rfl) ?_
      simp only [List.size_toArray, List.length_cons, List.length_nil, Nat.reduceAdd, Array.replicate_succ, Array.replicate_zero, List.push_toArray, List.nil_append, List.cons_append]
      generalize World.drew w6 = wd at h0 f0 c0 g1 hwW hT hKx hwW0 hB4 ⊢
      refine wpAnyIn_take (i := 1) (v := ?_) rfl rfl (by kernel_rfl) (by kernel_rfl) (by kernel_rfl) (fun _ _ _ h => h) ⟨Or.inl ⟨by rfl, fun w => ?_⟩, fun _ => rfl⟩ ?_
      rotate_left
      · (go_simp; try with_reducible rfl)
      try simp only [Act.put, List.setIfInBounds_toArray, List.set_cons_zero, List.set_cons_succ]
      refine wpAnyIn_take (i := 5) (v := ?_) rfl rfl (by kernel_rfl) (by kernel_rfl) (by kernel_rfl) (fun _ _ _ h => h) ⟨Or.inl ⟨by rfl, fun w => ?_⟩, fun _ => rfl⟩ ?_
      rotate_left
      · (go_simp; try with_reducible rfl)
      try simp only [Act.put, List.setIfInBounds_toArray, List.set_cons_zero, List.set_cons_succ]
      refine wpAnyIn_ready (rs := [0, 2, 4]) (by kernel_rfl) (by simp) ?_
      refine AllReadyIn.cons rfl (fun K hK => ?_) (AllReadyIn.cons rfl (fun K hK => ?_) (AllReadyIn.cons rfl (fun K hK => ?_) (AllReadyIn.nil)))
      · skip
        go_simp
        first | refine ⟨trivial, ?_⟩ | skip
        refine (callsIn_wide.2 (modes_any _)).mono ?_
        rintro e w7 ⟨rfl, hB7⟩
        have h0 := bb hB7 (cell_lt h0) h0
        have f0 := fb hB7 hB4 f0
        have c0 := bb hB7 (cell_lt c0) c0
        have g1 := bb hB7 (cell_lt g1) g1
        have hwW := b_then hwW hB7
        have hT := hT.trans (KeepsOthers.of_grownBy (below_grown hB7) (fun j o ej hj => by cases ej))
        have hKx := hKx.trans (Kx.of (X := fun b => b = w.heap.size) hB7 hwW0)
        have hwW0 := Nat.le_trans hwW0 hB7.size
        have hB4 := Nat.lt_of_lt_of_le hB4 hB7.size
        unfold modesV
        refine hK _ _ ?_
        clear hK K
        try simp only [List.setIfInBounds_toArray, List.set_cons_zero]
        refine wpAnyIn_ready (rs := [2, 4]) (by kernel_rfl) (by simp) ?_
        refine AllReadyIn.cons rfl (fun K hK => ?_) (AllReadyIn.cons rfl (fun K hK => ?_) (AllReadyIn.nil))
        · skip
          go_simp
          refine hK _ _ ?_
          clear hK K
          try simp only [List.setIfInBounds_toArray, List.set_cons_zero, List.set_cons_succ]
          refine wpAnyIn_take (i := 3) (v := ?_) rfl rfl (by kernel_rfl) (by kernel_rfl) (by kernel_rfl) (fun _ _ _ h => h) ⟨Or.inl ⟨by rfl, fun w => ?_⟩, fun _ => rfl⟩ ?_
          rotate_left
          · (go_simp; try with_reducible rfl)
          try simp only [Act.put, List.setIfInBounds_toArray, List.set_cons_zero, List.set_cons_succ]
          refine wpAnyIn_ready (rs := [4]) (by kernel_rfl) (by simp) ?_
          refine AllReadyIn.cons rfl (fun K hK => ?_) AllReadyIn.nil
          go_simp
          refine hK _ _ ?_
          clear hK K
          try simp only [List.setIfInBounds_toArray, List.set_cons_zero, List.set_cons_succ]
          refine wpAnyIn_ready (rs := [6]) (by kernel_rfl) (by simp) ?_
          refine AllReadyIn.cons rfl (fun K hK => ?_) AllReadyIn.nil
          go_simp
          first | refine ⟨trivial, ?_⟩ | skip
          refine (callsIn_wide.2 (mode1_any v X _)).mono ?_
          rintro e w8 ⟨rfl, hB8⟩
          have h0 := bb hB8 (cell_lt h0) h0
          have f0 := fb hB8 hB4 f0
          have c0 := bb hB8 (cell_lt c0) c0
          have g1 := bb hB8 (cell_lt g1) g1
          have hwW := b_then hwW hB8
          have hT := hT.trans (KeepsOthers.of_grownBy (below_grown hB8) (fun j o ej hj => by cases ej))
          have hKx := hKx.trans (Kx.of (X := fun b => b = w.heap.size) hB8 hwW0)
          have hwW0 := Nat.le_trans hwW0 hB8.size
          have hB4 := Nat.lt_of_lt_of_le hB4 hB8.size
          refine hK _ _ ?_
          clear hK K
          try simp only [List.setIfInBounds_toArray, List.set_cons_zero, List.set_cons_succ]
          refine wpAnyIn_ready (rs := [7]) (by kernel_rfl) (by simp) ?_
          refine AllReadyIn.cons rfl (fun K hK => ?_) AllReadyIn.nil
          go_simp
          refine hK _ _ ?_
          clear hK K
          try simp only [List.setIfInBounds_toArray, List.set_cons_zero, List.set_cons_succ]
          refine wpAnyIn_done (by kernel_rfl) ?_ _
          gi_wp2_with fail
          exact ⟨(hT.trans (KeepsOthers.setCell _ _ _)).from _, hKx.set (Nat.le_refl _) rfl _, X, st_hit _ h0, sf _ f0, st_off _ (.inr (by omega)) g1, b_set hwW (Nat.le_refl _) _, HNEW.out, HRN.out⟩
        · skip
          go_simp
          refine hK _ _ ?_
          clear hK K
          try simp only [List.setIfInBounds_toArray, List.set_cons_zero, List.set_cons_succ]
          refine wpAnyIn_ready (rs := [2]) (by kernel_rfl) (by simp) ?_
          refine AllReadyIn.cons rfl (fun K hK => ?_) AllReadyIn.nil
          go_simp
          refine hK _ _ ?_
          clear hK K
          try simp only [List.setIfInBounds_toArray, List.set_cons_zero, List.set_cons_succ]
          refine wpAnyIn_take (i := 3) (v := ?_) rfl rfl (by kernel_rfl) (by kernel_rfl) (by kernel_rfl) (fun _ _ _ h => h) ⟨Or.inl ⟨by rfl, fun w => ?_⟩, fun _ => rfl⟩ ?_
          rotate_left
          · (go_simp; try with_reducible rfl)
          try simp only [Act.put, List.setIfInBounds_toArray, List.set_cons_zero, List.set_cons_succ]
          refine wpAnyIn_ready (rs := [6]) (by kernel_rfl) (by simp) ?_
          refine AllReadyIn.cons rfl (fun K hK => ?_) AllReadyIn.nil
          go_simp
          first | refine ⟨trivial, ?_⟩ | skip
          refine (callsIn_wide.2 (mode1_any v X _)).mono ?_
          rintro e w8 ⟨rfl, hB8⟩
          have h0 := bb hB8 (cell_lt h0) h0
          have f0 := fb hB8 hB4 f0
          have c0 := bb hB8 (cell_lt c0) c0
          have g1 := bb hB8 (cell_lt g1) g1
          have hwW := b_then hwW hB8
          have hT := hT.trans (KeepsOthers.of_grownBy (below_grown hB8) (fun j o ej hj => by cases ej))
          have hKx := hKx.trans (Kx.of (X := fun b => b = w.heap.size) hB8 hwW0)
          have hwW0 := Nat.le_trans hwW0 hB8.size
          have hB4 := Nat.lt_of_lt_of_le hB4 hB8.size
          refine hK _ _ ?_
          clear hK K
          try simp only [List.setIfInBounds_toArray, List.set_cons_zero, List.set_cons_succ]
          refine wpAnyIn_ready (rs := [7]) (by kernel_rfl) (by simp) ?_
          refine AllReadyIn.cons rfl (fun K hK => ?_) AllReadyIn.nil
          go_simp
          refine hK _ _ ?_
          clear hK K
          try simp only [List.setIfInBounds_toArray, List.set_cons_zero, List.set_cons_succ]
          refine wpAnyIn_done (by kernel_rfl) ?_ _
          gi_wp2_with fail
          exact ⟨(hT.trans (KeepsOthers.setCell _ _ _)).from _, hKx.set (Nat.le_refl _) rfl _, X, st_hit _ h0, sf _ f0, st_off _ (.inr (by omega)) g1, b_set hwW (Nat.le_refl _) _, HNEW.out, HRN.out⟩
      · skip
        go_simp
        refine hK _ _ ?_
        clear hK K
        try simp only [List.setIfInBounds_toArray, List.set_cons_zero, List.set_cons_succ]
        refine wpAnyIn_ready (rs := [0, 4]) (by kernel_rfl) (by simp) ?_
        refine AllReadyIn.cons rfl (fun K hK => ?_) (AllReadyIn.cons rfl (fun K hK => ?_) (AllReadyIn.nil))
        · skip
          go_simp
          first | refine ⟨trivial, ?_⟩ | skip
          refine (callsIn_wide.2 (modes_any _)).mono ?_
          rintro e w7 ⟨rfl, hB7⟩
          have h0 := bb hB7 (cell_lt h0) h0
          have f0 := fb hB7 hB4 f0
          have c0 := bb hB7 (cell_lt c0) c0
          have g1 := bb hB7 (cell_lt g1) g1
          have hwW := b_then hwW hB7
          have hT := hT.trans (KeepsOthers.of_grownBy (below_grown hB7) (fun j o ej hj => by cases ej))
          have hKx := hKx.trans (Kx.of (X := fun b => b = w.heap.size) hB7 hwW0)
          have hwW0 := Nat.le_trans hwW0 hB7.size
          have hB4 := Nat.lt_of_lt_of_le hB4 hB7.size
          unfold modesV
          refine hK _ _ ?_
          clear hK K
          try simp only [List.setIfInBounds_toArray, List.set_cons_zero]
          refine wpAnyIn_take (i := 3) (v := ?_) rfl rfl (by kernel_rfl) (by kernel_rfl) (by kernel_rfl) (fun _ _ _ h => h) ⟨Or.inl ⟨by rfl, fun w => ?_⟩, fun _ => rfl⟩ ?_
          rotate_left
          · (go_simp; try with_reducible rfl)
          try simp only [Act.put, List.setIfInBounds_toArray, List.set_cons_zero, List.set_cons_succ]
          refine wpAnyIn_ready (rs := [4]) (by kernel_rfl) (by simp) ?_
          refine AllReadyIn.cons rfl (fun K hK => ?_) AllReadyIn.nil
          go_simp
          refine hK _ _ ?_
          clear hK K
          try simp only [List.setIfInBounds_toArray, List.set_cons_zero, List.set_cons_succ]
          refine wpAnyIn_ready (rs := [6]) (by kernel_rfl) (by simp) ?_
          refine AllReadyIn.cons rfl (fun K hK => ?_) AllReadyIn.nil
          go_simp
          first | refine ⟨trivial, ?_⟩ | skip
          refine (callsIn_wide.2 (mode1_any v X _)).mono ?_
          rintro e w8 ⟨rfl, hB8⟩
          have h0 := bb hB8 (cell_lt h0) h0
          have f0 := fb hB8 hB4 f0
          have c0 := bb hB8 (cell_lt c0) c0
          have g1 := bb hB8 (cell_lt g1) g1
          have hwW := b_then hwW hB8
          have hT := hT.trans (KeepsOthers.of_grownBy (below_grown hB8) (fun j o ej hj => by cases ej))
          have hKx := hKx.trans (Kx.of (X := fun b => b = w.heap.size) hB8 hwW0)
          have hwW0 := Nat.le_trans hwW0 hB8.size
          have hB4 := Nat.lt_of_lt_of_le hB4 hB8.size
          refine hK _ _ ?_
          clear hK K
          try simp only [List.setIfInBounds_toArray, List.set_cons_zero, List.set_cons_succ]
          refine wpAnyIn_ready (rs := [7]) (by kernel_rfl) (by simp) ?_
          refine AllReadyIn.cons rfl (fun K hK => ?_) AllReadyIn.nil
          go_simp
          refine hK _ _ ?_
          clear hK K
          try simp only [List.setIfInBounds_toArray, List.set_cons_zero, List.set_cons_succ]
          refine wpAnyIn_done (by kernel_rfl) ?_ _
          gi_wp2_with fail
          exact ⟨(hT.trans (KeepsOthers.setCell _ _ _)).from _, hKx.set (Nat.le_refl _) rfl _, X, st_hit _ h0, sf _ f0, st_off _ (.inr (by omega)) g1, b_set hwW (Nat.le_refl _) _, HNEW.out, HRN.out⟩
        · skip
          go_simp
          refine hK _ _ ?_
          clear hK K
          try simp only [List.setIfInBounds_toArray, List.set_cons_zero, List.set_cons_succ]
          refine wpAnyIn_ready (rs := [0]) (by kernel_rfl) (by simp) ?_
          refine AllReadyIn.cons rfl (fun K hK => ?_) AllReadyIn.nil
          go_simp
          first | refine ⟨trivial, ?_⟩ | skip
          refine (callsIn_wide.2 (modes_any _)).mono ?_
          rintro e w7 ⟨rfl, hB7⟩
          have h0 := bb hB7 (cell_lt h0) h0
          have f0 := fb hB7 hB4 f0
          have c0 := bb hB7 (cell_lt c0) c0
          have g1 := bb hB7 (cell_lt g1) g1
          have hwW := b_then hwW hB7
          have hT := hT.trans (KeepsOthers.of_grownBy (below_grown hB7) (fun j o ej hj => by cases ej))
          have hKx := hKx.trans (Kx.of (X := fun b => b = w.heap.size) hB7 hwW0)
          have hwW0 := Nat.le_trans hwW0 hB7.size
          have hB4 := Nat.lt_of_lt_of_le hB4 hB7.size
          unfold modesV
          refine hK _ _ ?_
          clear hK K
          try simp only [List.setIfInBounds_toArray, List.set_cons_zero]
          refine wpAnyIn_take (i := 3) (v := ?_) rfl rfl (by kernel_rfl) (by kernel_rfl) (by kernel_rfl) (fun _ _ _ h => h) ⟨Or.inl ⟨by rfl, fun w => ?_⟩, fun _ => rfl⟩ ?_
          rotate_left
          · (go_simp; try with_reducible rfl)
          try simp only [Act.put, List.setIfInBounds_toArray, List.set_cons_zero, List.set_cons_succ]
          refine wpAnyIn_ready (rs := [6]) (by kernel_rfl) (by simp) ?_
          refine AllReadyIn.cons rfl (fun K hK => ?_) AllReadyIn.nil
          go_simp
          first | refine ⟨trivial, ?_⟩ | skip
          refine (callsIn_wide.2 (mode1_any v X _)).mono ?_
          rintro e w8 ⟨rfl, hB8⟩
          have h0 := bb hB8 (cell_lt h0) h0
          have f0 := fb hB8 hB4 f0
          have c0 := bb hB8 (cell_lt c0) c0
          have g1 := bb hB8 (cell_lt g1) g1
          have hwW := b_then hwW hB8
          have hT := hT.trans (KeepsOthers.of_grownBy (below_grown hB8) (fun j o ej hj => by cases ej))
          have hKx := hKx.trans (Kx.of (X := fun b => b = w.heap.size) hB8 hwW0)
          have hwW0 := Nat.le_trans hwW0 hB8.size
          have hB4 := Nat.lt_of_lt_of_le hB4 hB8.size
          refine hK _ _ ?_
          clear hK K
          try simp only [List.setIfInBounds_toArray, List.set_cons_zero, List.set_cons_succ]
          refine wpAnyIn_ready (rs := [7]) (by kernel_rfl) (by simp) ?_
          refine AllReadyIn.cons rfl (fun K hK => ?_) AllReadyIn.nil
          go_simp
          refine hK _ _ ?_
          clear hK K
          try simp only [List.setIfInBounds_toArray, List.set_cons_zero, List.set_cons_succ]
          refine wpAnyIn_done (by kernel_rfl) ?_ _
          gi_wp2_with fail
          exact ⟨(hT.trans (KeepsOthers.setCell _ _ _)).from _, hKx.set (Nat.le_refl _) rfl _, X, st_hit _ h0, sf _ f0, st_off _ (.inr (by omega)) g1, b_set hwW (Nat.le_refl _) _, HNEW.out, HRN.out⟩
      · skip
        go_simp
        refine hK _ _ ?_
        clear hK K
        try simp only [List.setIfInBounds_toArray, List.set_cons_zero, List.set_cons_succ]
        refine wpAnyIn_ready (rs := [0, 2]) (by kernel_rfl) (by simp) ?_
        refine AllReadyIn.cons rfl (fun K hK => ?_) (AllReadyIn.cons rfl (fun K hK => ?_) (AllReadyIn.nil))
        · skip
          go_simp
          first | refine ⟨trivial, ?_⟩ | skip
          refine (callsIn_wide.2 (modes_any _)).mono ?_
          rintro e w7 ⟨rfl, hB7⟩
          have h0 := bb hB7 (cell_lt h0) h0
          have f0 := fb hB7 hB4 f0
          have c0 := bb hB7 (cell_lt c0) c0
          have g1 := bb hB7 (cell_lt g1) g1
          have hwW := b_then hwW hB7
          have hT := hT.trans (KeepsOthers.of_grownBy (below_grown hB7) (fun j o ej hj => by cases ej))
          have hKx := hKx.trans (Kx.of (X := fun b => b = w.heap.size) hB7 hwW0)
          have hwW0 := Nat.le_trans hwW0 hB7.size
          have hB4 := Nat.lt_of_lt_of_le hB4 hB7.size
          unfold modesV
          refine hK _ _ ?_
          clear hK K
          try simp only [List.setIfInBounds_toArray, List.set_cons_zero]
          refine wpAnyIn_ready (rs := [2]) (by kernel_rfl) (by simp) ?_
          refine AllReadyIn.cons rfl (fun K hK => ?_) AllReadyIn.nil
          go_simp
          refine hK _ _ ?_
          clear hK K
          try simp only [List.setIfInBounds_toArray, List.set_cons_zero, List.set_cons_succ]
          refine wpAnyIn_take (i := 3) (v := ?_) rfl rfl (by kernel_rfl) (by kernel_rfl) (by kernel_rfl) (fun _ _ _ h => h) ⟨Or.inl ⟨by rfl, fun w => ?_⟩, fun _ => rfl⟩ ?_
          rotate_left
          · (go_simp; try with_reducible rfl)
          try simp only [Act.put, List.setIfInBounds_toArray, List.set_cons_zero, List.set_cons_succ]
          refine wpAnyIn_ready (rs := [6]) (by kernel_rfl) (by simp) ?_
          refine AllReadyIn.cons rfl (fun K hK => ?_) AllReadyIn.nil
          go_simp
          first | refine ⟨trivial, ?_⟩ | skip
          refine (callsIn_wide.2 (mode1_any v X _)).mono ?_
          rintro e w8 ⟨rfl, hB8⟩
          have h0 := bb hB8 (cell_lt h0) h0
          have f0 := fb hB8 hB4 f0
          have c0 := bb hB8 (cell_lt c0) c0
          have g1 := bb hB8 (cell_lt g1) g1
          have hwW := b_then hwW hB8
          have hT := hT.trans (KeepsOthers.of_grownBy (below_grown hB8) (fun j o ej hj => by cases ej))
          have hKx := hKx.trans (Kx.of (X := fun b => b = w.heap.size) hB8 hwW0)
          have hwW0 := Nat.le_trans hwW0 hB8.size
          have hB4 := Nat.lt_of_lt_of_le hB4 hB8.size
          refine hK _ _ ?_
          clear hK K
          try simp only [List.setIfInBounds_toArray, List.set_cons_zero, List.set_cons_succ]
          refine wpAnyIn_ready (rs := [7]) (by kernel_rfl) (by simp) ?_
          refine AllReadyIn.cons rfl (fun K hK => ?_) AllReadyIn.nil
          go_simp
          refine hK _ _ ?_
          clear hK K
          try simp only [List.setIfInBounds_toArray, List.set_cons_zero, List.set_cons_succ]
          refine wpAnyIn_done (by kernel_rfl) ?_ _
          gi_wp2_with fail
          exact ⟨(hT.trans (KeepsOthers.setCell _ _ _)).from _, hKx.set (Nat.le_refl _) rfl _, X, st_hit _ h0, sf _ f0, st_off _ (.inr (by omega)) g1, b_set hwW (Nat.le_refl _) _, HNEW.out, HRN.out⟩
        · skip
          go_simp
          refine hK _ _ ?_
          clear hK K
          try simp only [List.setIfInBounds_toArray, List.set_cons_zero, List.set_cons_succ]
          refine wpAnyIn_ready (rs := [0]) (by kernel_rfl) (by simp) ?_
          refine AllReadyIn.cons rfl (fun K hK => ?_) AllReadyIn.nil
          go_simp
          first | refine ⟨trivial, ?_⟩ | skip
          refine (callsIn_wide.2 (modes_any _)).mono ?_
          rintro e w7 ⟨rfl, hB7⟩
          have h0 := bb hB7 (cell_lt h0) h0
          have f0 := fb hB7 hB4 f0
          have c0 := bb hB7 (cell_lt c0) c0
          have g1 := bb hB7 (cell_lt g1) g1
          have hwW := b_then hwW hB7
          have hT := hT.trans (KeepsOthers.of_grownBy (below_grown hB7) (fun j o ej hj => by cases ej))
          have hKx := hKx.trans (Kx.of (X := fun b => b = w.heap.size) hB7 hwW0)
          have hwW0 := Nat.le_trans hwW0 hB7.size
          have hB4 := Nat.lt_of_lt_of_le hB4 hB7.size
          unfold modesV
          refine hK _ _ ?_
          clear hK K
          try simp only [List.setIfInBounds_toArray, List.set_cons_zero]
          refine wpAnyIn_take (i := 3) (v := ?_) rfl rfl (by kernel_rfl) (by kernel_rfl) (by kernel_rfl) (fun _ _ _ h => h) ⟨Or.inl ⟨by rfl, fun w => ?_⟩, fun _ => rfl⟩ ?_
          rotate_left
          · (go_simp; try with_reducible rfl)
          try simp only [Act.put, List.setIfInBounds_toArray, List.set_cons_zero, List.set_cons_succ]
          refine wpAnyIn_ready (rs := [6]) (by kernel_rfl) (by simp) ?_
          refine AllReadyIn.cons rfl (fun K hK => ?_) AllReadyIn.nil
          go_simp
          first | refine ⟨trivial, ?_⟩ | skip
          refine (callsIn_wide.2 (mode1_any v X _)).mono ?_
          rintro e w8 ⟨rfl, hB8⟩
          have h0 := bb hB8 (cell_lt h0) h0
          have f0 := fb hB8 hB4 f0
          have c0 := bb hB8 (cell_lt c0) c0
          have g1 := bb hB8 (cell_lt g1) g1
          have hwW := b_then hwW hB8
          have hT := hT.trans (KeepsOthers.of_grownBy (below_grown hB8) (fun j o ej hj => by cases ej))
          have hKx := hKx.trans (Kx.of (X := fun b => b = w.heap.size) hB8 hwW0)
          have hwW0 := Nat.le_trans hwW0 hB8.size
          have hB4 := Nat.lt_of_lt_of_le hB4 hB8.size
          refine hK _ _ ?_
          clear hK K
          try simp only [List.setIfInBounds_toArray, List.set_cons_zero, List.set_cons_succ]
          refine wpAnyIn_ready (rs := [7]) (by kernel_rfl) (by simp) ?_
          refine AllReadyIn.cons rfl (fun K hK => ?_) AllReadyIn.nil
          go_simp
          refine hK _ _ ?_
          clear hK K
          try simp only [List.setIfInBounds_toArray, List.set_cons_zero, List.set_cons_succ]
          refine wpAnyIn_done (by kernel_rfl) ?_ _
          gi_wp2_with fail
          exact ⟨(hT.trans (KeepsOthers.setCell _ _ _)).from _, hKx.set (Nat.le_refl _) rfl _, X, st_hit _ h0, sf _ f0, st_off _ (.inr (by omega)) g1, b_set hwW (Nat.le_refl _) _, HNEW.out, HRN.out⟩
    by_cases m2 : gm = 2
    · subst m2
      have HNEW := hid (HNX.out X (HOV.out X (by simp)))
      have HRN := hid (show R64 X from HXR.out)
      gi_wp2_with fail
      refine wpIn_region_round (F := Fence.wide) rfl (by kernel_rfl) (by kernel_rfl) ?_
      simp only [List.size_toArray, List.length_cons, List.length_nil, Nat.reduceAdd, Array.replicate_succ, Array.replicate_zero, List.push_toArray, List.nil_append, List.cons_append]
      generalize World.drew w6 = wd at h0 f0 c0 g1 hwW hT hKx hwW0 hB4 ⊢
      refine wpAnyIn_take (i := 1) (v := ?_) rfl rfl (by kernel_rfl) (by kernel_rfl) (by kernel_rfl) (fun _ _ _ h => h) ⟨Or.inl ⟨by rfl, fun w => ?_⟩, fun _ => rfl⟩ ?_
      rotate_left
      · (go_simp; try with_reducible rfl)
      try simp only [Act.put, List.setIfInBounds_toArray, List.set_cons_zero, List.set_cons_succ]
      refine wpAnyIn_take (i := 5) (v := ?_) rfl rfl (by kernel_rfl) (by kernel_rfl) (by kernel_rfl) (fun _ _ _ h => h) ⟨Or.inl ⟨by rfl, fun w => ?_⟩, fun _ => rfl⟩ ?_
      rotate_left
      · (go_simp; try with_reducible rfl)
      try simp only [Act.put, List.setIfInBounds_toArray, List.set_cons_zero, List.set_cons_succ]
      refine wpAnyIn_ready (rs := [0, 2, 4]) (by kernel_rfl) (by simp) ?_
      refine AllReadyIn.cons rfl (fun K hK => ?_) (AllReadyIn.cons rfl (fun K hK => ?_) (AllReadyIn.cons rfl (fun K hK => ?_) (AllReadyIn.nil)))
      · skip
        go_simp
        first | refine ⟨trivial, ?_⟩ | skip
        refine (callsIn_wide.2 (modes_any _)).mono ?_
        rintro e w7 ⟨rfl, hB7⟩
        have h0 := bb hB7 (cell_lt h0) h0
        have f0 := fb hB7 hB4 f0
        have c0 := bb hB7 (cell_lt c0) c0
        have g1 := bb hB7 (cell_lt g1) g1
        have hwW := b_then hwW hB7
        have hT := hT.trans (KeepsOthers.of_grownBy (below_grown hB7) (fun j o ej hj => by cases ej))
        have hKx := hKx.trans (Kx.of (X := fun b => b = w.heap.size) hB7 hwW0)
        have hwW0 := Nat.le_trans hwW0 hB7.size
        have hB4 := Nat.lt_of_lt_of_le hB4 hB7.size
        unfold modesV
        refine hK _ _ ?_
        clear hK K
        try simp only [List.setIfInBounds_toArray, List.set_cons_zero]
        refine wpAnyIn_ready (rs := [2, 4]) (by kernel_rfl) (by simp) ?_
        refine AllReadyIn.cons rfl (fun K hK => ?_) (AllReadyIn.cons rfl (fun K hK => ?_) (AllReadyIn.nil))
        · skip
          go_simp
          refine hK _ _ ?_
          clear hK K
          try simp only [List.setIfInBounds_toArray, List.set_cons_zero, List.set_cons_succ]
          refine wpAnyIn_take (i := 3) (v := ?_) rfl rfl (by kernel_rfl) (by kernel_rfl) (by kernel_rfl) (fun _ _ _ h => h) ⟨Or.inl ⟨by rfl, fun w => ?_⟩, fun _ => rfl⟩ ?_
          rotate_left
          · (go_simp; try with_reducible rfl)
          try simp only [Act.put, List.setIfInBounds_toArray, List.set_cons_zero, List.set_cons_succ]
          refine wpAnyIn_ready (rs := [4]) (by kernel_rfl) (by simp) ?_
          refine AllReadyIn.cons rfl (fun K hK => ?_) AllReadyIn.nil
          go_simp
          refine hK _ _ ?_
          clear hK K
          try simp only [List.setIfInBounds_toArray, List.set_cons_zero, List.set_cons_succ]
          refine wpAnyIn_ready (rs := [6]) (by kernel_rfl) (by simp) ?_
          refine AllReadyIn.cons rfl (fun K hK => ?_) AllReadyIn.nil
          go_simp
          first | refine ⟨trivial, ?_⟩ | skip
          refine (callsIn_wide.2 (mode2_any v X _)).mono ?_
          rintro e w8 ⟨rfl, hB8⟩
          have h0 := bb hB8 (cell_lt h0) h0
          have f0 := fb hB8 hB4 f0
          have c0 := bb hB8 (cell_lt c0) c0
          have g1 := bb hB8 (cell_lt g1) g1
          have hwW := b_then hwW hB8
          have hT := hT.trans (KeepsOthers.of_grownBy (below_grown hB8) (fun j o ej hj => by cases ej))
          have hKx := hKx.trans (Kx.of (X := fun b => b = w.heap.size) hB8 hwW0)
          have hwW0 := Nat.le_trans hwW0 hB8.size
          have hB4 := Nat.lt_of_lt_of_le hB4 hB8.size
          refine hK _ _ ?_
          clear hK K
          try simp only [List.setIfInBounds_toArray, List.set_cons_zero, List.set_cons_succ]
          refine wpAnyIn_ready (rs := [7]) (by kernel_rfl) (by simp) ?_
          refine AllReadyIn.cons rfl (fun K hK => ?_) AllReadyIn.nil
          go_simp
          refine hK _ _ ?_
          clear hK K
          try simp only [List.setIfInBounds_toArray, List.set_cons_zero, List.set_cons_succ]
          refine wpAnyIn_done (by kernel_rfl) ?_ _
          gi_wp2_with fail
          exact ⟨(hT.trans (KeepsOthers.setCell _ _ _)).from _, hKx.set (Nat.le_refl _) rfl _, X, st_hit _ h0, sf _ f0, st_off _ (.inr (by omega)) g1, b_set hwW (Nat.le_refl _) _, HNEW.out, HRN.out⟩
        · skip
          go_simp
          refine hK _ _ ?_
          clear hK K
          try simp only [List.setIfInBounds_toArray, List.set_cons_zero, List.set_cons_succ]
          refine wpAnyIn_ready (rs := [2]) (by kernel_rfl) (by simp) ?_
          refine AllReadyIn.cons rfl (fun K hK => ?_) AllReadyIn.nil
          go_simp
          refine hK _ _ ?_
          clear hK K
          try simp only [List.setIfInBounds_toArray, List.set_cons_zero, List.set_cons_succ]
          refine wpAnyIn_take (i := 3) (v := ?_) rfl rfl (by kernel_rfl) (by kernel_rfl) (by kernel_rfl) (fun _ _ _ h => h) ⟨Or.inl ⟨by rfl, fun w => ?_⟩, fun _ => rfl⟩ ?_
          rotate_left
          · (go_simp; try with_reducible rfl)
          try simp only [Act.put, List.setIfInBounds_toArray, List.set_cons_zero, List.set_cons_succ]
          refine wpAnyIn_ready (rs := [6]) (by kernel_rfl) (by simp) ?_
          refine AllReadyIn.cons rfl (fun K hK => ?_) AllReadyIn.nil
          go_simp
          first | refine ⟨trivial, ?_⟩ | skip
          refine (callsIn_wide.2 (mode2_any v X _)).mono ?_
          rintro e w8 ⟨rfl, hB8⟩
          have h0 := bb hB8 (cell_lt h0) h0
          have f0 := fb hB8 hB4 f0
          have c0 := bb hB8 (cell_lt c0) c0
          have g1 := bb hB8 (cell_lt g1) g1
          have hwW := b_then hwW hB8
          have hT := hT.trans (KeepsOthers.of_grownBy (below_grown hB8) (fun j o ej hj => by cases ej))
          have hKx := hKx.trans (Kx.of (X := fun b => b = w.heap.size) hB8 hwW0)
          have hwW0 := Nat.le_trans hwW0 hB8.size
          have hB4 := Nat.lt_of_lt_of_le hB4 hB8.size
          refine hK _ _ ?_
          clear hK K
          try simp only [List.setIfInBounds_toArray, List.set_cons_zero, List.set_cons_succ]
          refine wpAnyIn_ready (rs := [7]) (by kernel_rfl) (by simp) ?_
          refine AllReadyIn.cons rfl (fun K hK => ?_) AllReadyIn.nil
          go_simp
          refine hK _ _ ?_
          clear hK K
          try simp only [List.setIfInBounds_toArray, List.set_cons_zero, List.set_cons_succ]
          refine wpAnyIn_done (by kernel_rfl) ?_ _
          gi_wp2_with fail
          exact ⟨(hT.trans (KeepsOthers.setCell _ _ _)).from _, hKx.set (Nat.le_refl _) rfl _, X, st_hit _ h0, sf _ f0, st_off _ (.inr (by omega)) g1, b_set hwW (Nat.le_refl _) _, HNEW.out, HRN.out⟩
      · skip
        go_simp
        refine hK _ _ ?_
        clear hK K
        try simp only [List.setIfInBounds_toArray, List.set_cons_zero, List.set_cons_succ]
        refine wpAnyIn_ready (rs := [0, 4]) (by kernel_rfl) (by simp) ?_
        refine AllReadyIn.cons rfl (fun K hK => ?_) (AllReadyIn.cons rfl (fun K hK => ?_) (AllReadyIn.nil))
        · skip
          go_simp
          first | refine ⟨trivial, ?_⟩ | skip
          refine (callsIn_wide.2 (modes_any _)).mono ?_
          rintro e w7 ⟨rfl, hB7⟩
          have h0 := bb hB7 (cell_lt h0) h0
          have f0 := fb hB7 hB4 f0
          have c0 := bb hB7 (cell_lt c0) c0
          have g1 := bb hB7 (cell_lt g1) g1
          have hwW := b_then hwW hB7
          have hT := hT.trans (KeepsOthers.of_grownBy (below_grown hB7) (fun j o ej hj => by cases ej))
          have hKx := hKx.trans (Kx.of (X := fun b => b = w.heap.size) hB7 hwW0)
          have hwW0 := Nat.le_trans hwW0 hB7.size
          have hB4 := Nat.lt_of_lt_of_le hB4 hB7.size
          unfold modesV
          refine hK _ _ ?_
          clear hK K
          try simp only [List.setIfInBounds_toArray, List.set_cons_zero]
          refine wpAnyIn_take (i := 3) (v := ?_) rfl rfl (by kernel_rfl) (by kernel_rfl) (by kernel_rfl) (fun _ _ _ h => h) ⟨Or.inl ⟨by rfl, fun w => ?_⟩, fun _ => rfl⟩ ?_
          rotate_left
          · (go_simp; try with_reducible rfl)
          try simp only [Act.put, List.setIfInBounds_toArray, List.set_cons_zero, List.set_cons_succ]
          refine wpAnyIn_ready (rs := [4]) (by kernel_rfl) (by simp) ?_
          refine AllReadyIn.cons rfl (fun K hK => ?_) AllReadyIn.nil
          go_simp
          refine hK _ _ ?_
          clear hK K
          try simp only [List.setIfInBounds_toArray, List.set_cons_zero, List.set_cons_succ]
          refine wpAnyIn_ready (rs := [6]) (by kernel_rfl) (by simp) ?_
          refine AllReadyIn.cons rfl (fun K hK => ?_) AllReadyIn.nil
          go_simp
          first | refine ⟨trivial, ?_⟩ | skip
          refine (callsIn_wide.2 (mode2_any v X _)).mono ?_
          rintro e w8 ⟨rfl, hB8⟩
          have h0 := bb hB8 (cell_lt h0) h0
          have f0 := fb hB8 hB4 f0
          have c0 := bb hB8 (cell_lt c0) c0
          have g1 := bb hB8 (cell_lt g1) g1
          have hwW := b_then hwW hB8
          have hT := hT.trans (KeepsOthers.of_grownBy (below_grown hB8) (fun j o ej hj => by cases ej))
          have hKx := hKx.trans (Kx.of (X := fun b => b = w.heap.size) hB8 hwW0)
          have hwW0 := Nat.le_trans hwW0 hB8.size
          have hB4 := Nat.lt_of_lt_of_le hB4 hB8.size
          refine hK _ _ ?_
          clear hK K
          try simp only [List.setIfInBounds_toArray, List.set_cons_zero, List.set_cons_succ]
          refine wpAnyIn_ready (rs := [7]) (by kernel_rfl) (by simp) ?_
          refine AllReadyIn.cons rfl (fun K hK => ?_) AllReadyIn.nil
          go_simp
          refine hK _ _ ?_
          clear hK K
          try simp only [List.setIfInBounds_toArray, List.set_cons_zero, List.set_cons_succ]
          refine wpAnyIn_done (by kernel_rfl) ?_ _
          gi_wp2_with fail
          exact ⟨(hT.trans (KeepsOthers.setCell _ _ _)).from _, hKx.set (Nat.le_refl _) rfl _, X, st_hit _ h0, sf _ f0, st_off _ (.inr (by omega)) g1, b_set hwW (Nat.le_refl _) _, HNEW.out, HRN.out⟩
        · skip
          go_simp
          refine hK _ _ ?_
          clear hK K
          try simp only [List.setIfInBounds_toArray, List.set_cons_zero, List.set_cons_succ]
          refine wpAnyIn_ready (rs := [0]) (by kernel_rfl) (by simp) ?_
          refine AllReadyIn.cons rfl (fun K hK => ?_) AllReadyIn.nil
          go_simp
          first | refine ⟨trivial, ?_⟩ | skip
          refine (callsIn_wide.2 (modes_any _)).mono ?_
          rintro e w7 ⟨rfl, hB7⟩
          have h0 := bb hB7 (cell_lt h0) h0
          have f0 := fb hB7 hB4 f0
          have c0 := bb hB7 (cell_lt c0) c0
          have g1 := bb hB7 (cell_lt g1) g1
          have hwW := b_then hwW hB7
          have hT := hT.trans (KeepsOthers.of_grownBy (below_grown hB7) (fun j o ej hj => by cases ej))
          have hKx := hKx.trans (Kx.of (X := fun b => b = w.heap.size) hB7 hwW0)
          have hwW0 := Nat.le_trans hwW0 hB7.size
          have hB4 := Nat.lt_of_lt_of_le hB4 hB7.size
          unfold modesV
          refine hK _ _ ?_
          clear hK K
          try simp only [List.setIfInBounds_toArray, List.set_cons_zero]
          refine wpAnyIn_take (i := 3) (v := ?_) rfl rfl (by kernel_rfl) (by kernel_rfl) (by kernel_rfl) (fun _ _ _ h => h) ⟨Or.inl ⟨by rfl, fun w => ?_⟩, fun _ => rfl⟩ ?_
          rotate_left
          · (go_simp; try with_reducible rfl)
          try simp only [Act.put, List.setIfInBounds_toArray, List.set_cons_zero, List.set_cons_succ]
          refine wpAnyIn_ready (rs := [6]) (by kernel_rfl) (by simp) ?_
          refine AllReadyIn.cons rfl (fun K hK => ?_) AllReadyIn.nil
          go_simp
          first | refine ⟨trivial, ?_⟩ | skip
          refine (callsIn_wide.2 (mode2_any v X _)).mono ?_
          rintro e w8 ⟨rfl, hB8⟩
          have h0 := bb hB8 (cell_lt h0) h0
          have f0 := fb hB8 hB4 f0
          have c0 := bb hB8 (cell_lt c0) c0
          have g1 := bb hB8 (cell_lt g1) g1
          have hwW := b_then hwW hB8
          have hT := hT.trans (KeepsOthers.of_grownBy (below_grown hB8) (fun j o ej hj => by cases ej))
          have hKx := hKx.trans (Kx.of (X := fun b => b = w.heap.size) hB8 hwW0)
          have hwW0 := Nat.le_trans hwW0 hB8.size
          have hB4 := Nat.lt_of_lt_of_le hB4 hB8.size
          refine hK _ _ ?_
          clear hK K
          try simp only [List.setIfInBounds_toArray, List.set_cons_zero, List.set_cons_succ]
          refine wpAnyIn_ready (rs := [7]) (by kernel_rfl) (by simp) ?_
          refine AllReadyIn.cons rfl (fun K hK => ?_) AllReadyIn.nil
          go_simp
          refine hK _ _ ?_
          clear hK K
          try simp only [List.setIfInBounds_toArray, List.set_cons_zero, List.set_cons_succ]
          refine wpAnyIn_done (by kernel_rfl) ?_ _
          gi_wp2_with fail
          exact ⟨(hT.trans (KeepsOthers.setCell _ _ _)).from _, hKx.set (Nat.le_refl _) rfl _, X, st_hit _ h0, sf _ f0, st_off _ (.inr (by omega)) g1, b_set hwW (Nat.le_refl _) _, HNEW.out, HRN.out⟩
      · skip
        go_simp
        refine hK _ _ ?_
        clear hK K
        try simp only [List.setIfInBounds_toArray, List.set_cons_zero, List.set_cons_succ]
        refine wpAnyIn_ready (rs := [0, 2]) (by kernel_rfl) (by simp) ?_
        refine AllReadyIn.cons rfl (fun K hK => ?_) (AllReadyIn.cons rfl (fun K hK => ?_) (AllReadyIn.nil))
        · skip
          go_simp
          first | refine ⟨trivial, ?_⟩ | skip
          refine (callsIn_wide.2 (modes_any _)).mono ?_
          rintro e w7 ⟨rfl, hB7⟩
          have h0 := bb hB7 (cell_lt h0) h0
          have f0 := fb hB7 hB4 f0
          have c0 := bb hB7 (cell_lt c0) c0
          have g1 := bb hB7 (cell_lt g1) g1
          have hwW := b_then hwW hB7
          have hT := hT.trans (KeepsOthers.of_grownBy (below_grown hB7) (fun j o ej hj => by cases ej))
          have hKx := hKx.trans (Kx.of (X := fun b => b = w.heap.size) hB7 hwW0)
          have hwW0 := Nat.le_trans hwW0 hB7.size
          have hB4 := Nat.lt_of_lt_of_le hB4 hB7.size
          unfold modesV
          refine hK _ _ ?_
          clear hK K
          try simp only [List.setIfInBounds_toArray, List.set_cons_zero]
          refine wpAnyIn_ready (rs := [2]) (by kernel_rfl) (by simp) ?_
          refine AllReadyIn.cons rfl (fun K hK => ?_) AllReadyIn.nil
          go_simp
          refine hK _ _ ?_
          clear hK K
          try simp only [List.setIfInBounds_toArray, List.set_cons_zero, List.set_cons_succ]
          refine wpAnyIn_take (i := 3) (v := ?_) rfl rfl (by kernel_rfl) (by kernel_rfl) (by kernel_rfl) (fun _ _ _ h => h) ⟨Or.inl ⟨by rfl, fun w => ?_⟩, fun _ => rfl⟩ ?_
          rotate_left
          · (go_simp; try with_reducible rfl)
          try simp only [Act.put, List.setIfInBounds_toArray, List.set_cons_zero, List.set_cons_succ]
          refine wpAnyIn_ready (rs := [6]) (by kernel_rfl) (by simp) ?_
          refine AllReadyIn.cons rfl (fun K hK => ?_) AllReadyIn.nil
          go_simp
          first | refine ⟨trivial, ?_⟩ | skip
          refine (callsIn_wide.2 (mode2_any v X _)).mono ?_
          rintro e w8 ⟨rfl, hB8⟩
          have h0 := bb hB8 (cell_lt h0) h0
          have f0 := fb hB8 hB4 f0
          have c0 := bb hB8 (cell_lt c0) c0
          have g1 := bb hB8 (cell_lt g1) g1
          have hwW := b_then hwW hB8
          have hT := hT.trans (KeepsOthers.of_grownBy (below_grown hB8) (fun j o ej hj => by cases ej))
          have hKx := hKx.trans (Kx.of (X := fun b => b = w.heap.size) hB8 hwW0)
          have hwW0 := Nat.le_trans hwW0 hB8.size
          have hB4 := Nat.lt_of_lt_of_le hB4 hB8.size
          refine hK _ _ ?_
          clear hK K
          try simp only [List.setIfInBounds_toArray, List.set_cons_zero, List.set_cons_succ]
          refine wpAnyIn_ready (rs := [7]) (by kernel_rfl) (by simp) ?_
          refine AllReadyIn.cons rfl (fun K hK => ?_) AllReadyIn.nil
          go_simp
          refine hK _ _ ?_
          clear hK K
          try simp only [List.setIfInBounds_toArray, List.set_cons_zero, List.set_cons_succ]
          refine wpAnyIn_done (by kernel_rfl) ?_ _
          gi_wp2_with fail
          exact ⟨(hT.trans (KeepsOthers.setCell _ _ _)).from _, hKx.set (Nat.le_refl _) rfl _, X, st_hit _ h0, sf _ f0, st_off _ (.inr (by omega)) g1, b_set hwW (Nat.le_refl _) _, HNEW.out, HRN.out⟩
        · skip
          go_simp
          refine hK _ _ ?_
          clear hK K
          try simp only [List.setIfInBounds_toArray, List.set_cons_zero, List.set_cons_succ]
          refine wpAnyIn_ready (rs := [0]) (by kernel_rfl) (by simp) ?_
          refine AllReadyIn.cons rfl (fun K hK => ?_) AllReadyIn.nil
          go_simp
          first | refine ⟨trivial, ?_⟩ | skip
          refine (callsIn_wide.2 (modes_any _)).mono ?_
          rintro e w7 ⟨rfl, hB7⟩
          have h0 := bb hB7 (cell_lt h0) h0
          have f0 := fb hB7 hB4 f0
          have c0 := bb hB7 (cell_lt c0) c0
          have g1 := bb hB7 (cell_lt g1) g1
          have hwW := b_then hwW hB7
          have hT := hT.trans (KeepsOthers.of_grownBy (below_grown hB7) (fun j o ej hj => by cases ej))
          have hKx := hKx.trans (Kx.of (X := fun b => b = w.heap.size) hB7 hwW0)
          have hwW0 := Nat.le_trans hwW0 hB7.size
          have hB4 := Nat.lt_of_lt_of_le hB4 hB7.size
          unfold modesV
          refine hK _ _ ?_
          clear hK K
          try simp only [List.setIfInBounds_toArray, List.set_cons_zero]
          refine wpAnyIn_take (i := 3) (v := ?_) rfl rfl (by kernel_rfl) (by kernel_rfl) (by kernel_rfl) (fun _ _ _ h => h) ⟨Or.inl ⟨by rfl, fun w => ?_⟩, fun _ => rfl⟩ ?_
          rotate_left
          · (go_simp; try with_reducible rfl)
          try simp only [Act.put, List.setIfInBounds_toArray, List.set_cons_zero, List.set_cons_succ]
          refine wpAnyIn_ready (rs := [6]) (by kernel_rfl) (by simp) ?_
          refine AllReadyIn.cons rfl (fun K hK => ?_) AllReadyIn.nil
          go_simp
          first | refine ⟨trivial, ?_⟩ | skip
          refine (callsIn_wide.2 (mode2_any v X _)).mono ?_
          rintro e w8 ⟨rfl, hB8⟩
          have h0 := bb hB8 (cell_lt h0) h0
          have f0 := fb hB8 hB4 f0
          have c0 := bb hB8 (cell_lt c0) c0
          have g1 := bb hB8 (cell_lt g1) g1
          have hwW := b_then hwW hB8
          have hT := hT.trans (KeepsOthers.of_grownBy (below_grown hB8) (fun j o ej hj => by cases ej))
          have hKx := hKx.trans (Kx.of (X := fun b => b = w.heap.size) hB8 hwW0)
          have hwW0 := Nat.le_trans hwW0 hB8.size
          have hB4 := Nat.lt_of_lt_of_le hB4 hB8.size
          refine hK _ _ ?_
          clear hK K
          try simp only [List.setIfInBounds_toArray, List.set_cons_zero, List.set_cons_succ]
          refine wpAnyIn_ready (rs := [7]) (by kernel_rfl) (by simp) ?_
          refine AllReadyIn.cons rfl (fun K hK => ?_) AllReadyIn.nil
          go_simp
          refine hK _ _ ?_
          clear hK K
          try simp only [List.setIfInBounds_toArray, List.set_cons_zero, List.set_cons_succ]
          refine wpAnyIn_done (by kernel_rfl) ?_ _
          gi_wp2_with fail
          exact ⟨(hT.trans (KeepsOthers.setCell _ _ _)).from _, hKx.set (Nat.le_refl _) rfl _, X, st_hit _ h0, sf _ f0, st_off _ (.inr (by omega)) g1, b_set hwW (Nat.le_refl _) _, HNEW.out, HRN.out⟩
    obtain rfl : gm = 3 := by omega
    obtain ⟨Y, hY⟩ : ∃ Y, clipT (v + X) = Y := ⟨_, rfl⟩
    have HY := hid hY
    have HNEW := hid (HNX.out Y (HOV.out Y (by rw [if_pos rfl, hY])))
    have HRN := hid (show R64 Y by have := clip_rng (v + X); rw [hY] at this; unfold R64; omega)
    clear hY
    gi_wp2_with fail
    refine wpIn_region_round (F := Fence.wide) rfl (by kernel_rfl) (by kernel_rfl) ?_
    simp only [List.size_toArray, List.length_cons, List.length_nil, Nat.reduceAdd, Array.replicate_succ, Array.replicate_zero, List.push_toArray, List.nil_append, List.cons_append]
    generalize World.drew w6 = wd at h0 f0 c0 g1 hwW hT hKx hwW0 hB4 ⊢
    refine wpAnyIn_take (i := 1) (v := ?_) rfl rfl (by kernel_rfl) (by kernel_rfl) (by kernel_rfl) (fun _ _ _ h => h) ⟨Or.inl ⟨by rfl, fun w => ?_⟩, fun _ => rfl⟩ ?_
    rotate_left
    · (go_simp; try with_reducible rfl)
    try simp only [Act.put, List.setIfInBounds_toArray, List.set_cons_zero, List.set_cons_succ]
    refine wpAnyIn_take (i := 5) (v := ?_) rfl rfl (by kernel_rfl) (by kernel_rfl) (by kernel_rfl) (fun _ _ _ h => h) ⟨Or.inl ⟨by rfl, fun w => ?_⟩, fun _ => rfl⟩ ?_
    rotate_left
    · (go_simp; try with_reducible rfl)
    try simp only [Act.put, List.setIfInBounds_toArray, List.set_cons_zero, List.set_cons_succ]
    refine wpAnyIn_ready (rs := [0, 2, 4]) (by kernel_rfl) (by simp) ?_
    refine AllReadyIn.cons rfl (fun K hK => ?_) (AllReadyIn.cons rfl (fun K hK => ?_) (AllReadyIn.cons rfl (fun K hK => ?_) (AllReadyIn.nil)))
    · skip
      go_simp
      first | refine ⟨trivial, ?_⟩ | skip
      refine (callsIn_wide.2 (modes_any _)).mono ?_
      rintro e w7 ⟨rfl, hB7⟩
      have h0 := bb hB7 (cell_lt h0) h0
      have f0 := fb hB7 hB4 f0
      have c0 := bb hB7 (cell_lt c0) c0
      have g1 := bb hB7 (cell_lt g1) g1
      have hwW := b_then hwW hB7
      have hT := hT.trans (KeepsOthers.of_grownBy (below_grown hB7) (fun j o ej hj => by cases ej))
      have hKx := hKx.trans (Kx.of (X := fun b => b = w.heap.size) hB7 hwW0)
      have hwW0 := Nat.le_trans hwW0 hB7.size
      have hB4 := Nat.lt_of_lt_of_le hB4 hB7.size
      unfold modesV
      refine hK _ _ ?_
      clear hK K
      try simp only [List.setIfInBounds_toArray, List.set_cons_zero]
      refine wpAnyIn_ready (rs := [2, 4]) (by kernel_rfl) (by simp) ?_
      refine AllReadyIn.cons rfl (fun K hK => ?_) (AllReadyIn.cons rfl (fun K hK => ?_) (AllReadyIn.nil))
      · skip
        go_simp
        refine hK _ _ ?_
        clear hK K
        try simp only [List.setIfInBounds_toArray, List.set_cons_zero, List.set_cons_succ]
        refine wpAnyIn_take (i := 3) (v := ?_) rfl rfl (by kernel_rfl) (by kernel_rfl) (by kernel_rfl) (fun _ _ _ h => h) ⟨Or.inl ⟨by rfl, fun w => ?_⟩, fun _ => rfl⟩ ?_
        rotate_left
        · (go_simp; try with_reducible rfl)
        try simp only [Act.put, List.setIfInBounds_toArray, List.set_cons_zero, List.set_cons_succ]
        refine wpAnyIn_ready (rs := [4]) (by kernel_rfl) (by simp) ?_
        refine AllReadyIn.cons rfl (fun K hK => ?_) AllReadyIn.nil
        go_simp
        refine hK _ _ ?_
        clear hK K
        try simp only [List.setIfInBounds_toArray, List.set_cons_zero, List.set_cons_succ]
        refine wpAnyIn_ready (rs := [6]) (by kernel_rfl) (by simp) ?_
        refine AllReadyIn.cons rfl (fun K hK => ?_) AllReadyIn.nil
        go_simp
        first | refine ⟨trivial, ?_⟩ | skip
        refine (callsIn_wide.2 (Add_any v X HVR.out HXR.out _)).mono ?_
        rintro e w8 ⟨rfl, hB8⟩
        have h0 := bb hB8 (cell_lt h0) h0
        have f0 := fb hB8 hB4 f0
        have c0 := bb hB8 (cell_lt c0) c0
        have g1 := bb hB8 (cell_lt g1) g1
        have hwW := b_then hwW hB8
        have hT := hT.trans (KeepsOthers.of_grownBy (below_grown hB8) (fun j o ej hj => by cases ej))
        have hKx := hKx.trans (Kx.of (X := fun b => b = w.heap.size) hB8 hwW0)
        have hwW0 := Nat.le_trans hwW0 hB8.size
        have hB4 := Nat.lt_of_lt_of_le hB4 hB8.size
        rw [HY.out]
        refine hK _ _ ?_
        clear hK K
        try simp only [List.setIfInBounds_toArray, List.set_cons_zero, List.set_cons_succ]
        refine wpAnyIn_ready (rs := [7]) (by kernel_rfl) (by simp) ?_
        refine AllReadyIn.cons rfl (fun K hK => ?_) AllReadyIn.nil
        go_simp
        refine hK _ _ ?_
        clear hK K
        try simp only [List.setIfInBounds_toArray, List.set_cons_zero, List.set_cons_succ]
        refine wpAnyIn_done (by kernel_rfl) ?_ _
        gi_wp2_with fail
        exact ⟨(hT.trans (KeepsOthers.setCell _ _ _)).from _, hKx.set (Nat.le_refl _) rfl _, Y, st_hit _ h0, sf _ f0, st_off _ (.inr (by omega)) g1, b_set hwW (Nat.le_refl _) _, HNEW.out, HRN.out⟩
      · skip
        go_simp
        refine hK _ _ ?_
        clear hK K
        try simp only [List.setIfInBounds_toArray, List.set_cons_zero, List.set_cons_succ]
        refine wpAnyIn_ready (rs := [2]) (by kernel_rfl) (by simp) ?_
        refine AllReadyIn.cons rfl (fun K hK => ?_) AllReadyIn.nil
        go_simp
        refine hK _ _ ?_
        clear hK K
        try simp only [List.setIfInBounds_toArray, List.set_cons_zero, List.set_cons_succ]
        refine wpAnyIn_take (i := 3) (v := ?_) rfl rfl (by kernel_rfl) (by kernel_rfl) (by kernel_rfl) (fun _ _ _ h => h) ⟨Or.inl ⟨by rfl, fun w => ?_⟩, fun _ => rfl⟩ ?_
        rotate_left
        · (go_simp; try with_reducible rfl)
        try simp only [Act.put, List.setIfInBounds_toArray, List.set_cons_zero, List.set_cons_succ]
        refine wpAnyIn_ready (rs := [6]) (by kernel_rfl) (by simp) ?_
        refine AllReadyIn.cons rfl (fun K hK => ?_) AllReadyIn.nil
        go_simp
        first | refine ⟨trivial, ?_⟩ | skip
        refine (callsIn_wide.2 (Add_any v X HVR.out HXR.out _)).mono ?_
        rintro e w8 ⟨rfl, hB8⟩
        have h0 := bb hB8 (cell_lt h0) h0
        have f0 := fb hB8 hB4 f0
        have c0 := bb hB8 (cell_lt c0) c0
        have g1 := bb hB8 (cell_lt g1) g1
        have hwW := b_then hwW hB8
        have hT := hT.trans (KeepsOthers.of_grownBy (below_grown hB8) (fun j o ej hj => by cases ej))
        have hKx := hKx.trans (Kx.of (X := fun b => b = w.heap.size) hB8 hwW0)
        have hwW0 := Nat.le_trans hwW0 hB8.size
        have hB4 := Nat.lt_of_lt_of_le hB4 hB8.size
        rw [HY.out]
        refine hK _ _ ?_
        clear hK K
        try simp only [List.setIfInBounds_toArray, List.set_cons_zero, List.set_cons_succ]
        refine wpAnyIn_ready (rs := [7]) (by kernel_rfl) (by simp) ?_
        refine AllReadyIn.cons rfl (fun K hK => ?_) AllReadyIn.nil
        go_simp
        refine hK _ _ ?_
        clear hK K
        try simp only [List.setIfInBounds_toArray, List.set_cons_zero, List.set_cons_succ]
        refine wpAnyIn_done (by kernel_rfl) ?_ _
        gi_wp2_with fail
        exact ⟨(hT.trans (KeepsOthers.setCell _ _ _)).from _, hKx.set (Nat.le_refl _) rfl _, Y, st_hit _ h0, sf _ f0, st_off _ (.inr (by omega)) g1, b_set hwW (Nat.le_refl _) _, HNEW.out, HRN.out⟩
    · skip
      go_simp
      refine hK _ _ ?_
      clear hK K
      try simp only [List.setIfInBounds_toArray, List.set_cons_zero, List.set_cons_succ]
      refine wpAnyIn_ready (rs := [0, 4]) (by kernel_rfl) (by simp) ?_
      refine AllReadyIn.cons rfl (fun K hK => ?_) (AllReadyIn.cons rfl (fun K hK => ?_) (AllReadyIn.nil))
      · skip
        go_simp
        first | refine ⟨trivial, ?_⟩ | skip
        refine (callsIn_wide.2 (modes_any _)).mono ?_
        rintro e w7 ⟨rfl, hB7⟩
        have h0 := bb hB7 (cell_lt h0) h0
        have f0 := fb hB7 hB4 f0
        have c0 := bb hB7 (cell_lt c0) c0
        have g1 := bb hB7 (cell_lt g1) g1
        have hwW := b_then hwW hB7
        have hT := hT.trans (KeepsOthers.of_grownBy (below_grown hB7) (fun j o ej hj => by cases ej))
        have hKx := hKx.trans (Kx.of (X := fun b => b = w.heap.size) hB7 hwW0)
        have hwW0 := Nat.le_trans hwW0 hB7.size
        have hB4 := Nat.lt_of_lt_of_le hB4 hB7.size
        unfold modesV
        refine hK _ _ ?_
        clear hK K
        try simp only [List.setIfInBounds_toArray, List.set_cons_zero]
        refine wpAnyIn_take (i := 3) (v := ?_) rfl rfl (by kernel_rfl) (by kernel_rfl) (by kernel_rfl) (fun _ _ _ h => h) ⟨Or.inl ⟨by rfl, fun w => ?_⟩, fun _ => rfl⟩ ?_
        rotate_left
        · (go_simp; try with_reducible rfl)
        try simp only [Act.put, List.setIfInBounds_toArray, List.set_cons_zero, List.set_cons_succ]
        refine wpAnyIn_ready (rs := [4]) (by kernel_rfl) (by simp) ?_
        refine AllReadyIn.cons rfl (fun K hK => ?_) AllReadyIn.nil
        go_simp
        refine hK _ _ ?_
        clear hK K
        try simp only [List.setIfInBounds_toArray, List.set_cons_zero, List.set_cons_succ]
        refine wpAnyIn_ready (rs := [6]) (by kernel_rfl) (by simp) ?_
        refine AllReadyIn.cons rfl (fun K hK => ?_) AllReadyIn.nil
        go_simp
        first | refine ⟨trivial, ?_⟩ | skip
        refine (callsIn_wide.2 (Add_any v X HVR.out HXR.out _)).mono ?_
        rintro e w8 ⟨rfl, hB8⟩
        have h0 := bb hB8 (cell_lt h0) h0
        have f0 := fb hB8 hB4 f0
        have c0 := bb hB8 (cell_lt c0) c0
        have g1 := bb hB8 (cell_lt g1) g1
        have hwW := b_then hwW hB8
        have hT := hT.trans (KeepsOthers.of_grownBy (below_grown hB8) (fun j o ej hj => by cases ej))
        have hKx := hKx.trans (Kx.of (X := fun b => b = w.heap.size) hB8 hwW0)
        have hwW0 := Nat.le_trans hwW0 hB8.size
        have hB4 := Nat.lt_of_lt_of_le hB4 hB8.size
        rw [HY.out]
        refine hK _ _ ?_
        clear hK K
        try simp only [List.setIfInBounds_toArray, List.set_cons_zero, List.set_cons_succ]
        refine wpAnyIn_ready (rs := [7]) (by kernel_rfl) (by simp) ?_
        refine AllReadyIn.cons rfl (fun K hK => ?_) AllReadyIn.nil
        go_simp
        refine hK _ _ ?_
        clear hK K
        try simp only [List.setIfInBounds_toArray, List.set_cons_zero, List.set_cons_succ]
        refine wpAnyIn_done (by kernel_rfl) ?_ _
        gi_wp2_with fail
        exact ⟨(hT.trans (KeepsOthers.setCell _ _ _)).from _, hKx.set (Nat.le_refl _) rfl _, Y, st_hit _ h0, sf _ f0, st_off _ (.inr (by omega)) g1, b_set hwW (Nat.le_refl _) _, HNEW.out, HRN.out⟩
      · skip
        go_simp
        refine hK _ _ ?_
        clear hK K
        try simp only [List.setIfInBounds_toArray, List.set_cons_zero, List.set_cons_succ]
        refine wpAnyIn_ready (rs := [0]) (by kernel_rfl) (by simp) ?_
        refine AllReadyIn.cons rfl (fun K hK => ?_) AllReadyIn.nil
        go_simp
        first | refine ⟨trivial, ?_⟩ | skip
        refine (callsIn_wide.2 (modes_any _)).mono ?_
        rintro e w7 ⟨rfl, hB7⟩
        have h0 := bb hB7 (cell_lt h0) h0
        have f0 := fb hB7 hB4 f0
        have c0 := bb hB7 (cell_lt c0) c0
        have g1 := bb hB7 (cell_lt g1) g1
        have hwW := b_then hwW hB7
        have hT := hT.trans (KeepsOthers.of_grownBy (below_grown hB7) (fun j o ej hj => by cases ej))
        have hKx := hKx.trans (Kx.of (X := fun b => b = w.heap.size) hB7 hwW0)
        have hwW0 := Nat.le_trans hwW0 hB7.size
        have hB4 := Nat.lt_of_lt_of_le hB4 hB7.size
        unfold modesV
        refine hK _ _ ?_
        clear hK K
        try simp only [List.setIfInBounds_toArray, List.set_cons_zero]
        refine wpAnyIn_take (i := 3) (v := ?_) rfl rfl (by kernel_rfl) (by kernel_rfl) (by kernel_rfl) (fun _ _ _ h => h) ⟨Or.inl ⟨by rfl, fun w => ?_⟩, fun _ => rfl⟩ ?_
        rotate_left
        · (go_simp; try with_reducible rfl)
        try simp only [Act.put, List.setIfInBounds_toArray, List.set_cons_zero, List.set_cons_succ]
        refine wpAnyIn_ready (rs := [6]) (by kernel_rfl) (by simp) ?_
        refine AllReadyIn.cons rfl (fun K hK => ?_) AllReadyIn.nil
        go_simp
        first | refine ⟨trivial, ?_⟩ | skip
        refine (callsIn_wide.2 (Add_any v X HVR.out HXR.out _)).mono ?_
        rintro e w8 ⟨rfl, hB8⟩
        have h0 := bb hB8 (cell_lt h0) h0
        have f0 := fb hB8 hB4 f0
        have c0 := bb hB8 (cell_lt c0) c0
        have g1 := bb hB8 (cell_lt g1) g1
        have hwW := b_then hwW hB8
        have hT := hT.trans (KeepsOthers.of_grownBy (below_grown hB8) (fun j o ej hj => by cases ej))
        have hKx := hKx.trans (Kx.of (X := fun b => b = w.heap.size) hB8 hwW0)
        have hwW0 := Nat.le_trans hwW0 hB8.size
        have hB4 := Nat.lt_of_lt_of_le hB4 hB8.size
        rw [HY.out]
        refine hK _ _ ?_
        clear hK K
        try simp only [List.setIfInBounds_toArray, List.set_cons_zero, List.set_cons_succ]
        refine wpAnyIn_ready (rs := [7]) (by kernel_rfl) (by simp) ?_
        refine AllReadyIn.cons rfl (fun K hK => ?_) AllReadyIn.nil
        go_simp
        refine hK _ _ ?_
        clear hK K
        try simp only [List.setIfInBounds_toArray, List.set_cons_zero, List.set_cons_succ]
        refine wpAnyIn_done (by kernel_rfl) ?_ _
        gi_wp2_with fail
        exact ⟨(hT.trans (KeepsOthers.setCell _ _ _)).from _, hKx.set (Nat.le_refl _) rfl _, Y, st_hit _ h0, sf _ f0, st_off _ (.inr (by omega)) g1, b_set hwW (Nat.le_refl _) _, HNEW.out, HRN.out⟩
    · skip
      go_simp
      refine hK _ _ ?_
      clear hK K
      try simp only [List.setIfInBounds_toArray, List.set_cons_zero, List.set_cons_succ]
      refine wpAnyIn_ready (rs := [0, 2]) (by kernel_rfl) (by simp) ?_
      refine AllReadyIn.cons rfl (fun K hK => ?_) (AllReadyIn.cons rfl (fun K hK => ?_) (AllReadyIn.nil))
      · skip
        go_simp
        first | refine ⟨trivial, ?_⟩ | skip
        refine (callsIn_wide.2 (modes_any _)).mono ?_
        rintro e w7 ⟨rfl, hB7⟩
        have h0 := bb hB7 (cell_lt h0) h0
        have f0 := fb hB7 hB4 f0
        have c0 := bb hB7 (cell_lt c0) c0
        have g1 := bb hB7 (cell_lt g1) g1
        have hwW := b_then hwW hB7
        have hT := hT.trans (KeepsOthers.of_grownBy (below_grown hB7) (fun j o ej hj => by cases ej))
        have hKx := hKx.trans (Kx.of (X := fun b => b = w.heap.size) hB7 hwW0)
        have hwW0 := Nat.le_trans hwW0 hB7.size
        have hB4 := Nat.lt_of_lt_of_le hB4 hB7.size
        unfold modesV
        refine hK _ _ ?_
        clear hK K
        try simp only [List.setIfInBounds_toArray, List.set_cons_zero]
        refine wpAnyIn_ready (rs := [2]) (by kernel_rfl) (by simp) ?_
        refine AllReadyIn.cons rfl (fun K hK => ?_) AllReadyIn.nil
        go_simp
        refine hK _ _ ?_
        clear hK K
        try simp only [List.setIfInBounds_toArray, List.set_cons_zero, List.set_cons_succ]
        refine wpAnyIn_take (i := 3) (v := ?_) rfl rfl (by kernel_rfl) (by kernel_rfl) (by kernel_rfl) (fun _ _ _ h => h) ⟨Or.inl ⟨by rfl, fun w => ?_⟩, fun _ => rfl⟩ ?_
        rotate_left
        · (go_simp; try with_reducible rfl)
        try simp only [Act.put, List.setIfInBounds_toArray, List.set_cons_zero, List.set_cons_succ]
        refine wpAnyIn_ready (rs := [6]) (by kernel_rfl) (by simp) ?_
        refine AllReadyIn.cons rfl (fun K hK => ?_) AllReadyIn.nil
        go_simp
        first | refine ⟨trivial, ?_⟩ | skip
        refine (callsIn_wide.2 (Add_any v X HVR.out HXR.out _)).mono ?_
        rintro e w8 ⟨rfl, hB8⟩
        have h0 := bb hB8 (cell_lt h0) h0
        have f0 := fb hB8 hB4 f0
        have c0 := bb hB8 (cell_lt c0) c0
        have g1 := bb hB8 (cell_lt g1) g1
        have hwW := b_then hwW hB8
        have hT := hT.trans (KeepsOthers.of_grownBy (below_grown hB8) (fun j o ej hj => by cases ej))
        have hKx := hKx.trans (Kx.of (X := fun b => b = w.heap.size) hB8 hwW0)
        have hwW0 := Nat.le_trans hwW0 hB8.size
        have hB4 := Nat.lt_of_lt_of_le hB4 hB8.size
        rw [HY.out]
        refine hK _ _ ?_
        clear hK K
        try simp only [List.setIfInBounds_toArray, List.set_cons_zero, List.set_cons_succ]
        refine wpAnyIn_ready (rs := [7]) (by kernel_rfl) (by simp) ?_
        refine AllReadyIn.cons rfl (fun K hK => ?_) AllReadyIn.nil
        go_simp
        refine hK _ _ ?_
        clear hK K
        try simp only [List.setIfInBounds_toArray, List.set_cons_zero, List.set_cons_succ]
        refine wpAnyIn_done (by kernel_rfl) ?_ _
        gi_wp2_with fail
        exact ⟨(hT.trans (KeepsOthers.setCell _ _ _)).from _, hKx.set (Nat.le_refl _) rfl _, Y, st_hit _ h0, sf _ f0, st_off _ (.inr (by omega)) g1, b_set hwW (Nat.le_refl _) _, HNEW.out, HRN.out⟩
      · skip
        go_simp
        refine hK _ _ ?_
        clear hK K
        try simp only [List.setIfInBounds_toArray, List.set_cons_zero, List.set_cons_succ]
        refine wpAnyIn_ready (rs := [0]) (by kernel_rfl) (by simp) ?_
        refine AllReadyIn.cons rfl (fun K hK => ?_) AllReadyIn.nil
        go_simp
        first | refine ⟨trivial, ?_⟩ | skip
        refine (callsIn_wide.2 (modes_any _)).mono ?_
        rintro e w7 ⟨rfl, hB7⟩
        have h0 := bb hB7 (cell_lt h0) h0
        have f0 := fb hB7 hB4 f0
        have c0 := bb hB7 (cell_lt c0) c0
        have g1 := bb hB7 (cell_lt g1) g1
        have hwW := b_then hwW hB7
        have hT := hT.trans (KeepsOthers.of_grownBy (below_grown hB7) (fun j o ej hj => by cases ej))
        have hKx := hKx.trans (Kx.of (X := fun b => b = w.heap.size) hB7 hwW0)
        have hwW0 := Nat.le_trans hwW0 hB7.size
        have hB4 := Nat.lt_of_lt_of_le hB4 hB7.size
        unfold modesV
        refine hK _ _ ?_
        clear hK K
        try simp only [List.setIfInBounds_toArray, List.set_cons_zero]
        refine wpAnyIn_take (i := 3) (v := ?_) rfl rfl (by kernel_rfl) (by kernel_rfl) (by kernel_rfl) (fun _ _ _ h => h) ⟨Or.inl ⟨by rfl, fun w => ?_⟩, fun _ => rfl⟩ ?_
        rotate_left
        · (go_simp; try with_reducible rfl)
        try simp only [Act.put, List.setIfInBounds_toArray, List.set_cons_zero, List.set_cons_succ]
        refine wpAnyIn_ready (rs := [6]) (by kernel_rfl) (by simp) ?_
        refine AllReadyIn.cons rfl (fun K hK => ?_) AllReadyIn.nil
        go_simp
        first | refine ⟨trivial, ?_⟩ | skip
        refine (callsIn_wide.2 (Add_any v X HVR.out HXR.out _)).mono ?_
        rintro e w8 ⟨rfl, hB8⟩
        have h0 := bb hB8 (cell_lt h0) h0
        have f0 := fb hB8 hB4 f0
        have c0 := bb hB8 (cell_lt c0) c0
        have g1 := bb hB8 (cell_lt g1) g1
        have hwW := b_then hwW hB8
        have hT := hT.trans (KeepsOthers.of_grownBy (below_grown hB8) (fun j o ej hj => by cases ej))
        have hKx := hKx.trans (Kx.of (X := fun b => b = w.heap.size) hB8 hwW0)
        have hwW0 := Nat.le_trans hwW0 hB8.size
        have hB4 := Nat.lt_of_lt_of_le hB4 hB8.size
        rw [HY.out]
        refine hK _ _ ?_
        clear hK K
        try simp only [List.setIfInBounds_toArray, List.set_cons_zero, List.set_cons_succ]
        refine wpAnyIn_ready (rs := [7]) (by kernel_rfl) (by simp) ?_
        refine AllReadyIn.cons rfl (fun K hK => ?_) AllReadyIn.nil
        go_simp
        refine hK _ _ ?_
        clear hK K
        try simp only [List.setIfInBounds_toArray, List.set_cons_zero, List.set_cons_succ]
        refine wpAnyIn_done (by kernel_rfl) ?_ _
        gi_wp2_with fail
        exact ⟨(hT.trans (KeepsOthers.setCell _ _ _)).from _, hKx.set (Nat.le_refl _) rfl _, Y, st_hit _ h0, sf _ f0, st_off _ (.inr (by omega)) g1, b_set hwW (Nat.le_refl _) _, HNEW.out, HRN.out⟩
  case done =>
    rintro D zs W hD rfl ⟨v, h0, f0, h1, hb, h2, h3⟩ hK
    have hfin := hid (show v = allV v0 l at_ by rw [h2, accG_fto v0 l at_ nn HN.out nn (Nat.le_refl _), ← HN.out, allJ_all])
    clear h2 h3
    gi_wp2_with fail
    refine ⟨by simp, .inl ⟨_, _, rfl, run_takeDeferred hK, ?_⟩⟩
    exact ⟨.int .i64 v, by simp [results, Try.results58, go_sem], by rw [hfin.out], hb.trans (belowK_b (w := w) (Nat.le_refl _) W D _ _ (by have := hD; omega) hK rfl rfl)⟩
  case stop =>
    rintro D cd pre W hD _ hF
    exact absurd hF id
end Go.Proofs.Ytbppajenihjfhaa
