/- slices.Collect of staying. -/
import Derived.Test.YtbppajenihjfhaaCR
namespace Go.Proofs.Ytbppajenihjfhaa
open Go.RowKit Go.Shelf
open Go.Lib (hid)

attribute [local go_sem] Oper.semAt_some
theorem und36 : Try.prog.underlying 36 = some (.slice 71) := by kernel_rfl
theorem info71 : (Try.prog.info? 71).map (fun i => (i.zero, i.size, i.bytes)) = some (some (.agg #[.int .i64 0, .int .i64 0, .int .i64 0, .int .i64 0, .int .i64 0]), 5, 40) := by kernel_rfl
theorem stay_stops (n : Nat) (hn : 1 ≤ n) (Bm n₀ : Nat) (l : List Kn) (nn : Nat) (hnn : l.length = nn) (h10 : nn ≤ 1024) (a : Option Addr) (c : Nat) (w : World) (hn₀ : n₀ ≤ w.heap.size)
    (hm : w.cell? ⟨Bm, 0, none⟩ = some (.slice a nn c)) (hBm : Bm < n₀) (hra : ∀ W', Below n₀ w W' → Rd W' a (l.flatMap Kn.c)) :
    SeqStopsK Fence.wide n Try.prog 98 #[.pointer (some ⟨Bm, 0, none⟩)] (fun x : Fin nn => #[(kn l x.1).v']) (Kb n₀) (fun ys => ys = ftsn l nn nn) (fun pre => ∃ j, j < nn ∧ stB l j = true ∧ pre = ftsn l nn (j + 1)) 2000 w := by
  intro l' J Jx W hW hJ _ hY h0
  have hs := hW.size
  exact stay1_in n hn l' Bm n₀ l nn hnn h10 a c J Jx hY W (by omega) hJ ((hW.cell (p := ⟨Bm, 0, none⟩) (cell_lt hm)).trans hm) hBm (fun W' h => hra W' ((hW.mono hn₀).trans h)) h0
/-- The knots that stay. -/
def stayL (l : List Kn) (nn : Nat) : List Kn := (ftsn l nn nn).map fun x => kn l x.1
theorem stay_cells (l : List Kn) (nn : Nat) (s : List (Fin nn)) : (s.map fun x => kn l x.1).flatMap Kn.c = s.flatMap fun x => (kn l x.1).c := by
  induction s with
  | nil => rfl
  | cons x s ih => simp [ih]
set_option maxRecDepth 100000 in
set_option maxHeartbeats 4000000 in
theorem appendSeq_any (l : List Kn) (nn : Nat) (hnn : l.length = nn) (h10 : nn ≤ 1024) (a : Option Addr) (c Bm : Nat) (w : World) (hm : w.cell? ⟨Bm, 0, none⟩ = some (.slice a nn c)) (hr : Rd w a (l.flatMap Kn.c)) :
    Calls Try.prog 97 #[.slice none 0 0, .func (.func 98) #[] #[.pointer (some ⟨Bm, 0, none⟩)]] w fun e w' => (∃ v, e = .returned v ∧ w'.ownsRow w.heap.size 71 5 v (stayL l nn).length ((stayL l nn).flatMap Kn.c)) ∧ Below w.heap.size w w' := by
  have HR := hid hr; clear hr
  have HN := hid hnn; clear hnn
  have hBm := cell_lt hm
  obtain ⟨i0, hi, hz0, hz1, hz2⟩ := info_parts info71
  refine (callsIn_wide (n := 10)).1 ?_
  refine callsIn_of_wp_marks Try.func97 rfl trivial ?_ rfl
  simp only [Try.ntmps97, List.size_toArray, List.length_cons, List.length_nil, Nat.reduceAdd, Nat.reduceSub, Array.replicate_succ, Array.replicate_zero, List.push_toArray, List.append_toArray, List.nil_append, List.cons_append]
  gi_wp2_with fail
  refine wpIn_rangeFunc_ownH rfl (by omega) (gf := 98) (lb := #[.pointer (some ⟨Bm, 0, none⟩)]) rfl trivial (enters_of Try.func98 (by kernel_rfl) rfl)
    (stay_stops _ (by omega) Bm w.heap.size l nn HN.out h10 a c (w.alloc (.cells #[.slice none 0 0] 36)) (by simp) (bo hBm hm) hBm (fun W' h => HR.out.below ((b_alloc (Below.refl _ _) _).trans h)))
    (fun h k => h.trans k) ?hKb (Below.refl _ _) (fun _ => rfl)
    (fun s W => (∃ v, Boxed W w.heap.size 36 v ∧ W.ownsRow w.heap.size 71 5 v s.length ((fun s : List (Fin nn) => s.flatMap fun x => (kn l x.1).c) s) ∧ True) ∧ Below w.heap.size w W) (fun _ _ _ => False)
    (OwnFrom.and (Own.from (holdsRow_own w.heap.size w.heap.size 36 71 5 (fun s => s.length) (fun s : List (Fin nn) => s.flatMap fun x => (kn l x.1).c) (fun _ _ => True)) _) (ownFrom_below (Nat.le_refl _) (by simp))) (fun _ s A C row hs _ _ => hs)
    ⟨⟨.slice none 0 0, Boxed.new w 36 _, World.ownsRow_nil _ _ _ _, trivial⟩, b_alloc (Below.refl _ _) _⟩
    (fun x a' W => ∃ Bx, (∀ o u, ((kn l x.1).c)[o]? = some u → W.cell? ⟨Bx, o, none⟩ = some u) ∧ a' = { tmps := #[.slice none 0 0, .func (.func 98) #[] #[.pointer (some ⟨Bm, 0, none⟩)], .pointer (some ⟨w.heap.size, 0, none⟩), undef, .slice none 0 0, .pointer (some ⟨Bx, 0, none⟩), .func (.func 98) #[] #[.pointer (some ⟨Bm, 0, none⟩)], .agg #[.int .i64 (kn l x.1).k, .int .i64 (kn l x.1).v, .int .i64 (kn l x.1).s, .int .i64 (kn l x.1).a, .int .i64 (kn l x.1).b], undef, undef, undef, undef, undef], defers := [] })
    (fun x a' _ X Z row hs hg hr => by obtain ⟨Bx, h1, h2⟩ := hs; exact ⟨Bx, fun o u h => cell_kept (h1 o u h) hg (fun r e => (hr r e).2), h2⟩)
    ?assign ?body ?done ?stop
  case hKb =>
    intro W l' o o' hl h h1 h2
    exact ⟨belowK_b (w := w.alloc (.cells #[.slice none 0 0] 36)) (by simp) W l' o o' hl h h1 h2, by simp [World.putObj]⟩
  case assign =>
    rintro l' pre x W K ⟨⟨v, hbx, hrow, -⟩, hb⟩ hK
    simp only [Kn.v']
    gi_wp2
    exact hK _ _ ((KeepsOthers.alloc _ _).from _) (Kb.of (b_alloc (Below.refl _ _) _) hb.size) ⟨⟨v, hbx.alloc _, hrow.alloc _, trivial⟩, b_alloc hb _⟩ ⟨W.heap.size, fun o u h => bn rfl (by simpa [Kn.c] using h), rfl⟩
  case body =>
    rintro l' pre x a' W hl ⟨r, hr⟩ ⟨⟨v, hbx, hrow, -⟩, hb⟩ ⟨Bx, hx, rfl⟩ hlt
    have c0 := hx 0 _ rfl
    have c1 := hx 1 _ rfl
    have c2 := hx 2 _ rfl
    have c3 := hx 3 _ rfl
    have c4 := hx 4 _ rfl
    have hc := hbx.cell
    have hf := hbx.frozen
    have hsz := hb.size
    clear hx
    gi_wp2_with (gi_at_builtin; refine wpListIn_append_own _ rfl _ _ 36 rfl w.heap.size 71 i0 (.agg #[.int .i64 0, .int .i64 0, .int .i64 0, .int .i64 0, .int .i64 0]) 5 40 und36 hi hz0 hz1 hz2 rfl (by decide) _ _ _ rfl (hrow.alloc _) ⟨W.heap.size, 0, none⟩ 1 1 (kn l x.1).c rfl rfl (news rfl) (kn l x.1).one (by unfold maxLen; omega) (by omega) (by simp; omega) ?_; intro v' w1 hown' hgrow _; obtain ⟨g', cap', rfl⟩ := ownsRow_succ hown'; obtain ⟨hv1, hv2, hr2, hk2, hb2⟩ := hbx.appended (by decide) hrow hb.size (Nat.le_refl _) hown' hgrow; have hc1 := hv1.cell; have hf1 := hv1.frozen; clear hc hf hown' hgrow)
    refine ⟨hk2.from _, ⟨hb2, hb2.size⟩, ⟨_, hv2, ?_⟩, hb.trans hb2⟩
    rw [List.length_append, List.flatMap_append, List.flatMap_cons, List.flatMap_nil, List.append_nil]
    exact hr2
  case done =>
    rintro D zs W hD rfl ⟨⟨v, hbx, hrow, -⟩, hb⟩ hK
    have hc := hbx.cell
    gi_wp2
    refine ⟨by simp, .inl ⟨_, _, rfl, run_takeDeferred hK, ?_⟩⟩
    exact ⟨v, by simp [results, Try.results97, go_sem], ⟨v, rfl, by rw [stayL, List.length_map, stay_cells]; exact ownsRow_putObj hrow _ hK rfl⟩, hb.trans (belowK_b (w := w) (Nat.le_refl _) W D _ _ (by simp at hD; omega) hK rfl rfl)⟩
  case stop =>
    rintro D cd pre W hD _ hF
    exact absurd hF id
set_option maxRecDepth 100000 in
set_option maxHeartbeats 4000000 in
theorem collect_any (l : List Kn) (nn : Nat) (hnn : l.length = nn) (h10 : nn ≤ 1024) (a : Option Addr) (c Bm : Nat) (w : World) (hm : w.cell? ⟨Bm, 0, none⟩ = some (.slice a nn c)) (hr : Rd w a (l.flatMap Kn.c)) :
    Calls Try.prog 77 #[.func (.func 98) #[] #[.pointer (some ⟨Bm, 0, none⟩)]] w fun e w' => (∃ v, e = .returned v ∧ w'.ownsRow w.heap.size 71 5 v (stayL l nn).length ((stayL l nn).flatMap Kn.c)) ∧ Below w.heap.size w w' := by
  have HC := hid (appendSeq_any l nn hnn h10 a c Bm w hm hr)
  clear hnn hm hr
  go_enter Try.func77, Try.ntmps77
  go_wp2_with fail
  refine HC.out.mono ?_
  rintro e w9 ⟨⟨v, rfl, ho⟩, hB⟩
  have HO := hid ho; clear ho
  go_wp2_with fail
  exact bodyPost_ret (v := v) (by simp [results, Try.results77, go_sem]) rfl ⟨⟨v, rfl, HO.out⟩, hB⟩
end Go.Proofs.Ytbppajenihjfhaa
