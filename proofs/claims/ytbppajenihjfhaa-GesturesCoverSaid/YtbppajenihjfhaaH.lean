/- at. -/
import Derived.Test.YtbppajenihjfhaaG
import Derived.Test.YtbppajenihjfhaaP3
namespace Go.Proofs.Ytbppajenihjfhaa
open Go.RowKit Go.Shelf
open Go.Lib (hid)

attribute [local go_sem] Oper.semAt_some

theorem parts_any (a : Option Addr) (n c : Nat) (w : World) :
    Calls Try.prog 83 #[.slice a n c] w fun e w' => e = .returned (.func (.func 104) #[] #[.pointer (some ⟨w.heap.size, 0, none⟩)]) ∧ w' = w.alloc (.cells #[.slice a n c] 48) := by
  go_enter Try.func83, Try.ntmps83
  go_wp2
  go_ret
  exact ⟨rfl, rfl⟩
theorem parts_stops (n : Nat) (hn : 1 ≤ n) (Bm n₀ : Nat) (m : List Tp) (nn : Nat) (hnn : m.length = nn) (hgood : goodB m = true) (a : Option Addr) (c : Nat) (X : Nat → Prop) (w : World) (hn₀ : n₀ ≤ w.heap.size)
    (hm : w.cell? ⟨Bm, 0, none⟩ = some (.slice a nn c)) (hBm : ¬ X Bm) (hX : ∀ b, X b → b < w.heap.size) (hra : ∀ W', Below n₀ w W' → Rd W' a (m.flatMap Tp.c)) :
    SeqStopsK Fence.wide n Try.prog 104 #[.pointer (some ⟨Bm, 0, none⟩)] (fun x : Fin nn => #[partV (tp m x.1) (nx m x.1) (posAt m x.1)]) (Kx n₀ X) (fun ys => ys = List.finRange nn) (fun pre => ∃ j, j < nn ∧ pre = fto nn (j + 1)) 100 w := by
  intro l J Jx W hW hJ _ hY h0
  have hs := hW.size
  exact parts1_in n hn l Bm n₀ m nn hnn hgood a c X J Jx hY W (by omega) hJ ((hW.cell (p := ⟨Bm, 0, none⟩) (cell_lt hm)).trans hm) hBm (fun b hb => Nat.lt_of_lt_of_le (hX b hb) hs) (fun W' h => hra W' ((hW.mono hn₀).trans h)) h0
/-- What holds between two rounds. -/
def AtI (w : World) (nn : Nat) (m : List Tp) (tick : Int) (i : Nat) (x : Int) (pre : List (Fin nn)) (W : World) : Prop :=
  ∃ v : Int, W.cell? ⟨w.heap.size + 1, 0, none⟩ = some (.int .i64 v) ∧ W.frozen? ⟨w.heap.size + 1, 0, none⟩ = false ∧ W.cell? ⟨w.heap.size, 0, none⟩ = some (.int .i64 tick) ∧ Below w.heap.size w W ∧
    (∀ y ∈ pre, (tp m y.1).k ≤ tick) ∧ (∀ y, pre.getLast? = some y → y.1 = i → v = x)
theorem AtI.own {w : World} {nn : Nat} {m : List Tp} {tick : Int} {i : Nat} {x : Int} {B : Nat} (hB : w.heap.size ≤ B) : OwnFrom B (AtI w nn m tick i x) := by
  intro s A C row ⟨v, h0, f0, h1, hb, h2, h3⟩ hg hr
  have hr' : ∀ r, row = some r → ∃ o : Obj, A.heap[r]? = some o ∧ o.isCells = false := fun r e => (hr r e).2
  exact ⟨v, cell_kept h0 hg hr', (frozen_kept h0 hg hr').trans f0, cell_kept h1 hg hr', hb.grown hg hb.size (fun k e => Nat.le_trans hB (hr k e).1), h2, h3⟩
/-- How a round is left early: at the first point behind the tick. -/
def AtX (w : World) (nn : Nat) (m : List Tp) (tick : Int) (i : Nat) (x : Int) (c : Code) (pre : List (Fin nn)) (W : World) : Prop :=
  c = .exit 0 ∧ ∃ pre0 y, pre = pre0 ++ [y] ∧ tick < (tp m y.1).k ∧ AtI w nn m tick i x pre0 W

theorem fto_mem {n j : Nat} {y : Fin n} (h : y.1 < j) : y ∈ fto n j := by
  unfold fto
  rw [List.mem_take_iff_getElem]
  exact ⟨y.1, by simp; omega, by simp⟩
theorem fto_last {n j : Nat} (h : j < n) : (fto n (j + 1)).getLast? = some ⟨j, h⟩ := by rw [fto_next h, List.getLast?_concat]
theorem at_done {m : List Tp} {nn i : Nat} {tick v x : Int} (hn : m.length = nn) (hi : IsAt m tick i) (h2 : ∀ y ∈ List.finRange nn, (tp m y.1).k ≤ tick) (h3 : ∀ y, (List.finRange nn).getLast? = some y → y.1 = i → v = x) : v = x := by
  obtain ⟨a, b, c⟩ := hi
  have hl : i + 1 = nn := by
    refine Decidable.byContradiction fun hne => ?_
    have h : (tp m (i + 1)).k ≤ tick := h2 ⟨i + 1, by omega⟩ (List.mem_finRange _)
    have := c (by omega)
    omega
  subst hl
  refine h3 ⟨i, by omega⟩ ?_ rfl
  rw [← fto_all]
  exact fto_last (by omega)
theorem at_stop {m : List Tp} {nn i j : Nat} {tick v x : Int} {pre p0 : List (Fin nn)} {y : Fin nn} (hg : goodB m = true) (hn : m.length = nn) (hi : IsAt m tick i) (_h0 : 0 ≤ tick) (hj : j < nn) (hpre : pre = fto nn (j + 1)) (hp0 : pre = p0 ++ [y])
    (htk : tick < (tp m y.1).k) (h2 : ∀ z ∈ p0, (tp m z.1).k ≤ tick) (h3 : ∀ z, p0.getLast? = some z → z.1 = i → v = x) : v = x := by
  obtain ⟨a, b, c⟩ := hi
  rw [hp0, fto_next hj] at hpre
  obtain ⟨e1, e2⟩ := List.append_inj' hpre rfl
  simp only [List.cons.injEq, and_true] at e2
  subst e1 e2
  have htk : tick < (tp m j).k := htk
  have h1 : i < j := by
    refine Decidable.byContradiction fun hne => ?_
    have := k_mono hg (show j ≤ i by omega) a
    omega
  have h4 : i + 1 = j := by
    refine Decidable.byContradiction fun hne => ?_
    have : (tp m (i + 1)).k ≤ tick := h2 ⟨i + 1, by omega⟩ (fto_mem (by simp; omega))
    have := c (by omega)
    omega
  subst h4
  exact h3 ⟨i, by omega⟩ (fto_last (by omega)) rfl
theorem sample_some (m : List Tp) (hg : goodB m = true) (x : Nat) (hx : x < m.length) (tick : Int) (hk : (tp m x).k ≤ tick) (h1 : tick ≤ 33554432) (i : Nat) (hi : IsAt m tick i) (w : World) :
    Calls Try.prog 84 #[partV (tp m x) (nx m x) (posAt m x), .int .i64 tick] w fun e w' => (∃ v : Int, e = .returned (.int .i64 v) ∧ (x = i → v = posAt m i + dur (tp m i) (nx m i) (tick - (tp m i).k))) ∧ Below w.heap.size w w' := by
  obtain ⟨l1, l2, l3, l4, l5, l6⟩ := leg_all hg hx rfl rfl rfl
  cases hr : (tp m x).r
  · exact (sample_flat _ _ _ tick w l1 hr l2 hk h1 l5 l6).mono fun e w' ⟨he, hb⟩ => ⟨⟨_, he, fun e => by rw [e]⟩, hb⟩
  · by_cases hxi : x = i
    · have hin : x + 1 < m.length := by
        refine Decidable.byContradiction fun hne => ?_
        rw [last_flat hg (j := x) (by omega)] at hr
        cases hr
      have hc := hi.2.2 (by omega)
      rw [← hxi] at hc
      exact (sample_ramp _ _ _ tick w l1 hr l2 hk h1 l5 l6 (by rw [nx_in hin]; omega) (by omega)).mono fun e w' ⟨he, hb⟩ => ⟨⟨_, he, fun e => by rw [e]⟩, hb⟩
    · exact (sample_far _ _ _ tick w l1 hr l2 hk h1 (by omega)).mono fun e w' ⟨⟨v, he⟩, hb⟩ => ⟨⟨v, he, fun e => absurd e hxi⟩, hb⟩

set_option maxRecDepth 100000 in
set_option maxHeartbeats 4000000 in
theorem at_any (m : List Tp) (nn : Nat) (hnn : m.length = nn) (a : Option Addr) (c : Nat) (tick : Int) (i : Nat) (hi : IsAt m tick i) (h0t : 0 ≤ tick) (h1t : tick ≤ 33554432) (hgood : goodB m = true) (w : World) (hr : Rd w a (m.flatMap Tp.c)) :
    Calls Try.prog 61 #[.slice a nn c, .int .i64 tick] w fun e w' => e = .returned (.int .i64 (posAt m i + dur (tp m i) (nx m i) (tick - (tp m i).k))) ∧ Below w.heap.size w w' := by
  have HR := hid hr; clear hr
  have HI := hid hi; clear hi
  have HN := hid hnn; clear hnn
  refine (callsIn_wide (n := 10)).1 ?_
  refine callsIn_of_wp_marks Try.func61 rfl trivial ?_ rfl
  simp only [Try.ntmps61, List.size_toArray, List.length_cons, List.length_nil, Nat.reduceAdd, Nat.reduceSub, Array.replicate_succ, Array.replicate_zero, List.push_toArray, List.append_toArray, List.nil_append, List.cons_append]
  gi_wp2_with fail
  obtain ⟨V, hV⟩ : ∃ V, V = ((w.alloc (.cells #[.int .i64 tick] 3)).alloc (.cells #[.int .i64 0] 3)) := ⟨_, rfl⟩
  have t0 : ∀ v : After V, v.w.cell? ⟨w.heap.size, 0, none⟩ = some (.int .i64 tick) := after_cell (by rw [hV]; first | (simp; done) | omega | (simp; omega)) (by rw [hV]; (repeat (first | with_reducible assumption | exact bn (by first | (simp; done) | omega | (simp; omega)) rfl | refine bo (by first | (simp; done) | omega | (simp; omega)) ?_)))
  have ft0 : ∀ v : After V, v.w.frozen? ⟨w.heap.size, 0, none⟩ = false := after_frozen (by rw [hV]; first | (simp; done) | omega | (simp; omega)) (by rw [hV]; (repeat (first | exact fn (by first | (simp; done) | omega | (simp; omega)) | refine fo (by first | (simp; done) | omega | (simp; omega)) ?_)))
  have zt : ∀ v : After V, w.heap.size < v.w.heap.size := after_size (by rw [hV]; first | (simp; done) | omega | (simp; omega))
  have r0 : ∀ v : After V, v.w.cell? ⟨w.heap.size + 1, 0, none⟩ = some (.int .i64 0) := after_cell (by rw [hV]; first | (simp; done) | omega | (simp; omega)) (by rw [hV]; (repeat (first | with_reducible assumption | exact bn (by first | (simp; done) | omega | (simp; omega)) rfl | refine bo (by first | (simp; done) | omega | (simp; omega)) ?_)))
  have fr0 : ∀ v : After V, v.w.frozen? ⟨w.heap.size + 1, 0, none⟩ = false := after_frozen (by rw [hV]; first | (simp; done) | omega | (simp; omega)) (by rw [hV]; (repeat (first | exact fn (by first | (simp; done) | omega | (simp; omega)) | refine fo (by first | (simp; done) | omega | (simp; omega)) ?_)))
  have zr : ∀ v : After V, w.heap.size + 1 < v.w.heap.size := after_size (by rw [hV]; first | (simp; done) | omega | (simp; omega))
  have hwV : Below w.heap.size w V := by rw [hV]; exact (by repeat (first | exact Below.refl _ _ | assumption | refine b_then ?_ (by assumption) | refine b_alloc ?_ _ | refine b_drewN ?_ _ | refine b_drew ?_ | refine b_set ?_ (by omega) _ | refine b_set ?_ (by simp) _))
  have WV := hid (after_below hwV)
  rw [← hV]
  obtain ⟨u0, hu⟩ : ∃ u : After V, u.w = V := ⟨After.here V, rfl⟩
  rw [← hu]
  clear hu hV
  refine ⟨trivial, ?_⟩
  refine (callsIn_wide.2 (parts_any a nn c _)).mono ?_
  rintro e w5 ⟨rfl, hw5⟩
  have k0 : w5.cell? ⟨u0.w.heap.size, 0, none⟩ = some (.slice a nn c) := by rw [hw5]; exact bn rfl rfl
  have hsz5 : w5.heap.size = u0.w.heap.size + 1 := by rw [hw5]; simp
  have hB5 : Below u0.w.heap.size u0.w w5 := by rw [hw5]; exact b_alloc (Below.refl _ _) _
  have hzr := zr u0
  obtain ⟨v5, rfl⟩ : ∃ v5 : After V, w5 = v5.w := ⟨u0.on hB5, rfl⟩
  clear hw5 hB5
  have hI0 : AtI w nn m tick i (posAt m i + dur (tp m i) (nx m i) (tick - (tp m i).k)) [] v5.w := ⟨0, r0 v5, fr0 v5, t0 v5, WV.out v5, fun y hy => by simp at hy, fun y hy => by simp at hy⟩
  gi_wp2_with fail
  refine wpIn_rangeFunc_ownH rfl (by omega) (gf := 104) (lb := #[.pointer (some ⟨u0.w.heap.size, 0, none⟩)]) rfl trivial (enters_of Try.func104 (by kernel_rfl) rfl)
    (parts_stops _ (by omega) u0.w.heap.size w.heap.size m nn HN.out hgood a c (fun b => b = w.heap.size + 1) v5.w (by omega) k0 (by omega) (fun b h => by omega) (fun W' h => HR.out.below ((WV.out v5).trans h)))
    (fun h k => h.trans k) ?hKb (Below.refl _ _) (fun _ => rfl)
    (AtI w nn m tick i (posAt m i + dur (tp m i) (nx m i) (tick - (tp m i).k))) (AtX w nn m tick i (posAt m i + dur (tp m i) (nx m i) (tick - (tp m i).k))) (AtI.own (by omega)) (fun cd s A C row hs hg hr => by obtain ⟨h1, p0, y, h2, h3, h4⟩ := hs; exact ⟨h1, p0, y, h2, h3, AtI.own (by omega) _ _ _ _ h4 hg hr⟩) hI0
    (fun x a' W => ∃ Bx, (∀ o u, ([.int .i64 (tp m x.1).k, .int .i64 (tp m x.1).n, .int .i64 (tp m x.1).d, .bool (tp m x.1).r, .int .i64 (nx m x.1).k, .int .i64 (nx m x.1).n, .int .i64 (nx m x.1).d, .bool (nx m x.1).r, .int .i64 (posAt m x.1)] : List Value)[o]? = some u → W.cell? ⟨Bx, o, none⟩ = some u) ∧ a' = { tmps := #[.slice a nn c, .int .i64 tick, undef, .pointer (some ⟨w.heap.size, 0, none⟩), .pointer (some ⟨w.heap.size + 1, 0, none⟩), .pointer (some ⟨Bx, 0, none⟩), .slice a nn c, .func (.func 104) #[] #[.pointer (some ⟨u0.w.heap.size, 0, none⟩)], .agg #[.int .i64 (tp m x.1).k, .int .i64 (tp m x.1).n, .int .i64 (tp m x.1).d, .bool (tp m x.1).r, .int .i64 (nx m x.1).k, .int .i64 (nx m x.1).n, .int .i64 (nx m x.1).d, .bool (nx m x.1).r, .int .i64 (posAt m x.1)], undef, undef, undef, undef, undef, undef, undef, undef, undef], defers := [] })
    (fun x a' _ X Z row hs hg hr => by obtain ⟨Bx, h1, h2⟩ := hs; exact ⟨Bx, fun o u h => cell_kept (h1 o u h) hg (fun r e => (hr r e).2), h2⟩)
    ?assign ?body ?done ?stop
  case hKb =>
    intro W l o o' hl h h1 _
    have hlt := (Array.getElem?_eq_some_iff.1 h).1
    refine ⟨(Below.refl _ W).grown (grownBy_putObj' W l o') (by omega) (fun k e => by cases e; omega), by simp [World.putObj], fun b ob hb hob hc => ?_⟩
    have hne : b ≠ l := fun e => by
      subst e
      rw [h] at hob
      cases hob
      rw [h1] at hc
      cases hc
    rw [World.putObj_heap_other hne]
    exact hob
  case assign =>
    rintro l pre x W K hi hK
    simp only [partV]
    gi_wp2
    exact hK _ _ ((KeepsOthers.alloc _ _).from _) (Kx.of (b_alloc (Below.refl _ _) _) (by obtain ⟨_, _, _, _, hb, _⟩ := hi; exact hb.size)) (AtI.own (Nat.le_refl _) _ W _ none hi (World.grownBy_alloc W _ none) (fun r e => by cases e)) ⟨W.heap.size, fun o u h => bn rfl (by simpa using h), rfl⟩
  case body =>
    rintro l pre x a' W hl ⟨r, hr⟩ ⟨v, h0, f0, h1, hb, h2, h3⟩ ⟨Bx, hx, rfl⟩ hlt
    have hs := hb.size
    have hB4 := cell_lt h0
    have c0 := hx 0 _ rfl
    have c1 := hx 1 _ rfl
    have c2 := hx 2 _ rfl
    have c3 := hx 3 _ rfl
    have c4 := hx 4 _ rfl
    have c5 := hx 5 _ rfl
    have c6 := hx 6 _ rfl
    have c7 := hx 7 _ rfl
    have c8 := hx 8 _ rfl
    clear hx
    have HS := fun hk => sample_some m hgood x.1 (by rw [HN.out]; exact x.2) tick hk h1t i HI.out
    unfold partV at HS
    obtain ⟨p, hp⟩ : ∃ t, tp m x.1 = t := ⟨_, rfl⟩
    have hpk : (tp m x.1).k = p.k := by rw [hp]
    rw [hp] at c0 c1 c2 c3 HS ⊢
    generalize nx m x.1 = q at c4 c5 c6 c7 HS ⊢
    generalize posAt m x.1 = pos at c8 HS ⊢
    have HS := hid HS
    have HPK := hid hpk
    clear hp hpk
    by_cases htk : tick < p.k
    · have d1 : decide (tick < p.k) = true := decide_eq_true htk
      gi_wp2_with fail
      exact ⟨KeepsFrom.refl _ _, rfl, pre, x, rfl, by rw [HPK.out]; exact htk, v, h0, f0, h1, hb, h2, h3⟩
    · have d1 : decide (tick < p.k) = false := decide_eq_false htk
      gi_wp2_with fail
      refine ⟨trivial, ?_⟩
      refine (callsIn_wide.2 (HS.out (by omega) W)).mono ?_
      rintro e w6 ⟨⟨v2, rfl, hv2⟩, hB6⟩
      have g0 := bb hB6 hB4 h0
      have gf := fb hB6 hB4 f0
      have HV2 := hid hv2; clear hv2
      gi_wp2_with fail
      refine ⟨(((KeepsOthers.of_grownBy (below_grown hB6) (fun j o ej hj => by cases ej)).trans (KeepsOthers.setCell _ _ _)).from _), ?_, ?_⟩
      · refine ⟨?_, by simp; exact hB6.size, fun b ob hb' hob hc => ?_⟩
        · exact (hB6.mono hs).setCell (p := ⟨w.heap.size + 1, 0, none⟩) (by simp) _
        · rw [Below.heap_setCell w6 ⟨w.heap.size + 1, 0, none⟩ _ b (by simpa using fun e => hb' e), hB6.block b (Array.getElem?_eq_some_iff.1 hob).1]
          exact hob
      · refine ⟨v2, st_hit _ g0, sf _ gf, st_off _ (.inr (by omega)) (bb hB6 (cell_lt h1) h1), b_set (b_then hb hB6) (by omega) _, fun y hy => ?_, fun y hy hyi => ?_⟩
        · rcases List.mem_append.1 hy with hy | hy
          · exact h2 y hy
          · rw [List.mem_singleton.1 hy, HPK.out]; omega
        · rw [List.getLast?_concat] at hy
          cases hy
          exact HV2.out hyi
  case done =>
    rintro D zs W hD rfl hI' hK
    obtain ⟨v, h0, f0, h1, hb, h2, h3⟩ := hI'
    have hv := at_done HN.out HI.out h2 h3
    subst hv
    gi_wp2
    generalize hZ : World.setCell _ _ _ = Z
    have hKZ : Z.heap[D]? = some (.deferred (some [])) := by rw [← hZ]; exact (KeepsOthers.setCell _ _ _).same D _ hK rfl
    have q0 : (Z.putObj D (.deferred none)).cell? ⟨w.heap.size + 1, 0, none⟩ = some (.int .i64 (posAt m i + dur (tp m i) (nx m i) (tick - (tp m i).k))) := cell_kept (by rw [← hZ]; exact st_hit _ h0) (grownBy_putObj' _ D _) (fun r e => by cases e; exact ⟨_, hKZ, rfl⟩)
    have hWZ : Below w.heap.size w (Z.putObj D (.deferred none)) := by
      refine Below.grown (w := Z) ?_ (grownBy_putObj' Z D _) ?_ (fun k e => by cases e; omega)
      · rw [← hZ]; exact b_set hb (by omega) _
      · rw [← hZ]; have := hb.size; simp; omega
    refine ⟨by simp, .inl ⟨_, _, rfl, run_takeDeferred hKZ, ?_⟩⟩
    exact ⟨.int .i64 (posAt m i + dur (tp m i) (nx m i) (tick - (tp m i).k)), by simp [results, Try.results61, go_sem, q0], rfl, hWZ⟩
  case stop =>
    rintro D cd pre W hD ⟨j, hj, hpre⟩ ⟨rfl, p0, y, hp0, htk, v, h0, f0, h1, hb, h2, h3⟩ hK
    have hv := at_stop hgood HN.out HI.out h0t hj hpre hp0 htk h2 h3
    subst hv
    gi_wp2
    generalize hZ : World.setCell _ _ _ = Z
    have hKZ : Z.heap[D]? = some (.deferred (some [])) := by rw [← hZ]; exact (KeepsOthers.setCell _ _ _).same D _ hK rfl
    have q0 : (Z.putObj D (.deferred none)).cell? ⟨w.heap.size + 1, 0, none⟩ = some (.int .i64 (posAt m i + dur (tp m i) (nx m i) (tick - (tp m i).k))) := cell_kept (by rw [← hZ]; exact st_hit _ h0) (grownBy_putObj' _ D _) (fun r e => by cases e; exact ⟨_, hKZ, rfl⟩)
    have hWZ : Below w.heap.size w (Z.putObj D (.deferred none)) := by
      refine Below.grown (w := Z) ?_ (grownBy_putObj' Z D _) ?_ (fun k e => by cases e; omega)
      · rw [← hZ]; exact b_set hb (by omega) _
      · rw [← hZ]; have := hb.size; simp; omega
    refine ⟨by simp, .inl ⟨_, _, rfl, run_takeDeferred hKZ, ?_⟩⟩
    exact ⟨.int .i64 (posAt m i + dur (tp m i) (nx m i) (tick - (tp m i).k)), by simp [results, Try.results61, go_sem, q0], rfl, hWZ⟩
end Go.Proofs.Ytbppajenihjfhaa
