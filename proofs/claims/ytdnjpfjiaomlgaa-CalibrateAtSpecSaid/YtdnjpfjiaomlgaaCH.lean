/- Changed. -/
import Derived.Test.YtdnjpfjiaomlgaaCH0
import Derived.IntWalk
namespace Go.Proofs.Ytdnjpfjiaomlgaa
open Go.RowKit Go.Shelf
open Go.Lib (hid)

attribute [local go_sem] Oper.semAt_some
/-- The cells of a span, its end changed. -/
theorem sp_set (init : List Sp) (s : Sp) (e : Int) : ((init ++ [s]).flatMap Sp.cs).set (init.length * 3 + 2) (.int .i64 e) = (init ++ [(⟨s.d, s.a, e⟩ : Sp)]).flatMap Sp.cs := by
  rw [List.flatMap_append, List.flatMap_append, List.set_append_right _ _ (by rw [flat_len Sp.cs 3 Sp.c3]; omega), flat_len Sp.cs 3 Sp.c3]
  rw [show init.length * 3 + 2 - init.length * 3 = 2 by omega]
  rfl
theorem own_cell {W : World} {base : Nat} {e : TypeId} {size n g cap : Nat} {xs : List Value} (h : W.ownsRow base e size (.slice (some ⟨g, 0, none⟩) n cap) n xs) {i : Nat} {u : Value} (hu : xs[i]? = some u) : W.cell? ⟨g, i, none⟩ = some u := by
  rcases h.2 with ⟨hv, _⟩ | ⟨g', cap', cur, hv, _, hg, _, _, _, ht⟩
  · cases hv
  · cases hv
    rw [cell_of_row W g _ cur e (0, 0) hg]
    rw [← ht, List.getElem?_take] at hu
    split at hu
    · simpa using hu
    · cases hu
theorem own_cells {A C : World} {base : Nat} {e : TypeId} {size n : Nat} {v : Value} {xs : List Value} (h : A.ownsRow base e size v n xs) (hk : ∀ (b : Nat) (cs : Array Value) (t : TypeId) (fr : Nat × Nat), A.heap[b]? = some (Obj.cells cs t fr) → C.heap[b]? = some (Obj.cells cs t fr)) : C.ownsRow base e size v n xs := by
  refine ⟨h.1, ?_⟩
  rcases h.2 with hn | ⟨g, cap, cur, rfl, hb, hg, rest⟩
  · exact .inl hn
  · exact .inr ⟨g, cap, cur, rfl, hb, hk _ _ _ _ hg, rest⟩
theorem boxed_new {W : World} {b : Nat} {t : TypeId} {v : Value} (h : b = W.heap.size) : Boxed (W.alloc (.cells #[v] t)) b t v := by
  subst h
  exact Boxed.new W t v
theorem Kz.grown {n₀ : Nat} {X : Nat → Prop} {e : TypeId} {W W' W2 : World} {row : Option Nat} (h : Kz n₀ X e W W') (hg : W'.grownBy W2 row) (hn : n₀ ≤ W'.heap.size) (hr : ∀ r, row = some r → n₀ ≤ r ∧ ∃ cs fr, W'.heap[r]? = some (Obj.cells cs e fr)) : Kz n₀ X e W W2 :=
  ⟨h.below.grown hg hn (fun k ek => (hr k ek).1), Nat.le_trans h.size hg.size, fun b cs t fr hb ht ho => by
    have h2 := h.keep b cs t fr hb ht ho
    refine (hg.block b (Array.getElem?_eq_some_iff.1 h2).1 (fun ek => ?_)).trans h2
    obtain ⟨_, cs', fr', h3⟩ := hr b ek.symm
    rw [h2] at h3
    cases h3
    exact ht rfl⟩
theorem own_heap {W : World} {base : Nat} {e : TypeId} {size n g cap : Nat} {xs : List Value} (h : W.ownsRow base e size (.slice (some ⟨g, 0, none⟩) n cap) n xs) : base ≤ g ∧ ∃ cur, W.heap[g]? = some (.cells cur e (0, 0)) := by
  rcases h.2 with ⟨hv, _⟩ | ⟨g', cap', cur, hv, hb, hg, _⟩
  · cases hv
  · cases hv
    exact ⟨hb, cur, hg⟩
set_option maxRecDepth 100000 in
set_option maxHeartbeats 4000000 in
theorem changed_any (l : List Rc) (nn : Nat) (hnn : l.length = nn) (a : Option Addr) (c : Nat) (k1 k2 : Int) (w : World) (hn : nn ≤ 9223372036854775807) (hr : Rd w a (l.flatMap Rc.cs)) :
    Calls Try.prog 17 #[.slice a nn c, .int .i64 k1, .int .i64 k2] w fun e w' => ∃ v, e = .returned (.tuple #[v, .int .i64 (chE l k1 k2)]) ∧ SpIs w' v (chV l k1 k2) ∧ Below w.heap.size w w' := by
  have HN := hid hnn; have HR := hid (after_rd hr)
  clear hnn hr
  obtain ⟨i0, hi, hz0, hz1, hz2⟩ := info_parts info40
  refine (callsIn_wide (n := 10)).1 ?_
  refine callsIn_of_wp_marks Try.func17 rfl trivial ?_ rfl
  simp only [Try.ntmps17, List.size_toArray, List.length_cons, List.length_nil, Nat.reduceAdd, Nat.reduceSub, Array.replicate_succ, Array.replicate_zero, List.push_toArray, List.append_toArray, List.nil_append, List.cons_append]
  gi_wp2_with fail
  obtain ⟨V, hV⟩ : ∃ V, V = ((((w.alloc (.cells #[.slice a nn c] 22)).alloc (.cells #[.int .i64 k1] 3)).alloc (.cells #[.int .i64 k2] 3)).alloc (.cells #[.slice none 0 0] 34)) := ⟨_, rfl⟩
  have s0 : ∀ v : After V, v.w.cell? ⟨w.heap.size, 0, none⟩ = some (.slice a nn c) := after_cell (by rw [hV]; first | (simp; done) | omega | (simp; omega)) (by rw [hV]; (repeat (first | with_reducible assumption | exact bn (by first | (simp; done) | omega | (simp; omega)) rfl | refine bo (by first | (simp; done) | omega | (simp; omega)) ?_)))
  have fs0 : ∀ v : After V, v.w.frozen? ⟨w.heap.size, 0, none⟩ = false := after_frozen (by rw [hV]; first | (simp; done) | omega | (simp; omega)) (by rw [hV]; (repeat (first | exact fn (by first | (simp; done) | omega | (simp; omega)) | refine fo (by first | (simp; done) | omega | (simp; omega)) ?_)))
  have zs : ∀ v : After V, w.heap.size < v.w.heap.size := after_size (by rw [hV]; first | (simp; done) | omega | (simp; omega))
  have b0 : ∀ v : After V, v.w.cell? ⟨w.heap.size + 1, 0, none⟩ = some (.int .i64 k1) := after_cell (by rw [hV]; first | (simp; done) | omega | (simp; omega)) (by rw [hV]; (repeat (first | with_reducible assumption | exact bn (by first | (simp; done) | omega | (simp; omega)) rfl | refine bo (by first | (simp; done) | omega | (simp; omega)) ?_)))
  have fb0 : ∀ v : After V, v.w.frozen? ⟨w.heap.size + 1, 0, none⟩ = false := after_frozen (by rw [hV]; first | (simp; done) | omega | (simp; omega)) (by rw [hV]; (repeat (first | exact fn (by first | (simp; done) | omega | (simp; omega)) | refine fo (by first | (simp; done) | omega | (simp; omega)) ?_)))
  have zb : ∀ v : After V, w.heap.size + 1 < v.w.heap.size := after_size (by rw [hV]; first | (simp; done) | omega | (simp; omega))
  have f0 : ∀ v : After V, v.w.cell? ⟨w.heap.size + 1 + 1, 0, none⟩ = some (.int .i64 k2) := after_cell (by rw [hV]; first | (simp; done) | omega | (simp; omega)) (by rw [hV]; (repeat (first | with_reducible assumption | exact bn (by first | (simp; done) | omega | (simp; omega)) rfl | refine bo (by first | (simp; done) | omega | (simp; omega)) ?_)))
  have ff0 : ∀ v : After V, v.w.frozen? ⟨w.heap.size + 1 + 1, 0, none⟩ = false := after_frozen (by rw [hV]; first | (simp; done) | omega | (simp; omega)) (by rw [hV]; (repeat (first | exact fn (by first | (simp; done) | omega | (simp; omega)) | refine fo (by first | (simp; done) | omega | (simp; omega)) ?_)))
  have zf : ∀ v : After V, w.heap.size + 1 + 1 < v.w.heap.size := after_size (by rw [hV]; first | (simp; done) | omega | (simp; omega))
  have x0 : ∀ v : After V, v.w.cell? ⟨w.heap.size + 1 + 1 + 1, 0, none⟩ = some (.slice none 0 0) := after_cell (by rw [hV]; first | (simp; done) | omega | (simp; omega)) (by rw [hV]; (repeat (first | with_reducible assumption | exact bn (by first | (simp; done) | omega | (simp; omega)) rfl | refine bo (by first | (simp; done) | omega | (simp; omega)) ?_)))
  have fx0 : ∀ v : After V, v.w.frozen? ⟨w.heap.size + 1 + 1 + 1, 0, none⟩ = false := after_frozen (by rw [hV]; first | (simp; done) | omega | (simp; omega)) (by rw [hV]; (repeat (first | exact fn (by first | (simp; done) | omega | (simp; omega)) | refine fo (by first | (simp; done) | omega | (simp; omega)) ?_)))
  have zx : ∀ v : After V, w.heap.size + 1 + 1 + 1 < v.w.heap.size := after_size (by rw [hV]; first | (simp; done) | omega | (simp; omega))
  have hwV : Below w.heap.size w V := by rw [hV]; exact (by repeat (first | exact Below.refl _ _ | assumption | refine b_then ?_ (by assumption) | refine b_alloc ?_ _ | refine b_drewN ?_ _ | refine b_drew ?_ | refine b_set ?_ (by omega) _ | refine b_set ?_ (by simp) _))
  have WV := hid (after_below hwV)
  rw [← hV]
  obtain ⟨u0, hu⟩ : ∃ u : After V, u.w = V := ⟨After.here V, rfl⟩
  rw [← hu]
  have BX0 := hid (show Boxed V w.heap.size 22 (.slice a nn c) by rw [hV]; exact (((boxed_new rfl).alloc _).alloc _).alloc _)
  have BX1 := hid (show Boxed V (w.heap.size + 1) 3 (.int .i64 k1) by rw [hV]; exact ((boxed_new (by simp)).alloc _).alloc _)
  have BX2 := hid (show Boxed V (w.heap.size + 2) 3 (.int .i64 k2) by rw [hV]; exact (boxed_new (by simp)).alloc _)
  have BX3 := hid (show Boxed V (w.heap.size + 3) 34 (.slice none 0 0) by rw [hV]; exact boxed_new (by simp))
  clear hu hV
  have RV := hid (fun v : After V => HR.out (After.to (WV.out v)))
  refine ⟨trivial, ?_⟩
  refine (callsIn_wide.2 (met (check_any l nn HN.out a c u0.w hn (RV.out u0)))).mono ?_
  rintro e _ ⟨rfl, u1, rfl⟩
  by_cases hc : chkR l = 0
  case neg =>
    have HE := hid (chE_bad (k1 := k1) (k2 := k2) hc)
    have hne : (chkR l != 0) = true := by simpa using hc
    obtain ⟨E, hE⟩ : ∃ E, chkR l = E := ⟨_, rfl⟩
    rw [hE] at hne HE
    rw [hE]
    have HK := hid (show ¬ E = 0 by rw [← hE]; exact hc)
    clear hc hE
    have x9 := x0 u1
    have xf9 := fx0 u1
    have w9 := WV.out u1
    gi_wp2_with fail
    generalize hZ : World.setCell _ _ _ = Z
    have q0 : Z.cell? ⟨w.heap.size + 3, 0, none⟩ = some (.slice none 0 0) := by rw [← hZ]; exact st_hit _ x9
    have hWZ : Below w.heap.size w Z := by rw [← hZ]; exact b_set w9 (by omega) _
    refine ⟨.tuple #[.slice none 0 0, .int .i64 E], by simp [results, Try.results17, go_sem, q0], ⟨_, by rw [HE.out], by rw [chV_no (by rw [HE.out]; first | decide | exact HK.out)]; exact SpIs.nil _, hWZ⟩⟩
  rw [hc]
  have HC := hid hc; clear hc
  have h256 := (chkR_good HC.out).1
  have HL := hid (chkR_good HC.out).2
  rw [HN.out] at h256
  obtain ⟨mn, hmn⟩ : ∃ mn, (if k2 < k1 then k2 else k1) = mn := ⟨_, rfl⟩
  obtain ⟨mx, hmx⟩ : ∃ mx, (if k1 < k2 then k2 else k1) = mx := ⟨_, rfl⟩
  have b9 := b0 u1
  have f9 := f0 u1
  have HMN := hid hmn; have HMX := hid hmx
  rcases t0 : decide (mn < 0) with _ | _
  case true =>
    have HE := hid (chE_bad2 HC.out HMN.out HMX.out (.inl (of_decide_eq_true t0)))
    have x9 := x0 u1
    have xf9 := fx0 u1
    have w9 := WV.out u1
    gi_wp2_with fail
    generalize hZ : World.setCell _ _ _ = Z
    have q0 : Z.cell? ⟨w.heap.size + 3, 0, none⟩ = some (.slice none 0 0) := by rw [← hZ]; exact st_hit _ x9
    have hWZ : Below w.heap.size w Z := by rw [← hZ]; exact b_set w9 (by omega) _
    refine ⟨.tuple #[.slice none 0 0, .int .i64 1], by simp [results, Try.results17, go_sem, q0], ⟨_, by rw [HE.out], by rw [chV_no (by rw [HE.out]; first | decide | exact HK.out)]; exact SpIs.nil _, hWZ⟩⟩
  rcases t2 : decide (16777216 < mx) with _ | _
  case true =>
    have HE := hid (chE_bad2 HC.out HMN.out HMX.out (.inr (of_decide_eq_true t2)))
    have x9 := x0 u1
    have xf9 := fx0 u1
    have w9 := WV.out u1
    gi_wp2_with fail
    generalize hZ : World.setCell _ _ _ = Z
    have q0 : Z.cell? ⟨w.heap.size + 3, 0, none⟩ = some (.slice none 0 0) := by rw [← hZ]; exact st_hit _ x9
    have hWZ : Below w.heap.size w Z := by rw [← hZ]; exact b_set w9 (by omega) _
    refine ⟨.tuple #[.slice none 0 0, .int .i64 1], by simp [results, Try.results17, go_sem, q0], ⟨_, by rw [HE.out], by rw [chV_no (by rw [HE.out]; first | decide | exact HK.out)]; exact SpIs.nil _, hWZ⟩⟩
  have HE := hid (chE_ok2 HC.out HMN.out HMX.out (of_decide_eq_false t0) (of_decide_eq_false t2))
  gi_wp2_with fail
  refine wpIn_loop (I := fun a' wr => ∃ (j : Nat) (Ds : List Nat) (u8 u9 u28 u29 u30 u31 u32 u64 : Value), j ≤ 16 ∧ a' = { tmps := #[.slice a nn c, .int .i64 k1, .int .i64 k2, .pointer (some ⟨w.heap.size, 0, none⟩), .pointer (some ⟨w.heap.size + 1, 0, none⟩), .pointer (some ⟨w.heap.size + 2, 0, none⟩), .pointer (some ⟨w.heap.size + 3, 0, none⟩), .int .i64 0, u8, u9, undef, undef, .slice a nn c, .int .i64 0, .int .i64 0, .bool false, undef, .int .i64 k1, .int .i64 k2, .int .i64 mn, .bool false, .bool false, .int .i64 k1, .int .i64 k2, .int .i64 mx, .bool false, .bool false, .int .i64 (j : Int), u28, u29, u30, u31, u32, undef, undef, undef, undef, undef, undef, undef, undef, undef, undef, undef, undef, undef, undef, undef, undef, undef, undef, undef, undef, undef, undef, undef, undef, undef, undef, undef, undef, undef, undef, undef, u64, undef], defers := Ds.map mark } ∧ ChI l k1 k2 a nn c w Ds j wr) (μ := fun a' _ => 16 - (intOf (a'.tmps.getD 27 undef)).toNat) ?_ ?_
  · exact ⟨0, [], undef, undef, undef, undef, undef, undef, undef, undef, by omega, rfl, .slice none 0 0, bx_after BX0.out u1.2, bx_after BX1.out u1.2, bx_after BX2.out u1.2, bx_after BX3.out u1.2, World.ownsRow_nil _ _ _ _, WV.out u1, List.nodup_nil, fun D h => by cases h⟩
  clear b9 f9 hmn hmx t0 t2 BX0 BX1 BX2 BX3
  clear s0 fs0 zs b0 fb0 zb f0 ff0 zf x0 fx0 zx RV
  rintro a' wr ⟨j, Ds, u8, u9, u28, u29, u30, u31, u32, u64, hj, rfl, v, g0, g1, g2, g3, g4, g5, g6, g7⟩
  by_cases hlt : j < 16
  case neg =>
    have d1 : decide ((j : Int) < 16) = false := decide_eq_false (by omega)
    have d1' : decide (j < 16) = false := decide_eq_false hlt
    obtain rfl : j = 16 := by omega
    obtain ⟨xa, xc, rfl, hxc, hxn, hxR, -⟩ := own_slice g4
    have hx := g3.cell
    have hxf := g3.frozen
    have hsz := g5.size
    have HL4 := hid g4
    obtain ⟨n, hn'⟩ : ∃ n, (chgN l k1 k2 16).length = n := ⟨_, rfl⟩
    have HLN := hid hn'
    rw [hn'] at hx hxc g3
    rw [hn'] at g4
    clear hxR hxn hn'
    gi_wp2_with fail
    generalize hZ : World.setCell _ _ _ = Z
    have hZ3 : Boxed Z (w.heap.size + 3) 34 (.slice xa n xc) := by rw [← hZ]; exact g3.set _
    have hZ4 : Z.ownsRow w.heap.size 40 3 (.slice xa n xc) n ((chgN l k1 k2 16).flatMap Sp.cs) := by rw [← hZ]; exact g4.kept (grownBy_setCell' wr (w.heap.size + 3) _) (.inr (g3.not_row (by decide) g4).symm)
    have hZ5 : Below w.heap.size w Z := by rw [← hZ]; exact b_set g5 (by omega) _
    refine leave_marks (B := w.heap.size) Ds Z g6 (fun D hD => ⟨(g7 D hD).1, by rw [← hZ]; exact (KeepsOthers.setCell _ _ _).same D _ (g7 D hD).2.2 rfl⟩) hZ5.size (fun w' hb hk => ?_)
    have q0 := (show Boxed w' (w.heap.size + 3) 34 (.slice xa n xc) from hk _ _ _ _ hZ3).cell
    have hown := own_cells hZ4 hk
    refine ⟨.tuple #[.slice xa n xc, .int .i64 0], by simp [results, Try.results17, go_sem, q0], _, by rw [HE.out], ?_, hZ5.trans hb⟩
    rw [chV_ok HE.out]
    exact ⟨xa, xc, by rw [HLN.out], Rd.own hown, by rw [HLN.out]; exact hxc⟩
  have d1 : decide ((j : Int) < 16) = true := decide_eq_true (by omega)
  have d1' : decide (j < 16) = true := decide_eq_true hlt
  have w1 : IntKind.i64.wrap ((j : Int) + 1) = (j : Int) + 1 := IntWalk.i64_in _ (by omega)
  have hs0 := (((bx_after g0 (b_alloc (Below.refl _ _) (.cells #[.int .i64 (j : Int)] 3))).alloc (.cells #[.int .i64 (-1)] 3))).cell
  have hgsz := g5.size
  gi_wp2_with fail
  refine ⟨trivial, ?_⟩
  refine (callsIn_wide.2 (pieces_any a nn c (j : Int) _)).mono ?_
  rintro e w5 ⟨rfl, hw5⟩
  obtain ⟨T, hT⟩ : ∃ T, wr.heap.size = T := ⟨_, rfl⟩
  have hT4 := g3.lt
  rw [hT] at hgsz hT4
  have e0 : Boxed w5 w.heap.size 22 (.slice a nn c) := by rw [hw5]; exact (((g0.alloc _).alloc _).alloc _).alloc _
  have e1 : Boxed w5 (w.heap.size + 1) 3 (.int .i64 k1) := by rw [hw5]; exact (((g1.alloc _).alloc _).alloc _).alloc _
  have e2 : Boxed w5 (w.heap.size + 2) 3 (.int .i64 k2) := by rw [hw5]; exact (((g2.alloc _).alloc _).alloc _).alloc _
  have e3 : Boxed w5 (w.heap.size + 3) 34 v := by rw [hw5]; exact (((g3.alloc _).alloc _).alloc _).alloc _
  have e4 : w5.ownsRow w.heap.size 40 3 v (chgN l k1 k2 j).length ((chgN l k1 k2 j).flatMap Sp.cs) := by rw [hw5]; exact own_after (own_after (own_after (own_after g4 (b_alloc (Below.refl _ _) _)) (b_alloc (Below.refl _ _) _)) (b_alloc (Below.refl _ _) _)) (b_alloc (Below.refl _ _) _)
  have e5 : Below w.heap.size w w5 := by rw [hw5]; exact b_alloc (b_alloc (b_alloc (b_alloc g5 _) _) _) _
  have ed : Boxed w5 T 3 (.int .i64 (j : Int)) := by rw [hw5]; exact (((boxed_new hT.symm).alloc _).alloc _).alloc _
  have el : Boxed w5 (T + 1) 3 (.int .i64 (-1)) := by rw [hw5]; exact ((boxed_new (by simp; omega)).alloc _).alloc _
  have em : Boxed w5 (T + 2) 22 (.slice a nn c) := by rw [hw5]; exact (boxed_new (by simp; omega)).alloc _
  have ep : Boxed w5 (T + 3) 3 (.int .i64 (j : Int)) := by rw [hw5]; exact boxed_new (by simp; omega)
  have hsz5 : w5.heap.size = T + 4 := by rw [hw5]; simp; omega
  have e7 : ∀ D ∈ Ds, D < T ∧ w5.heap[D]? = some (.deferred (some [])) := fun D hD => by
    obtain ⟨_, h2, h3⟩ := g7 D hD
    refine ⟨by omega, ?_⟩
    rw [hw5]
    exact ((b_alloc (b_alloc (b_alloc (b_alloc (Below.refl wr.heap.size wr) _) _) _) _).block D h2).trans h3
  clear hw5 hs0 g0 g1 g2 g3 g4 d1 d1'
  try rw [hT]
  obtain ⟨out0, hout0⟩ : ∃ o, chgN l k1 k2 j = o := ⟨_, rfl⟩
  have hup := chgN_upto HL.out k1 k2 (n := j) (by omega)
  rw [hout0] at e4 hup
  have hol : out0.length ≤ 4112 := by
    have := chgN_len (l := l) (by rw [HN.out]; exact h256) k1 k2 j
    rw [hout0] at this
    omega
  have HOUT := hid hout0
  clear hout0
  obtain ⟨np, hnp⟩ : ∃ np, (pcs l (j : Int)).length = np := ⟨_, rfl⟩
  have HNP := hid hnp
  have hI0 : CgI l k1 k2 a nn c (j : Int) T (T + 1) w Ds out0 (np := np) [] w5 := ⟨v, -1, e0, e1, e2, ed, el, e3, e4, hid (LstIs.start hup), e5, fun D hD => (e7 D hD).2⟩
  clear e0 e1 e2 e3 e4 ed el hup
  gi_wp2_with fail
  refine wpIn_rangeFunc_ownH rfl (by omega) (gf := 38) (lb := #[.pointer (some ⟨T + 2, 0, none⟩), .pointer (some ⟨T + 3, 0, none⟩)]) rfl trivial (enters_of Try.func38 (by kernel_rfl) rfl)
    (piece_stops _ (by omega) (T + 2) (T + 3) w.heap.size l nn HN.out h256 a c (j : Int) np hnp (fun b => b = w.heap.size + 3 ∨ b = T + 1) w5 (by omega) em (by omega) ep (by omega) (fun b h => by omega) (fun W' h => HR.out (After.to (e5.trans h))))
    (fun h k => h.trans k) ?hKb (Below.refl _ _) (fun _ => rfl)
    (CgI l k1 k2 a nn c (j : Int) T (T + 1) w Ds out0) (fun _ _ _ => False) (CgI.own (by omega) (fun D hD => by have := (e7 D hD).1; omega)) (fun cd s A C row hs _ _ => hs) hI0
    (fun x a' W => a' = { tmps := #[.slice a nn c, .int .i64 k1, .int .i64 k2, .pointer (some ⟨w.heap.size, 0, none⟩), .pointer (some ⟨w.heap.size + 1, 0, none⟩), .pointer (some ⟨w.heap.size + 2, 0, none⟩), .pointer (some ⟨w.heap.size + 3, 0, none⟩), .int .i64 0, .pointer (some ⟨T, 0, none⟩), .pointer (some ⟨T + 1, 0, none⟩), .int .i64 (pc l (j : Int) x.1).1, .int .i64 (pc l (j : Int) x.1).2, .slice a nn c, .int .i64 0, .int .i64 0, .bool false, undef, .int .i64 k1, .int .i64 k2, .int .i64 mn, .bool false, .bool false, .int .i64 k1, .int .i64 k2, .int .i64 mx, .bool false, .bool false, .int .i64 (j : Int), .bool true, .int .i64 (j : Int), .slice a nn c, .int .i64 (j : Int), .func (.func 38) #[] #[.pointer (some ⟨T + 2, 0, none⟩), .pointer (some ⟨T + 3, 0, none⟩)], .int .i64 (pc l (j : Int) x.1).1, .int .i64 (pc l (j : Int) x.1).2, undef, undef, undef, undef, undef, undef, undef, undef, undef, undef, undef, undef, undef, undef, undef, undef, undef, undef, undef, undef, undef, undef, undef, undef, undef, undef, undef, undef, undef, u64, undef], defers := [] })
    (fun x a' _ X Z row hs hg hr => hs)
    ?assign ?body ?done ?stop
  case hKb =>
    intro W l' o o' hl h h1 _
    refine ⟨(Below.refl _ W).grown (grownBy_putObj' W l' o') (by have := (Array.getElem?_eq_some_iff.1 h).1; omega) (fun k e => by cases e; omega), by simp [World.putObj], fun b cs t fr hb ht ho => ?_⟩
    have hne : b ≠ l' := fun e => by
      subst e
      rw [h] at ho
      cases ho
      cases h1
    rw [World.putObj_heap_other hne]
    exact ho
  case assign =>
    rintro lp pre x W K hi hK
    gi_wp2
    exact hK _ _ (KeepsFrom.refl _ _) (Kz.refl _ _ _ _) hi rfl
  case stop =>
    rintro D cd pre W hD _ hF
    exact absurd hF id
  case done =>
    rintro D zs W hD rfl ⟨v9, lst, h0, h1, h2, h3, h4, h5, h6, h7, h8, h9⟩ hK
    rw [cgO_all l k1 k2 (j : Int) out0 np HNP.out] at h6
    rw [← HOUT.out] at h6
    gi_wp2_with fail
    refine ⟨⟨j + 1, D :: Ds, _, _, _, _, _, _, _, _, by omega, rfl, v9, h0, h1, h2, h5, h6, h8, ?_, ?_⟩, ?_⟩
    · exact List.nodup_cons.2 ⟨fun h => by have := (e7 D h).1; omega, g6⟩
    · intro E hE
      rcases List.mem_cons.1 hE with rfl | hE
      · exact ⟨by omega, (Array.getElem?_eq_some_iff.1 hK).1, hK⟩
      · exact ⟨(g7 E hE).1, (Array.getElem?_eq_some_iff.1 (h9 E hE)).1, h9 E hE⟩
    · simp [intOf]; omega
  case body =>
    rintro lp pre x a' W hl ⟨r, hr⟩ ⟨v9, lst, h0, h1, h2, h3, h4, h5, h6, h7, h8, h9⟩ rfl hlt2
    have hs := h8.size
    have hT1 : T + 1 < W.heap.size := (Array.getElem?_eq_some_iff.1 h4).1
    obtain ⟨⟨fr, te⟩, hp⟩ : ∃ p, pc l (j : Int) x.1 = p := ⟨_, rfl⟩
    have hrng := pc_rng HL.out (dev := (j : Int)) (i := x.1) (by rw [HNP.out]; exact x.2)
    rw [hp] at hrng ⊢
    dsimp only at hrng ⊢
    have hgl : (cgO l k1 k2 (j : Int) out0 pre).length ≤ 4412 := by
      have := cgO_len l k1 k2 (j : Int) out0 pre
      omega
    have HNX : cgO l k1 k2 (j : Int) out0 (pre ++ [x]) = pieceR l k1 k2 (cgO l k1 k2 (j : Int) out0 pre) (j : Int) fr te := by rw [cgO_snoc, hp]
    obtain ⟨GG, hG⟩ : ∃ y, (cgO l k1 k2 (j : Int) out0 pre) = y := ⟨_, rfl⟩
    rw [hG] at h6 h7 hgl HNX
    have HNX := hid HNX
    clear hp hG
    have c0 : ∀ v : After W, v.w.cell? ⟨w.heap.size, 0, none⟩ = some (.slice a nn c) := fun v => (bx_after h0 v.2).cell
    have c1 : ∀ v : After W, v.w.cell? ⟨w.heap.size + 1, 0, none⟩ = some (.int .i64 k1) := fun v => (bx_after h1 v.2).cell
    have c2 : ∀ v : After W, v.w.cell? ⟨w.heap.size + 2, 0, none⟩ = some (.int .i64 k2) := fun v => (bx_after h2 v.2).cell
    have c3 : ∀ v : After W, v.w.cell? ⟨T, 0, none⟩ = some (.int .i64 (j : Int)) := fun v => (bx_after h3 v.2).cell
    have hRW : ∀ v : After W, Rd v.w a (l.flatMap Rc.cs) := fun v => HR.out (After.to (b_then h8 v.2))
    obtain ⟨⟨A1, B1, S1⟩, hA⟩ : ∃ q, resR (fnd l (j : Int) fr k1) = q := ⟨_, rfl⟩
    obtain ⟨⟨A2, B2, S2⟩, hB⟩ : ∃ q, resR (fnd l (j : Int) fr k2) = q := ⟨_, rfl⟩
    have kA : ∀ y : After W, Calls Try.prog 27 #[.slice a nn c, .int .i64 (j : Int), .int .i64 fr, .int .i64 k1] y.w fun e w'' => e = .returned (.agg #[.int .i64 A1, .int .i64 B1, .bool S1]) ∧ ∃ u : After W, w'' = u.w := fun y => (by
      have h := met (find_any l nn HN.out h256 a c (j : Int) fr k1 y.w (hRW y))
      rw [hA] at h
      exact h)
    have kB : ∀ y : After W, Calls Try.prog 27 #[.slice a nn c, .int .i64 (j : Int), .int .i64 fr, .int .i64 k2] y.w fun e w'' => e = .returned (.agg #[.int .i64 A2, .int .i64 B2, .bool S2]) ∧ ∃ u : After W, w'' = u.w := fun y => (by
      have h := met (find_any l nn HN.out h256 a c (j : Int) fr k2 y.w (hRW y))
      rw [hB] at h
      exact h)
    have hdf : difR l (j : Int) fr k1 k2 = !decide (A1 = A2 ∧ B1 = B2 ∧ S1 = S2) := by
      unfold difR
      rw [hA, hB]
      congr 1
      exact decide_eq_decide.2 (by simp [Prod.ext_iff])
    clear hA hB hRW
    have q0 := mix55
    rcases hd : decide (A1 = A2 ∧ B1 = B2 ∧ S1 = S2) with _ | _
    case true =>
      have q1 : ∀ w, (Op.equalIn 10000 55 (.agg #[.int .i64 A1, .int .i64 B1, .bool S1]) (.agg #[.int .i64 A2, .int .i64 B2, .bool S2])).run Try.prog w = .ok true w := fun w => hd ▸ eq55 A1 B1 A2 B2 S1 S2 w
      rw [hd] at hdf
      have HG := hid (show cgO l k1 k2 (j : Int) out0 (pre ++ [x]) = GG by rw [HNX.out, pieceR, if_neg (by rw [hdf]; decide)])
      clear hd hdf
      obtain ⟨u, hu⟩ : ∃ u : After W, u.w = W := ⟨After.here W, rfl⟩
      gi_wp2_with fail
      rw [← hu]
      clear hu
      refine region_round_since (by kernel_rfl) (by kernel_rfl) (by kernel_rfl) ?_
      go_big_quiet_step (exact kA _)
      go_big_quiet_step (exact kA _)
      go_big_quiet_step (exact kA _)
      go_big_quiet_step (exact kA _)
      go_big_quiet_step (exact kA _)
      go_big_quiet_step (exact kB _)
      go_big_quiet_step (exact kB _)
      go_big_quiet_step (exact kB _)
      go_big_quiet_step (exact kB _)
      go_big_quiet_step (exact kB _)
      go_big_quiet_step (exact kB _)
      refine wpQuiet_nil ?_
      intro u9
      gi_wp2_with fail
      have hB9 : Below W.heap.size W u9.w := u9.2
      exact ⟨(KeepsOthers.of_grownBy (below_grown hB9) (fun _ _ e _ => by cases e)).from _, Kz.of hB9 hs, v9, lst, bx_after h0 hB9, bx_after h1 hB9, bx_after h2 hB9, bx_after h3 hB9, bx_after h4 hB9, bx_after h5 hB9, by rw [HG.out]; exact own_after h6 hB9, by rw [HG.out]; exact h7, b_then h8 hB9, fun D hD => (hB9.block D (Array.getElem?_eq_some_iff.1 (h9 D hD)).1).trans (h9 D hD)⟩
    have q1 : ∀ w, (Op.equalIn 10000 55 (.agg #[.int .i64 A1, .int .i64 B1, .bool S1]) (.agg #[.int .i64 A2, .int .i64 B2, .bool S2])).run Try.prog w = .ok false w := fun w => hd ▸ eq55 A1 B1 A2 B2 S1 S2 w
    rw [hd] at hdf
    have HG := hid (show cgO l k1 k2 (j : Int) out0 (pre ++ [x]) = addP GG (j : Int) fr te by rw [HNX.out, pieceR, if_pos (by rw [hdf]; rfl)])
    clear hd hdf HNX
    have H7 := hid h7.out
    clear h7
    obtain ⟨u, hu⟩ : ∃ u : After W, u.w = W := ⟨After.here W, rfl⟩
    gi_wp2_with fail
    rw [← hu]
    clear hu
    refine region_round_since (by kernel_rfl) (by kernel_rfl) (by kernel_rfl) ?_
    go_big_quiet_step (exact kA _)
    go_big_quiet_step (exact kA _)
    go_big_quiet_step (exact kA _)
    go_big_quiet_step (exact kA _)
    go_big_quiet_step (exact kA _)
    go_big_quiet_step (exact kB _)
    go_big_quiet_step (exact kB _)
    go_big_quiet_step (exact kB _)
    go_big_quiet_step (exact kB _)
    go_big_quiet_step (exact kB _)
    go_big_quiet_step (exact kB _)
    refine wpQuiet_nil ?_
    intro u9
    have hB9 : Below W.heap.size W u9.w := u9.2
    replace h0 := bx_after h0 hB9
    replace h1 := bx_after h1 hB9
    replace h2 := bx_after h2 hB9
    replace h3 := bx_after h3 hB9
    replace h4 := bx_after h4 hB9
    replace h5 := bx_after h5 hB9
    replace h6 := own_after h6 hB9
    replace h8 := b_then h8 hB9
    replace h9 : ∀ D ∈ Ds, u9.w.heap[D]? = some (.deferred (some [])) := fun D hD => (hB9.block D (Array.getElem?_eq_some_iff.1 (h9 D hD)).1).trans (h9 D hD)
    have hs9 := hB9.size
    have hK0 := (KeepsOthers.refl W).trans (KeepsOthers.of_grownBy (below_grown hB9) (fun _ _ e _ => by cases e))
    have hZ0 : Kz w.heap.size (fun b => b = w.heap.size + 3 ∨ b = T + 1) 40 W u9.w := Kz.of hB9 hs
    clear c0 c1 c2 c3 kA kB q0 q1
    have l0 := h4.cell
    have l1 := h4.frozen
    have x0 := h5.cell
    have x1 := h5.frozen
    by_cases hfl : lst = fr
    · subst hfl
      obtain ⟨init, sp0, hi1, hi2, hi3, hi4, hi5⟩ := H7.out.join (b := te) hrng.1
      rw [hi1] at h6
      rw [hi4] at HG
      obtain ⟨m, hm⟩ : ∃ m, init.length = m := ⟨_, rfl⟩
      rw [show (init ++ [sp0]).length = m + 1 by rw [List.length_append, hm]; rfl] at h6
      obtain ⟨g, cap, rfl⟩ := ownsRow_succ h6
      obtain ⟨hgS, cur, hgh⟩ := own_heap h6
      have y0 := own_cell h6 (i := m * 3 + 2) (u := .int .i64 sp0.b) (by rw [List.flatMap_append, List.getElem?_append_right (by rw [flat_len Sp.cs 3 Sp.c3, hm]; omega), flat_len Sp.cs 3 Sp.c3, hm, show m * 3 + 2 - m * 3 = 2 by omega]; rfl)
      have y1 := h6.frozenAt (m * 3 + 2)
      have hnT : g ≠ T + 1 := fun e => by
        rw [e, show u9.w.heap[T + 1]? = _ from h4] at hgh
        cases hgh
      have hnS : g ≠ w.heap.size + 3 := fun e => by
        rw [e, show u9.w.heap[w.heap.size + 3]? = _ from h5] at hgh
        cases hgh
      have l2 : (u9.w.setCell ⟨g, m * 3 + 2, none⟩ (.int .i64 te)).cell? ⟨T + 1, 0, none⟩ = some (.int .i64 lst) := st_off _ (.inr hnT) l0
      have l3 : (u9.w.setCell ⟨g, m * 3 + 2, none⟩ (.int .i64 te)).frozen? ⟨T + 1, 0, none⟩ = false := sf _ l1
      have hst := h6.stored (m * 3 + 2) (.int .i64 te)
      have n0 : (0 : Int) ≤ (m : Int) := by omega
      have n1 : (m : Int) < (m : Int) + 1 := by omega
      have hm9 : m ≤ 4412 := by
        have := congrArg List.length hi1
        rw [List.length_append, hm] at this
        omega
      have w3 : IntKind.i64.wrap (m : Int) = (m : Int) := IntWalk.i64_in _ (by omega)
      have w4 : wrap64 (m : Int) = (m : Int) := by unfold wrap64; omega
      gi_wp2_with fail
      have hK1 := (hK0.trans (KeepsOthers.setCell u9.w ⟨g, m * 3 + 2, none⟩ (.int .i64 te))).trans (KeepsOthers.setCell _ ⟨T + 1, 0, none⟩ (.int .i64 te))
      have hZ1 := (hZ0.setRow (o := m * 3 + 2) hgS hgh (.int .i64 te)).setX (b := T + 1) (o := 0) (by omega) (.inr rfl) (.int .i64 te)
      have hb1 : Boxed (u9.w.setCell ⟨g, m * 3 + 2, none⟩ (.int .i64 te)) (T + 1) 3 (.int .i64 lst) := bx_other h4 (Ne.symm hnT)
      have hrow2 := hst.1.kept (grownBy_setCell' (u9.w.setCell ⟨g, m * 3 + 2, none⟩ (.int .i64 te)) (T + 1) (.int .i64 te)) (.inr (by simpa [Value.ownBlock] using hnT))
      refine ⟨hK1.from _, hZ1, .slice (some ⟨g, 0, none⟩) (m + 1) cap, te, bx_other (bx_other h0 (fun e => ?_)) (by omega), bx_other (bx_other h1 (fun e => ?_)) (by omega), bx_other (bx_other h2 (fun e => ?_)) (by omega), bx_other (bx_other h3 (fun e => ?_)) (by omega), hb1.set _, bx_other (bx_other h5 (Ne.symm hnS)) (by omega), ?_, by rw [HG.out]; exact hid hi5, b_set (b_set h8 hgS _) (by omega) _, fun D hD => ?_⟩
      · rw [← e, show u9.w.heap[w.heap.size]? = _ from h0] at hgh; cases hgh
      · rw [← e, show u9.w.heap[w.heap.size + 1]? = _ from h1] at hgh; cases hgh
      · rw [← e, show u9.w.heap[w.heap.size + 2]? = _ from h2] at hgh; cases hgh
      · rw [← e, show u9.w.heap[T]? = _ from h3] at hgh; cases hgh
      · rw [HG.out, show (init ++ [(⟨(j : Int), sp0.a, te⟩ : Sp)]).length = m + 1 by rw [List.length_append, hm]; rfl, ← hi2, ← sp_set, hm]
        exact hrow2
      · exact (KeepsOthers.setCell _ _ _).same D _ ((KeepsOthers.setCell _ _ _).same D _ (h9 D hD) rfl) rfl
    · have hne : (fr == lst) = false := beq_eq_false_iff_ne.2 (fun e => hfl e.symm)
      obtain ⟨hm1, hm2⟩ := H7.out.more (a := fr) (b := te) (fun e => hfl e.symm)
      rw [hm1] at HG
      obtain ⟨n, hn'⟩ : ∃ n, GG.length = n := ⟨_, rfl⟩
      rw [hn'] at h6 hgl
      have HGN := hid hn'
      have c3' := h3.cell
      clear hn' hfl
      obtain ⟨xa, xc, rfl, hxc, hxn, -, -⟩ := own_slice h6
      gi_wp2_with (gi_at_builtin; refine wpListIn_append_own _ rfl _ _ 34 rfl w.heap.size 40 i0 (.agg #[.int .i64 0, .int .i64 0, .int .i64 0]) 3 24 und34 hi hz0 hz1 hz2 rfl (by decide) _ _ _ rfl (own_after h6 (b_alloc (Below.refl _ _) (.cells #[.int .i64 (j : Int), .int .i64 fr, .int .i64 te] 40))) ⟨u9.w.heap.size, 0, none⟩ 1 1 (Sp.cs ⟨(j : Int), fr, te⟩) rfl rfl (news rfl) (Sp.one _) (by unfold maxLen; omega) (by omega) (by simp; omega) ?_; intro v' w1 hown' hgrow _; obtain ⟨g', cap', rfl⟩ := ownsRow_succ hown'; obtain ⟨hv1, hv2, hr2, hk2, hb2⟩ := h5.appended (by decide) h6 (by omega) (by omega) hown' hgrow; have hc1 := hv1.cell; have hf1 := hv1.frozen; have hbl : Boxed w1 (T + 1) 3 (.int .i64 lst) := (h4.alloc _).kept hgrow (h4.not_row (by decide) h6); have hl1 := (bx_other (u := .slice (some ⟨g', 0, none⟩) (n + 1) cap') (o := 0) hbl (show T + 1 ≠ w.heap.size + 3 by omega)).cell; have hl2 := (bx_other (u := .slice (some ⟨g', 0, none⟩) (n + 1) cap') (o := 0) hbl (show T + 1 ≠ w.heap.size + 3 by omega)).frozen)
      have hblx : Boxed (w1.setCell ⟨w.heap.size + 3, 0, none⟩ (.slice (some ⟨g', 0, none⟩) (n + 1) cap')) (T + 1) 3 (.int .i64 lst) := bx_other hbl (by omega)
      have hro := own_after h6 (b_alloc (Below.refl _ _) (.cells #[.int .i64 (j : Int), .int .i64 fr, .int .i64 te] 40))
      have hZq : Kz w.heap.size (fun b => b = w.heap.size + 3 ∨ b = T + 1) 40 u9.w ((w1.setCell ⟨w.heap.size + 3, 0, none⟩ (.slice (some ⟨g', 0, none⟩) (n + 1) cap')).setCell ⟨T + 1, 0, none⟩ (.int .i64 te)) := by
        refine (((Kz.of (b_alloc (Below.refl _ _) (.cells #[.int .i64 (j : Int), .int .i64 fr, .int .i64 te] 40)) (by omega)).grown hgrow (by simp; omega) (fun r er => ?_)).setX (by omega) (.inl rfl) _).setX (by omega) (.inr rfl) _
        have hlt3 := hro.lt r er
        rcases hro.2 with ⟨hv, _⟩ | ⟨g9, cap9, cur9, hv, _, hg9, _⟩
        · rw [hv] at er; cases er
        · rw [hv] at er
          cases er
          exact ⟨hlt3.1, cur9, _, hg9⟩
      refine ⟨(hK0.trans (hk2.trans (KeepsOthers.setCell _ _ _))).from _, hZ0.trans hZq, .slice (some ⟨g', 0, none⟩) (n + 1) cap', te, hZq.box (by omega) (by decide) h0, hZq.box (by omega) (by decide) h1, hZq.box (by omega) (by decide) h2, hZq.box (by omega) (by decide) h3, hblx.set _, bx_other hv2 (by omega), ?_, by rw [HG.out]; exact hid hm2, b_set (h8.trans hb2) (by omega) _, fun D hD => ?_⟩
      · rw [HG.out, List.length_append, HGN.out, List.flatMap_append]
        exact hr2.kept (grownBy_setCell' _ (T + 1) _) (.inr (hblx.not_row (by decide) hr2).symm)
      · exact (KeepsOthers.setCell _ _ _).same D _ (hk2.same D _ (h9 D hD) rfl) rfl
end Go.Proofs.Ytdnjpfjiaomlgaa
