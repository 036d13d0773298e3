/- Cut. -/
import Derived.Test.YtmikhkmdcpgkfaaY
namespace Go.Proofs.Ytmikhkmdcpgkfaa
open Go.RowKit Go.Shelf
open Go.Lib (hid)
attribute [local go_sem] Oper.semAt_some

theorem own_kept {w w' : World} {row : Option Nat} {base : Nat} {e : TypeId} {size n : Nat} {v : Value} {xs : List Value} (h : w.ownsRow base e size v n xs) (hg : w.grownBy w' row) (hr : ∀ r, row = some r → ∃ o : Obj, w.heap[r]? = some o ∧ o.isCells = false) : w'.ownsRow base e size v n xs := by
  refine h.kept hg ?_
  rcases h.2 with ⟨rfl, _⟩ | ⟨g, cap, cur, rfl, _, hgb, _⟩
  · exact .inl rfl
  · refine .inr fun e' => ?_
    obtain ⟨o, ho, hc⟩ := hr g (by rw [← e']; rfl)
    rw [hgb] at ho
    cases ho
    cases hc
/-- What holds between two rounds: x's two fields. -/
def Half (w : World) (B0 : Nat) (qa : Option Addr) (qn qc : Nat) (pre : List (Int × Int)) (W : World) : Prop :=
  ∃ v, W.cell? ⟨w.heap.size + 1, 0, none⟩ = some (.slice qa qn qc) ∧ W.cell? ⟨w.heap.size + 1, 1, none⟩ = some v ∧ W.frozen? ⟨w.heap.size + 1, 0, none⟩ = false ∧ W.frozen? ⟨w.heap.size + 1, 1, none⟩ = false ∧
    W.ownsRow B0 55 2 v pre.length (pre.flatMap lkc) ∧ Below w.heap.size w W ∧ B0 ≤ W.heap.size
theorem Half.own {w : World} {B0 B : Nat} {qa : Option Addr} {qn qc : Nat} (hB : w.heap.size ≤ B) : OwnFrom B (Half w B0 qa qn qc) := by
  intro s A C row ⟨v, h0, h1, f0, f1, ho, hb, hs⟩ hg hr
  have hr' : ∀ r, row = some r → ∃ o : Obj, A.heap[r]? = some o ∧ o.isCells = false := fun r e => (hr r e).2
  exact ⟨v, cell_kept h0 hg hr', cell_kept h1 hg hr', (frozen_kept h0 hg hr').trans f0, (frozen_kept h1 hg hr').trans f1, own_kept ho hg hr', hb.grown hg hb.size (fun k e => Nat.le_trans hB (hr k e).1), Nat.le_trans hs hg.size⟩
theorem Half.alloc {w W : World} {B0 : Nat} {qa : Option Addr} {qn qc : Nat} {pre : List (Int × Int)} (h : Half w B0 qa qn qc pre W) (o : Obj) : Half w B0 qa qn qc pre (W.alloc o) :=
  (Half.own (B := w.heap.size) (Nat.le_refl _)) pre W _ none h (World.grownBy_alloc W o none) (fun r e => by cases e)
theorem far_cell {A C W : World} {B0 : Nat} {e : TypeId} {size n : Nat} {v : Value} {xs : List Value} (ho : W.ownsRow B0 e size v n xs) (hg : A.grownBy C v.ownBlock) {b o : Nat} {u : Value} (hb : b < B0) (h : A.cell? ⟨b, o, none⟩ = some u) : C.cell? ⟨b, o, none⟩ = some u :=
  hg.cell h (fun he => by have := (ho.lt b he.symm).1; omega)
theorem far_frozen {A C W : World} {B0 : Nat} {e : TypeId} {size n : Nat} {v : Value} {xs : List Value} (ho : W.ownsRow B0 e size v n xs) (hg : A.grownBy C v.ownBlock) {b o : Nat} (hb : b < B0) (hA : b < A.heap.size) (h : A.frozen? ⟨b, o, none⟩ = false) : C.frozen? ⟨b, o, none⟩ = false :=
  (hg.frozen_far ⟨b, o, none⟩ hA (fun he => by have := (ho.lt b he.symm).1; omega)).trans h
/-- What a round does: a new block, an append to x's own row, a store into x. -/
theorem round_kept {W w1 : World} {B0 n₀ b o : Nat} {bs : List Nat} {e : TypeId} {size n : Nat} {v u : Value} {xs : List Value} {tmp : Obj} (ho : W.ownsRow B0 e size v n xs) (hg : (W.alloc tmp).grownBy w1 v.ownBlock) (hB : B0 ≤ W.heap.size) (hbs : ∀ k, k ∈ bs → k < B0 ∧ k ≠ b) (hn : n₀ ≤ b) (hn0 : n₀ ≤ B0) :
    Kept n₀ bs W (w1.setCell ⟨b, o, none⟩ u) := by
  have hs := hg.size
  simp at hs
  refine ⟨?_, by simp; omega, fun k hk => ?_⟩
  · refine Below.setCell (p := ⟨b, o, none⟩) ?_ hn u
    refine Below.grown ((Below.refl n₀ W).alloc (by omega) tmp) hg (by simp; omega) (fun k e => by have := (ho.lt k e).1; omega)
  · obtain ⟨h1, h2⟩ := hbs k hk
    rw [Below.heap_setCell w1 ⟨b, o, none⟩ u k h2, hg.block k (by simp; omega) (fun he => by have := (ho.lt k he.symm).1; omega), Below.heap_alloc W tmp k (by omega)]
theorem round_others {W w1 : World} {B0 B b o : Nat} {e : TypeId} {size n : Nat} {v u : Value} {xs : List Value} {tmp : Obj} (ho : W.ownsRow B0 e size v n xs) (hg : (W.alloc tmp).grownBy w1 v.ownBlock) :
    KeepsFrom B W (w1.setCell ⟨b, o, none⟩ u) := by
  refine (((KeepsOthers.alloc W tmp).trans (KeepsOthers.of_grownBy hg fun j o ej hj => ?_)).trans (KeepsOthers.setCell _ _ _)).from _
  have ho' := ho.alloc tmp
  rcases ho'.2 with ⟨rfl, _⟩ | ⟨g, cap, cur, rfl, _, hgb, _⟩
  · cases ej
  · obtain rfl : g = j := by simpa [Value.ownBlock] using ej
    rw [hgb] at hj
    cases hj
    rfl
theorem info55 : (Try.prog.info? 55).map (fun i => (i.zero, i.size, i.bytes)) = some (some (.agg #[.int .i64 0, .int .i64 0]), 2, 16) := by kernel_rfl
theorem und23 : Try.prog.underlying 23 = some (.slice 55) := by kernel_rfl
noncomputable def cutE (ps : List Pk) (ls : List (Int × Int)) (a b : Int) : Int := if chk ps ls = 0 then (if lkOk (min a b) (max a b) = true then 0 else 1) else 60
noncomputable def cutQ (ps : List Pk) (ls : List (Int × Int)) (a b : Int) : List Pk := if cutE ps ls a b = 0 then ps else []
noncomputable def cutL (ps : List Pk) (ls : List (Int × Int)) (a b : Int) (on : Bool) : List (Int × Int) := if cutE ps ls a b = 0 then cutsOf ls (min a b, max a b) on else []
def CutTo (ok : Nat → Prop) (ps : List Pk) (ls : List (Int × Int)) (a b : Int) (on : Bool) (w w' : World) (e : Ending) : Prop :=
  ∃ v', e = .returned (.tuple #[v', .int .i64 (cutE ps ls a b)]) ∧ NetIs (fun g => ok g ∨ w.heap.size ≤ g) w' v' (cutQ ps ls a b) (cutL ps ls a b on) ∧ Below w.heap.size w w'

set_option maxRecDepth 100000 in
set_option maxHeartbeats 4000000 in
theorem Cut_any (ok : Nat → Prop) (ps : List Pk) (ls : List (Int × Int)) (a b : Int) (on : Bool) (v : Value) (w : World) (hp : ps.length ≤ 1000) (hl : ls.length ≤ 1000) (hv : NetIs ok w v ps ls) :
    Calls Try.prog 20 #[v, .int .i64 a, .int .i64 b, .bool on] w fun e w' => CutTo ok ps ls a b on w w' e := by
  obtain ⟨qa, aa, qc, ac, rfl, hq, ha, hfq, hfa, hsq, hsa⟩ := hv
  have HQ := hid hq; have HA := hid ha; have HFQ := hid hfq; have HSQ := hid hsq
  clear hq ha hfq hfa hsq hsa
  unfold netV
  refine (callsIn_wide (n := 10)).1 ?_
  refine callsIn_of_wp_marks Try.func20 rfl trivial ?_ rfl
  simp only [Try.ntmps20, List.size_toArray, List.length_cons, List.length_nil, Nat.reduceAdd, Nat.reduceSub, Array.replicate_succ, Array.replicate_zero, List.push_toArray, List.append_toArray, List.nil_append, List.cons_append]
  gi_wp2_with fail
  obtain ⟨V, hV⟩ : ∃ V, V = ((w.alloc (.cells #[.slice qa ps.length qc, .slice aa ls.length ac] 25)).alloc (.cells #[.slice none 0 0, .slice none 0 0] 25)) := ⟨_, rfl⟩
  have c0 : ∀ v : After V, v.w.cell? ⟨w.heap.size, 0, none⟩ = some (.slice qa ps.length qc) := after_cell (by rw [hV]; first | (simp; done) | omega | (simp; omega)) (by rw [hV]; (repeat (first | with_reducible assumption | exact bn (by first | (simp; done) | omega | (simp; omega)) rfl | refine bo (by first | (simp; done) | omega | (simp; omega)) ?_)))
  have fc0 : ∀ v : After V, v.w.frozen? ⟨w.heap.size, 0, none⟩ = false := after_frozen (by rw [hV]; first | (simp; done) | omega | (simp; omega)) (by rw [hV]; (repeat (first | exact fn (by first | (simp; done) | omega | (simp; omega)) | refine fo (by first | (simp; done) | omega | (simp; omega)) ?_)))
  have c1 : ∀ v : After V, v.w.cell? ⟨w.heap.size, 1, none⟩ = some (.slice aa ls.length ac) := after_cell (by rw [hV]; first | (simp; done) | omega | (simp; omega)) (by rw [hV]; (repeat (first | with_reducible assumption | exact bn (by first | (simp; done) | omega | (simp; omega)) rfl | refine bo (by first | (simp; done) | omega | (simp; omega)) ?_)))
  have fc1 : ∀ v : After V, v.w.frozen? ⟨w.heap.size, 1, none⟩ = false := after_frozen (by rw [hV]; first | (simp; done) | omega | (simp; omega)) (by rw [hV]; (repeat (first | exact fn (by first | (simp; done) | omega | (simp; omega)) | refine fo (by first | (simp; done) | omega | (simp; omega)) ?_)))
  have zc : ∀ v : After V, w.heap.size < v.w.heap.size := after_size (by rw [hV]; first | (simp; done) | omega | (simp; omega))
  have e0 : ∀ v : After V, v.w.cell? ⟨w.heap.size + 1, 0, none⟩ = some (.slice none 0 0) := after_cell (by rw [hV]; first | (simp; done) | omega | (simp; omega)) (by rw [hV]; (repeat (first | with_reducible assumption | exact bn (by first | (simp; done) | omega | (simp; omega)) rfl | refine bo (by first | (simp; done) | omega | (simp; omega)) ?_)))
  have fe0 : ∀ v : After V, v.w.frozen? ⟨w.heap.size + 1, 0, none⟩ = false := after_frozen (by rw [hV]; first | (simp; done) | omega | (simp; omega)) (by rw [hV]; (repeat (first | exact fn (by first | (simp; done) | omega | (simp; omega)) | refine fo (by first | (simp; done) | omega | (simp; omega)) ?_)))
  have e1 : ∀ v : After V, v.w.cell? ⟨w.heap.size + 1, 1, none⟩ = some (.slice none 0 0) := after_cell (by rw [hV]; first | (simp; done) | omega | (simp; omega)) (by rw [hV]; (repeat (first | with_reducible assumption | exact bn (by first | (simp; done) | omega | (simp; omega)) rfl | refine bo (by first | (simp; done) | omega | (simp; omega)) ?_)))
  have fe1 : ∀ v : After V, v.w.frozen? ⟨w.heap.size + 1, 1, none⟩ = false := after_frozen (by rw [hV]; first | (simp; done) | omega | (simp; omega)) (by rw [hV]; (repeat (first | exact fn (by first | (simp; done) | omega | (simp; omega)) | refine fo (by first | (simp; done) | omega | (simp; omega)) ?_)))
  have ze : ∀ v : After V, w.heap.size + 1 < v.w.heap.size := after_size (by rw [hV]; first | (simp; done) | omega | (simp; omega))
  have hwV : Below w.heap.size w V := by rw [hV]; exact (by repeat (first | exact Below.refl _ _ | assumption | refine b_then ?_ (by assumption) | refine b_alloc ?_ _ | refine b_drewN ?_ _ | refine b_drew ?_ | refine b_set ?_ (by omega) _ | refine b_set ?_ (by simp) _))
  have WV := hid (after_below hwV)
  rw [← hV]
  obtain ⟨u0, hu⟩ : ∃ u : After V, u.w = V := ⟨After.here V, rfl⟩
  rw [← hu]
  clear hu hV
  refine ⟨trivial, ?_⟩
  refine (callsIn_wide.2 (met (Check_any ps ls qa aa qc ac _ hp hl (HQ.out.below (WV.out u0)) (HA.out.below (WV.out u0))))).mono ?_
  rintro e _ ⟨rfl, u1, rfl⟩
  by_cases hc : chk ps ls = 0
  · have Hc := hid hc
    rw [hc]
    clear hc
    gi_wp2_with fail
    refine ⟨trivial, ?_⟩
    refine (callsIn_wide.2 (met (between_any a b _))).mono ?_
    rintro e _ ⟨rfl, u2, rfl⟩
    gi_wp2_with fail
    obtain ⟨X, hX⟩ : ∃ X, X = u2.w.alloc (.cells #[.int .i64 (min a b), .int .i64 (max a b)] 58) := ⟨_, rfl⟩
    have hBX : Below V.heap.size V X := by rw [hX]; exact b_alloc u2.w_below _
    have ydc := zc u2
    have yde := ze u2
    replace c0 := upc hBX c0
    replace fc0 := upf hBX fc0
    replace c1 := upc hBX c1
    replace fc1 := upf hBX fc1
    replace e0 := upc hBX e0
    replace fe0 := upf hBX fe0
    replace e1 := upc hBX e1
    replace fe1 := upf hBX fe1
    replace zc := upz hBX zc
    replace ze := upz hBX ze
    have WX := hid (upb hBX WV.out)
    have d0 : ∀ v : After X, v.w.cell? ⟨u2.w.heap.size, 0, none⟩ = some (.int .i64 (min a b)) := new_cell hX rfl rfl
    have fd0 : ∀ v : After X, v.w.frozen? ⟨u2.w.heap.size, 0, none⟩ = false := new_frozen hX rfl
    have d1 : ∀ v : After X, v.w.cell? ⟨u2.w.heap.size, 1, none⟩ = some (.int .i64 (max a b)) := new_cell hX rfl rfl
    have fd1 : ∀ v : After X, v.w.frozen? ⟨u2.w.heap.size, 1, none⟩ = false := new_frozen hX rfl
    have zd : ∀ v : After X, u2.w.heap.size < v.w.heap.size := after_size (by rw [hX]; simp)
    rw [← hX]
    obtain ⟨x, hu⟩ : ∃ u : After X, u.w = X := ⟨After.here X, rfl⟩
    rw [← hu]
    clear hu hX
    refine ⟨trivial, ?_⟩
    refine (callsIn_wide.2 (met (valid_any (min a b) (max a b) _))).mono ?_
    rintro e _ ⟨rfl, u3, rfl⟩
    rcases hlk : lkOk (min a b) (max a b) with _ | _
    · have r0 := two0 (e0 u3)
      have r1 := two1 (e1 u3)
      gi_wp2_with fail
      refine ⟨.tuple #[.agg #[.slice none 0 0, .slice none 0 0], .int .i64 1], by simp [results, Try.results20, go_sem, r0, r1], .agg #[.slice none 0 0, .slice none 0 0], ?_, ?_, b_set (b_set (WX.out u3) (by omega) _) (by omega) _⟩
      · rw [show cutE ps ls a b = 1 by simp [cutE, Hc.out, hlk]]
      · rw [show cutQ ps ls a b = [] by simp [cutQ, cutE, Hc.out, hlk], show cutL ps ls a b on = [] by simp [cutL, cutE, Hc.out, hlk]]
        exact NetIs.zero _ _
    · gi_wp2_with fail
      obtain ⟨Y, hY⟩ : ∃ Y, Y = ((u3.w.setCell ⟨w.heap.size + 1, 0, none⟩ (.slice qa ps.length qc)).setCell ⟨w.heap.size + 1, 1, none⟩ (.slice none 0 0)) := ⟨_, rfl⟩
      replace c0 : ∀ v : After Y, v.w.cell? ⟨w.heap.size, 0, none⟩ = some (.slice qa ps.length qc) := after_cell (by rw [hY]; simpa using cell_lt (c0 u3)) (by rw [hY]; exact (st_off _ (by first | (left; decide) | (right; omega) | (right; simp; omega)) (st_off _ (by first | (left; decide) | (right; omega) | (right; simp; omega)) (c0 u3))))
      replace fc0 : ∀ v : After Y, v.w.frozen? ⟨w.heap.size, 0, none⟩ = false := after_frozen (by rw [hY]; simpa using zc u3) (by rw [hY]; exact (sf _ (sf _ (fc0 u3))))
      replace c1 : ∀ v : After Y, v.w.cell? ⟨w.heap.size, 1, none⟩ = some (.slice aa ls.length ac) := after_cell (by rw [hY]; simpa using cell_lt (c1 u3)) (by rw [hY]; exact (st_off _ (by first | (left; decide) | (right; omega) | (right; simp; omega)) (st_off _ (by first | (left; decide) | (right; omega) | (right; simp; omega)) (c1 u3))))
      replace fc1 : ∀ v : After Y, v.w.frozen? ⟨w.heap.size, 1, none⟩ = false := after_frozen (by rw [hY]; simpa using zc u3) (by rw [hY]; exact (sf _ (sf _ (fc1 u3))))
      replace e0 : ∀ v : After Y, v.w.cell? ⟨w.heap.size + 1, 0, none⟩ = some (.slice qa ps.length qc) := after_cell (by rw [hY]; simpa using cell_lt (e0 u3)) (by rw [hY]; exact (st_off _ (.inl (by decide)) (st_hit _ (e0 u3))))
      replace fe0 : ∀ v : After Y, v.w.frozen? ⟨w.heap.size + 1, 0, none⟩ = false := after_frozen (by rw [hY]; simpa using ze u3) (by rw [hY]; exact (sf _ (sf _ (fe0 u3))))
      replace e1 : ∀ v : After Y, v.w.cell? ⟨w.heap.size + 1, 1, none⟩ = some (.slice none 0 0) := after_cell (by rw [hY]; simpa using cell_lt (e1 u3)) (by rw [hY]; exact (st_hit _ (st_off _ (.inl (by decide)) (e1 u3))))
      replace fe1 : ∀ v : After Y, v.w.frozen? ⟨w.heap.size + 1, 1, none⟩ = false := after_frozen (by rw [hY]; simpa using ze u3) (by rw [hY]; exact (sf _ (sf _ (fe1 u3))))
      replace d0 : ∀ v : After Y, v.w.cell? ⟨u2.w.heap.size, 0, none⟩ = some (.int .i64 (min a b)) := after_cell (by rw [hY]; simpa using cell_lt (d0 u3)) (by rw [hY]; exact (st_off _ (by first | (left; decide) | (right; omega) | (right; simp; omega)) (st_off _ (by first | (left; decide) | (right; omega) | (right; simp; omega)) (d0 u3))))
      replace fd0 : ∀ v : After Y, v.w.frozen? ⟨u2.w.heap.size, 0, none⟩ = false := after_frozen (by rw [hY]; simpa using zd u3) (by rw [hY]; exact (sf _ (sf _ (fd0 u3))))
      replace d1 : ∀ v : After Y, v.w.cell? ⟨u2.w.heap.size, 1, none⟩ = some (.int .i64 (max a b)) := after_cell (by rw [hY]; simpa using cell_lt (d1 u3)) (by rw [hY]; exact (st_off _ (by first | (left; decide) | (right; omega) | (right; simp; omega)) (st_off _ (by first | (left; decide) | (right; omega) | (right; simp; omega)) (d1 u3))))
      replace fd1 : ∀ v : After Y, v.w.frozen? ⟨u2.w.heap.size, 1, none⟩ = false := after_frozen (by rw [hY]; simpa using zd u3) (by rw [hY]; exact (sf _ (sf _ (fd1 u3))))
      replace zc : ∀ v : After Y, w.heap.size < v.w.heap.size := after_size (by rw [hY]; simpa using zc u3)
      replace ze : ∀ v : After Y, w.heap.size + 1 < v.w.heap.size := after_size (by rw [hY]; simpa using ze u3)
      replace zd : ∀ v : After Y, u2.w.heap.size < v.w.heap.size := after_size (by rw [hY]; simpa using zd u3)
      have hwY : Below w.heap.size w Y := by rw [hY]; exact (b_set (b_set (WX.out u3) (by omega) _) (by omega) _)
      have WY := hid (after_below hwY)
      rw [← hY]
      obtain ⟨y, hu⟩ : ∃ u : After Y, u.w = Y := ⟨After.here Y, rfl⟩
      rw [← hu]
      have HY := hid hY
      clear hu hY
      refine ⟨trivial, ?_⟩
      refine (callsIn_wide.2 (cuts_any aa ls.length ac (min a b) (max a b) on _)).mono ?_
      rintro e w5 ⟨rfl, hw5⟩
      have k0 : w5.cell? ⟨y.w.heap.size, 0, none⟩ = some (.slice aa ls.length ac) := by rw [hw5]; (repeat (first | exact bn (by first | (simp; done) | omega | (simp; omega)) rfl | refine bo (by first | (simp; done) | omega | (simp; omega)) ?_))
      have k1 : w5.cell? ⟨y.w.heap.size + 1, 0, none⟩ = some (.int .i64 (min a b)) := by rw [hw5]; (repeat (first | exact bn (by first | (simp; done) | omega | (simp; omega)) rfl | refine bo (by first | (simp; done) | omega | (simp; omega)) ?_))
      have k2 : w5.cell? ⟨y.w.heap.size + 1, 1, none⟩ = some (.int .i64 (max a b)) := by rw [hw5]; (repeat (first | exact bn (by first | (simp; done) | omega | (simp; omega)) rfl | refine bo (by first | (simp; done) | omega | (simp; omega)) ?_))
      have k3 : w5.cell? ⟨y.w.heap.size + 1 + 1, 0, none⟩ = some (.bool on) := by rw [hw5]; (repeat (first | exact bn (by first | (simp; done) | omega | (simp; omega)) rfl | refine bo (by first | (simp; done) | omega | (simp; omega)) ?_))
      have hsz5 : w5.heap.size = y.w.heap.size + 1 + 1 + 1 := by rw [hw5]; simp
      have hB5 : Below y.w.heap.size y.w w5 := by rw [hw5]; exact (by repeat (first | exact Below.refl _ _ | assumption | refine b_then ?_ (by assumption) | refine b_alloc ?_ _ | refine b_drewN ?_ _ | refine b_drew ?_ | refine b_set ?_ (by omega) _ | refine b_set ?_ (by simp) _))
      have hye := ze y
      obtain ⟨v5, rfl⟩ : ∃ v5 : After Y, w5 = v5.w := ⟨y.on hB5, rfl⟩
      clear hw5 hB5
      have hH : Half w v5.w.heap.size qa ps.length qc [] v5.w := ⟨_, e0 v5, e1 v5, fe0 v5, fe1 v5, World.ownsRow_nil _ _ _ _, WY.out v5, Nat.le_refl _⟩
      obtain ⟨i0, hi, hz0, hz1, hz2⟩ := info_parts info55
      gi_wp2_with fail
      refine wpIn_rangeFunc_ownH rfl (by omega) (gf := 46) (lb := #[.pointer (some ⟨y.w.heap.size + 1, 0, none⟩), .pointer (some ⟨y.w.heap.size + 1 + 1, 0, none⟩), .pointer (some ⟨y.w.heap.size, 0, none⟩)]) rfl trivial (enters_of Try.func46 (by kernel_rfl) rfl)
        (cuts_stops _ (by omega) (y.w.heap.size + 1) (y.w.heap.size + 1 + 1) y.w.heap.size w.heap.size ls aa ac (min a b) (max a b) on hl v5.w (by omega) k1 k2 k3 k0 (fun W' h => HA.out.below ((WY.out v5).trans h)))
        (fun h k => h.trans k) ?hKb (Below.refl _ _) (fun _ => rfl)
        (Half w v5.w.heap.size qa ps.length qc) (fun _ _ _ => False) (Half.own (by omega)) (fun _ _ _ _ _ hs _ _ => hs) hH
        (fun x a' W => ∃ Bx, W.cell? ⟨Bx, 0, none⟩ = some (.int .i64 x.1) ∧ W.cell? ⟨Bx, 1, none⟩ = some (.int .i64 x.2) ∧ a' = { tmps := #[.agg #[.slice qa ps.length qc, .slice aa ls.length ac], .int .i64 a, .int .i64 b, .bool on, .pointer (some ⟨w.heap.size, 0, none⟩), undef, undef, undef, .pointer (some ⟨w.heap.size + 1, 0, none⟩), .int .i64 0, .pointer (some ⟨u2.w.heap.size, 0, none⟩), .pointer (some ⟨Bx, 0, none⟩), .agg #[.slice qa ps.length qc, .slice aa ls.length ac], .int .i64 0, .bool false, undef, .int .i64 a, .int .i64 b, .agg #[.int .i64 (min a b), .int .i64 (max a b)], .agg #[.int .i64 (min a b), .int .i64 (max a b)], .bool true, .bool false, undef, .pointer (some ⟨w.heap.size, 0, none⟩), .slice qa ps.length qc, .agg #[.slice qa ps.length qc, .slice none 0 0], .pointer (some ⟨w.heap.size, 1, none⟩), .slice aa ls.length ac, .agg #[.int .i64 (min a b), .int .i64 (max a b)], .bool on, .func (.func 46) #[] #[.pointer (some ⟨y.w.heap.size + 1, 0, none⟩), .pointer (some ⟨y.w.heap.size + 1 + 1, 0, none⟩), .pointer (some ⟨y.w.heap.size, 0, none⟩)], .agg #[.int .i64 x.1, .int .i64 x.2], undef, undef, undef, undef, undef, undef, undef], defers := [] })
        (fun x a' _ X Z row hs hg hr => by obtain ⟨Bx, h1, h2, h3⟩ := hs; exact ⟨Bx, cell_kept h1 hg (fun r e => (hr r e).2), cell_kept h2 hg (fun r e => (hr r e).2), h3⟩)
        ?assign ?body ?done ?stop
      case hKb =>
        intro W l o o' hl h _ _
        have hlt := (Array.getElem?_eq_some_iff.1 h).1
        refine ⟨(Below.refl _ W).grown (grownBy_putObj' W l o') (by omega) (fun k e => by cases e; omega), by simp [World.putObj], fun b hb => ?_⟩
        have hne : b ≠ l := by simp at hb; omega
        exact World.putObj_heap_other hne
      case assign =>
        rintro l pre x W K hi hK
        have hsW : v5.w.heap.size ≤ W.heap.size := by obtain ⟨_, _, _, _, _, _, _, hs⟩ := hi; exact hs
        gi_wp2
        exact hK _ _ ((KeepsOthers.alloc _ _).from _) (Kept.of (b_alloc (Below.refl _ _) _) (by omega) (by simp; omega)) (hi.alloc _) ⟨W.heap.size, bn rfl rfl, bn rfl rfl, rfl⟩
      case body =>
        rintro l pre x a' W hl ⟨r, hr⟩ hH' ⟨Bx, hx0, hx1, rfl⟩ hlt
        obtain ⟨v, h0, h1, f0, f1, ho, hb, hs⟩ := hH'
        obtain ⟨va, vc, rfl, -⟩ := own_slice ho
        have HO := hid ho
        have zb : w.heap.size + 1 < W.heap.size := by omega
        gi_wp2_with (gi_at_builtin; refine wpListIn_append_own _ rfl (.tmp 33) (.tmp 35) 23 rfl v5.w.heap.size 55 i0 (.agg #[.int .i64 0, .int .i64 0]) 2 16 und23 hi hz0 hz1 hz2 rfl (by decide) _ _ _ rfl (HO.out.alloc _) ⟨W.heap.size, 0, none⟩ 1 1 (lkc x) rfl rfl (news (cs := #[.int .i64 x.1, .int .i64 x.2]) rfl) (by intro u hu; simp [lkc] at hu; rcases hu with rfl | rfl <;> rfl) (by unfold maxLen; omega) (by omega) (by simp; omega) ?_; intro v' w1 hown' hgrow _; obtain ⟨g', cap', rfl⟩ := ownsRow_succ hown'; have y1 := far_cell HO.out hgrow (b := w.heap.size + 1) (o := 1) (by omega) (bo (by omega) h1); have y0 := far_cell HO.out hgrow (b := w.heap.size + 1) (o := 0) (by omega) (bo (by omega) h0); have g1 := far_frozen HO.out hgrow (b := w.heap.size + 1) (o := 1) (by omega) (by simp; omega) (fo (by omega) f1); have g0 := far_frozen HO.out hgrow (b := w.heap.size + 1) (o := 0) (by omega) (by simp; omega) (fo (by omega) f0))
        refine ⟨round_others HO.out hgrow, round_kept HO.out hgrow hs (by simp; omega) (by omega) (by omega), ?_⟩
        refine ⟨_, st_off _ (.inl (by decide)) y0, st_hit _ y1, sf _ g0, sf _ g1, ?_, ?_, ?_⟩
        · have := own_set (b := w.heap.size + 1) (o := 1) (u := .slice (some ⟨g', 0, none⟩) (pre.length + 1) cap') hown' (by omega)
          rw [List.flatMap_append, List.length_append]
          simpa using this
        · exact hb.trans (round_kept (bs := []) HO.out hgrow hs (by simp) (by omega) (by omega)).below
        · have := hgrow.size
          simp at this ⊢
          omega
      case done =>
        rintro D zs W hD rfl hH' hK
        obtain ⟨v, h0, h1, f0, f1, ho, hb, hs⟩ := hH'
        obtain ⟨va, vc, rfl, hvc, hvn, hvR, hvf⟩ := own_slice ho
        have HR := hid hvR; have HF := hid hvf; have HN := hid hvn
        clear hvR hvf hvn
        have r0 := two0 h0
        have r1 := two1 h1
        have HO := hid ho
        gi_wp2
        generalize hZ : World.setCell _ _ _ = Z
        have hKZ : Z.heap[D]? = some (.deferred (some [])) := by rw [← hZ]; exact ((KeepsOthers.setCell _ _ _).trans (KeepsOthers.setCell _ _ _)).same D _ hK rfl
        have p0 : (Z.putObj D (.deferred none)).cell? ⟨w.heap.size + 1, 0, none⟩ = some (.slice qa ps.length qc) := cell_kept (by rw [← hZ]; exact r0 _ _) (grownBy_putObj' _ D _) (fun r e => by cases e; exact ⟨_, hKZ, rfl⟩)
        have p1 : (Z.putObj D (.deferred none)).cell? ⟨w.heap.size + 1, 1, none⟩ = some (.slice va (cutsOf ls (min a b, max a b) on).length vc) := cell_kept (by rw [← hZ]; exact r1 _ _) (grownBy_putObj' _ D _) (fun r e => by cases e; exact ⟨_, hKZ, rfl⟩)
        have hWZ : Below w.heap.size w (Z.putObj D (.deferred none)) := by
          refine Below.grown (w := Z) ?_ (grownBy_putObj' Z D _) ?_ (fun k e => by cases e; omega)
          · rw [← hZ]; exact b_set (b_set hb (by omega) _) (by omega) _
          · rw [← hZ]; simp; omega
        have hoZ : (Z.putObj D (.deferred none)).ownsRow v5.w.heap.size 55 2 (.slice va (cutsOf ls (min a b, max a b) on).length vc) (cutsOf ls (min a b, max a b) on).length ((cutsOf ls (min a b, max a b) on).flatMap lkc) := by
          refine own_kept (w := Z) ?_ (grownBy_putObj' Z D _) (fun r e => by cases e; exact ⟨_, hKZ, rfl⟩)
          rw [← hZ]
          exact own_set (own_set HO.out (by omega)) (by omega)
        refine ⟨by simp, .inl ⟨_, _, rfl, run_takeDeferred hKZ, ?_⟩⟩
        refine ⟨.tuple #[.agg #[.slice qa ps.length qc, .slice va (cutsOf ls (min a b, max a b) on).length vc], .int .i64 0], by simp [results, Try.results20, go_sem, p0, p1], .agg #[.slice qa ps.length qc, .slice va (cutsOf ls (min a b, max a b) on).length vc], ?_, ?_, hWZ⟩
        · rw [show cutE ps ls a b = 0 by simp [cutE, Hc.out, hlk]]
        · rw [show cutQ ps ls a b = ps by simp [cutQ, cutE, Hc.out, hlk], show cutL ps ls a b on = cutsOf ls (min a b, max a b) on by simp [cutL, cutE, Hc.out, hlk]]
          exact ⟨qa, va, qc, vc, rfl, HQ.out.below hWZ, Rd.own hoZ, HFQ.out, ⟨hvc, fun h => HN.out h⟩, HSQ.out.mono fun b h => .inl h, .inr fun g off f h => .inr (by have := HF.out g off f h; omega)⟩
      case stop =>
        rintro D c pre W _ _ h _
        exact h.elim
  · have Hc := hid hc
    rw [chk_60 hc]
    clear hc
    have r0 := two0 (e0 u1)
    have r1 := two1 (e1 u1)
    gi_wp2_with fail
    refine ⟨.tuple #[.agg #[.slice none 0 0, .slice none 0 0], .int .i64 60], by simp [results, Try.results20, go_sem, r0, r1], .agg #[.slice none 0 0, .slice none 0 0], ?_, ?_, b_set (b_set (WV.out u1) (by omega) _) (by omega) _⟩
    · rw [show cutE ps ls a b = 60 by simp [cutE, Hc.out]]
    · rw [show cutQ ps ls a b = [] by simp [cutQ, cutE, Hc.out], show cutL ps ls a b on = [] by simp [cutL, cutE, Hc.out]]
      exact NetIs.zero _ _
end Go.Proofs.Ytmikhkmdcpgkfaa
