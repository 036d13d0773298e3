/- Gestures: the iterator. -/
import Derived.Test.YtbppajenihjfhaaGM
import Derived.Test.YtbppajenihjfhaaGK1
import Derived.Test.YtbppajenihjfhaaG
namespace Go.Proofs.Ytbppajenihjfhaa
open Go.RowKit Go.Shelf
open Go.Lib (hid)

/-- The gestures that reach a sample among the first j. -/
def ftg (l : List Ge) (at_ : Int) (nn j : Nat) : List (Fin nn) := (fto nn j).filter fun i => gHas (ge l i.1) at_
theorem fg_next {l : List Ge} {at_ : Int} {nn j : Nat} (h : j < nn) : ftg l at_ nn (j + 1) = if gHas (ge l j) at_ = true then ftg l at_ nn j ++ [⟨j, h⟩] else ftg l at_ nn j := by
  unfold ftg
  rw [fto_next h, List.filter_append]
  by_cases hs : gHas (ge l j) at_ = true
  · rw [if_pos hs]; simp [hs]
  · rw [if_neg hs]; simp [hs]
theorem fg_len (l : List Ge) (at_ : Int) (nn j : Nat) : (ftg l at_ nn j).length ≤ j := Nat.le_trans (List.length_filter_le _ _) (fto_len nn j)
set_option maxRecDepth 100000 in
set_option maxHeartbeats 4000000 in
theorem reach1_in (n : Nat) (hn : 1 ≤ n) (lp Bm Ba n₀ : Nat) (l : List Ge) (nn : Nat) (hnn : l.length = nn) (h10 : nn ≤ 64) (a : Option Addr) (c : Nat) (at_ : Int) (X : Nat → Prop) (J Jx : List (Fin nn) → World → Prop)
    (hY : ∀ pre x W, J pre W → pre.length < 100 → YieldAt Fence.wide (n - 1) Try.prog lp #[(ge l x.1).v'] W fun e W' =>
      (e = .returned (.bool true) ∧ J (pre ++ [x]) W' ∧ Kx n₀ X W W') ∨ (e = .returned (.bool false) ∧ Jx (pre ++ [x]) W'))
    (W : World) (hn₀ : n₀ ≤ W.heap.size) (hJ : AbidesFrom W.heap.size J)
    (hm : W.cell? ⟨Bm, 0, none⟩ = some (.slice a nn c)) (hBm : ¬ X Bm) (hma : W.cell? ⟨Ba, 0, none⟩ = some (.int .i64 at_)) (hBa : ¬ X Ba) (_hX : ∀ b, X b → b < W.heap.size) (hra : ∀ W', Below n₀ W W' → Rd W' a (l.flatMap Ge.cs)) (h0 : J [] W) :
    CallsIn Fence.wide n Try.prog 99 #[.func (.yield lp) #[] #[], .pointer (some ⟨Bm, 0, none⟩), .pointer (some ⟨Ba, 0, none⟩)] W fun e W' => (∃ v, e = .returned v) ∧
      ((∃ ys, ys = ftg l at_ nn nn ∧ J ys W') ∨ (∃ pre, True ∧ Jx pre W')) := by
  have HN := hid hnn; clear hnn
  refine callsIn_of_wp Try.func99 rfl trivial ?_ rfl
  simp only [Try.ntmps99, List.size_toArray, List.length_cons, List.length_nil, Nat.reduceAdd, Nat.reduceSub, Array.replicate_succ, Array.replicate_zero, List.push_toArray, List.append_toArray, List.nil_append, List.cons_append]
  gi_wp2
  gi_loopw [8] (fun i wr => ∃ j : Nat, j ≤ nn ∧ i = .int .i64 j ∧ J (ftg l at_ nn j) wr ∧ Kx n₀ X W wr) (fun i _ => nn - (intOf i).toNat)
  case atStart => exact ⟨0, by omega, rfl, h0, Kx.refl _ _ _⟩
  case round =>
    obtain ⟨j, hj, rfl, hJj, hK⟩ := hrel
    by_cases hlt : j < nn
    case neg =>
      have d1 : decide ((j : Int) < (nn : Int)) = false := decide_eq_false (by omega)
      have d1' : decide (j < nn) = false := decide_eq_false hlt
      obtain rfl : j = nn := by omega
      gi_wp2
      go_end0
      exact ⟨⟨_, rfl⟩, .inl ⟨_, rfl, hJj⟩⟩
    have d1 : decide ((j : Int) < (nn : Int)) = true := decide_eq_true (by omega)
    have d1' : decide (j < nn) = true := decide_eq_true hlt
    have hjj : (j : Int) < (nn : Int) := by omega
    have hsz := hK.size
    have hbm : wr.cell? ⟨Bm, 0, none⟩ = some (.slice a nn c) := hK.cell hBm hm
    have hba : wr.cell? ⟨Ba, 0, none⟩ = some (.int .i64 at_) := hK.cell hBa hma
    have hrw := hra wr hK.below
    obtain ⟨b, off, rfl, hb⟩ := hrw.addr (by rw [flat_len Ge.cs 5 Ge.c5, HN.out]; omega)
    have RQ := hid (after_rd hrw); clear hrw
    obtain ⟨⟨qm, qf, qt, qe, qa, qn, qc, ql⟩, hq⟩ : ∃ t, ge l j = t := ⟨_, rfl⟩
    have q0 : wr.cell? ⟨b, off + j * 5, none⟩ = some (.int .i64 qm) := ge_cell RQ.out (j := j) (by rw [HN.out]; exact hlt) 0 (by decide) (by rw [hq]; rfl) rfl (After.here _)
    have q1 : wr.cell? ⟨b, off + j * 5 + 1, none⟩ = some (.int .i64 qf) := ge_cell RQ.out (j := j) (by rw [HN.out]; exact hlt) 1 (by decide) (by rw [hq]; rfl) (by omega) (After.here _)
    have q2 : wr.cell? ⟨b, off + j * 5 + 2, none⟩ = some (.int .i64 qt) := ge_cell RQ.out (j := j) (by rw [HN.out]; exact hlt) 2 (by decide) (by rw [hq]; rfl) (by omega) (After.here _)
    have q3 : wr.cell? ⟨b, off + j * 5 + 3, none⟩ = some (.int .i64 qe) := ge_cell RQ.out (j := j) (by rw [HN.out]; exact hlt) 3 (by decide) (by rw [hq]; rfl) (by omega) (After.here _)
    have q4 : wr.cell? ⟨b, off + j * 5 + 4, none⟩ = some (.slice qa qn qc) := ge_cell RQ.out (j := j) (by rw [HN.out]; exact hlt) 4 (by decide) (by rw [hq]; rfl) (by omega) (After.here _)
    have Hq := hid hq; clear hq
    have hBV : Below wr.heap.size wr (wr.alloc (.cells #[.int .i64 qm, .int .i64 qf, .int .i64 qt, .int .i64 qe, .slice qa qn qc] 38)) := b_alloc (Below.refl _ _) _
    have x0 : (wr.alloc (.cells #[.int .i64 qm, .int .i64 qf, .int .i64 qt, .int .i64 qe, .slice qa qn qc] 38)).cell? ⟨wr.heap.size, 0, none⟩ = some (.int .i64 qm) := bn rfl rfl
    have x1 : (wr.alloc (.cells #[.int .i64 qm, .int .i64 qf, .int .i64 qt, .int .i64 qe, .slice qa qn qc] 38)).cell? ⟨wr.heap.size, 1, none⟩ = some (.int .i64 qf) := bn rfl rfl
    have x2 : (wr.alloc (.cells #[.int .i64 qm, .int .i64 qf, .int .i64 qt, .int .i64 qe, .slice qa qn qc] 38)).cell? ⟨wr.heap.size, 2, none⟩ = some (.int .i64 qt) := bn rfl rfl
    have x3 : (wr.alloc (.cells #[.int .i64 qm, .int .i64 qf, .int .i64 qt, .int .i64 qe, .slice qa qn qc] 38)).cell? ⟨wr.heap.size, 3, none⟩ = some (.int .i64 qe) := bn rfl rfl
    have x4 : (wr.alloc (.cells #[.int .i64 qm, .int .i64 qf, .int .i64 qt, .int .i64 qe, .slice qa qn qc] 38)).cell? ⟨wr.heap.size, 4, none⟩ = some (.slice qa qn qc) := bn rfl rfl
    have ba0 : (wr.alloc (.cells #[.int .i64 qm, .int .i64 qf, .int .i64 qt, .int .i64 qe, .slice qa qn qc] 38)).cell? ⟨Ba, 0, none⟩ = some (.int .i64 at_) := bb hBV (cell_lt hba) hba
    by_cases h1 : qf ≤ at_
    case neg =>
      have e1 : decide (qf ≤ at_) = false := decide_eq_false h1
      have HST := hid (show gHas (ge l j) at_ = false by rw [Hq.out]; unfold gHas; dsimp only; rw [e1]; rfl)
      gi_wp2_with fail
      refine ⟨fun _ h => (by cases h), ?_⟩
      gi_wp2_with fail
      go_roundw
      case rel => exact ⟨j + 1, by omega, by go_num, by rw [fg_next hlt, if_neg (by rw [HST.out]; decide)]; exact hJ _ wr _ none hJj (below_grown hBV) (fun r e => by cases e), hK.trans (Kx.of hBV (by omega))⟩
      case measure => first | (simp [intOf]; done) | (simp [intOf]; omega)
    by_cases h2 : at_ < qe
    case neg =>
      have e1 : decide (qf ≤ at_) = true := decide_eq_true h1
      have e2 : decide (at_ < qe) = false := decide_eq_false h2
      have HST := hid (show gHas (ge l j) at_ = false by rw [Hq.out]; unfold gHas; dsimp only; rw [e1, e2]; rfl)
      gi_wp2_with fail
      refine ⟨fun _ h => (by cases h), ?_⟩
      gi_wp2_with fail
      go_roundw
      case rel => exact ⟨j + 1, by omega, by go_num, by rw [fg_next hlt, if_neg (by rw [HST.out]; decide)]; exact hJ _ wr _ none hJj (below_grown hBV) (fun r e => by cases e), hK.trans (Kx.of hBV (by omega))⟩
      case measure => first | (simp [intOf]; done) | (simp [intOf]; omega)
    have e1 : decide (qf ≤ at_) = true := decide_eq_true h1
    have e2 : decide (at_ < qe) = true := decide_eq_true h2
    have HST := hid (show gHas (ge l j) at_ = true by rw [Hq.out]; unfold gHas; dsimp only; rw [e1, e2]; rfl)
    obtain ⟨fn, tmps, assign, body, hy, hR'⟩ := hY _ ⟨j, hlt⟩ (wr.alloc (.cells #[.int .i64 qm, .int .i64 qf, .int .i64 qt, .int .i64 qe, .slice qa qn qc] 38)) (hJ _ wr _ none hJj (below_grown hBV) (fun r e => by cases e)) (Nat.lt_of_le_of_lt (fg_len _ _ _ _) (by omega))
    have hR := hR'.mono (R' := fun e W' => ∃ r : Bool, e = .returned (.bool r) ∧ (r = true → J (ftg l at_ nn j ++ [⟨j, hlt⟩]) W' ∧ Kx n₀ X (wr.alloc (.cells #[.int .i64 qm, .int .i64 qf, .int .i64 qt, .int .i64 qe, .slice qa qn qc] 38)) W') ∧ (r = false → Jx (ftg l at_ nn j ++ [⟨j, hlt⟩]) W')) (fun e W' h => by
      rcases h with ⟨h1, h2, h3⟩ | ⟨h1, h2⟩
      · exact ⟨true, h1, fun _ => ⟨h2, h3⟩, fun h => by cases h⟩
      · exact ⟨false, h1, fun h => (by cases h), fun _ => h2⟩)
    clear hR' hY
    dsimp only at hy
    rw [Hq.out] at hy
    unfold Ge.v' at hy
    dsimp only at hy
    gi_wp2_with fail
    refine hR.mono ?_
    rintro e W3 ⟨r, rfl, h3, h4⟩
    cases r
    · gi_wp2
      refine bodyPost_ret (results_none rfl _ _ _) rfl ?_
      exact ⟨⟨_, rfl⟩, .inr ⟨_, trivial, h4 (by simp)⟩⟩
    · have hJ3 := (h3 (by simp)).1
      have hK3 := (h3 (by simp)).2
      clear h3 h4
      gi_wp2
      go_roundw
      case rel => exact ⟨j + 1, by omega, by go_num, by rw [fg_next hlt, if_pos HST.out]; exact hJ3, (hK.trans (Kx.of hBV (by omega))).trans hK3⟩
      case measure => first | (simp [intOf]; done) | (simp [intOf]; omega)
end Go.Proofs.Ytbppajenihjfhaa
