/- The iterator over the links that are cut. -/
import Derived.Test.YtmikhkmdcpgkfaaX
import Derived.RangeFuncNested
import Derived.RangeFuncBound
import Derived.RangeFuncCalls
import Derived.RangeFuncLeaves
import Derived.RangeFuncBox
import Derived.Shelf.Abstract
import Derived.Shelf.RegionOpen
import Derived.OwnWalkIn
import Derived.TacticsInMore
import Derived.LoopNIn
import Derived.LoopIn
namespace Go.Proofs.Ytmikhkmdcpgkfaa
open Go.RowKit Go.Shelf
open Go.Lib (hid)
attribute [local go_sem] Oper.semAt_some

/-- The links of the parties below a, and those of party a below b. -/
def rowTo (a b : Nat) : List (Int × Int) := (List.range (b - (a + 1))).map fun i => ((a : Int), ((a + 1 + i : Nat) : Int))
def linksTo : Nat → List (Int × Int)
  | 0 => []
  | a + 1 => linksTo a ++ rowTo a 16
def keepCut (ls : List (Int × Int)) (ch : Int × Int) (on : Bool) (x : Int × Int) : Bool := if x = ch then on else ls.contains x
/-- What has been yielded at (a, b). -/
def cutTo (ls : List (Int × Int)) (ch : Int × Int) (on : Bool) (a b : Nat) : List (Int × Int) := (linksTo a ++ rowTo a b).filter (keepCut ls ch on)
def cutsOf (ls : List (Int × Int)) (ch : Int × Int) (on : Bool) : List (Int × Int) := (linksTo 16).filter (keepCut ls ch on)
theorem rowTo_start (a : Nat) : rowTo a (a + 1) = [] := by simp [rowTo]
theorem rowTo_next {a b : Nat} (h : a + 1 ≤ b) : rowTo a (b + 1) = rowTo a b ++ [((a : Int), (b : Int))] := by
  unfold rowTo
  rw [show b + 1 - (a + 1) = (b - (a + 1)) + 1 by omega, List.range_succ, List.map_append]
  simp
  omega
theorem cutTo_yes {ls : List (Int × Int)} {ch : Int × Int} {on : Bool} {a b : Nat} (h : a + 1 ≤ b) (hk : keepCut ls ch on ((a : Int), (b : Int)) = true) : cutTo ls ch on a (b + 1) = cutTo ls ch on a b ++ [((a : Int), (b : Int))] := by
  unfold cutTo
  rw [rowTo_next h, ← List.append_assoc, List.filter_append]
  simp [hk]
theorem cutTo_no {ls : List (Int × Int)} {ch : Int × Int} {on : Bool} {a b : Nat} (h : a + 1 ≤ b) (hk : keepCut ls ch on ((a : Int), (b : Int)) = false) : cutTo ls ch on a (b + 1) = cutTo ls ch on a b := by
  unfold cutTo
  rw [rowTo_next h, ← List.append_assoc, List.filter_append]
  simp [hk]
theorem cutTo_row (ls : List (Int × Int)) (ch : Int × Int) (on : Bool) (a : Nat) : cutTo ls ch on a 16 = cutTo ls ch on (a + 1) (a + 1 + 1) := by
  unfold cutTo
  rw [rowTo_start, List.append_nil]
  rfl
theorem cutTo_end (ls : List (Int × Int)) (ch : Int × Int) (on : Bool) : cutTo ls ch on 16 (16 + 1) = cutsOf ls ch on := by
  unfold cutTo cutsOf
  rw [rowTo_start, List.append_nil]
theorem linksTo_len (a : Nat) : (linksTo a).length ≤ a * 16 := by
  induction a with
  | zero => simp [linksTo]
  | succ a ih =>
    simp only [linksTo, List.length_append]
    have : (rowTo a 16).length ≤ 16 := by simp [rowTo]; omega
    omega
theorem cutTo_len (ls : List (Int × Int)) (ch : Int × Int) (on : Bool) (a b : Nat) (ha : a ≤ 16) (hb : b ≤ 17) : (cutTo ls ch on a b).length ≤ 280 := by
  unfold cutTo
  refine Nat.le_trans (List.length_filter_le _ _) ?_
  rw [List.length_append]
  have := linksTo_len a
  have : (rowTo a b).length ≤ 17 := by simp [rowTo]; omega
  omega
theorem below_grown {w w' : World} (h : Below w.heap.size w w') : w.grownBy w' none := ⟨h.os, h.tape, h.output, h.size, fun k hk _ => h.block k hk⟩
/-- What the iterator asks of a round: old memory below n₀ stands, and so do its own variables. -/
structure Kept (n₀ : Nat) (bs : List Nat) (W W' : World) : Prop where
  below : Below n₀ W W'
  size : W.heap.size ≤ W'.heap.size
  keep : ∀ b, b ∈ bs → W'.heap[b]? = W.heap[b]?
theorem Kept.refl (n₀ : Nat) (bs : List Nat) (W : World) : Kept n₀ bs W W := ⟨Below.refl _ _, Nat.le_refl _, fun _ _ => rfl⟩
theorem Kept.trans {n₀ : Nat} {bs : List Nat} {A B C : World} (h : Kept n₀ bs A B) (k : Kept n₀ bs B C) : Kept n₀ bs A C := ⟨h.below.trans k.below, Nat.le_trans h.size k.size, fun b hb => (k.keep b hb).trans (h.keep b hb)⟩
theorem Kept.of {n₀ : Nat} {bs : List Nat} {W W' : World} (h : Below W.heap.size W W') (hn : n₀ ≤ W.heap.size) (hb : ∀ b, b ∈ bs → b < W.heap.size) : Kept n₀ bs W W' := ⟨h.mono hn, h.size, fun b hm => h.block b (hb b hm)⟩
theorem Kept.cell {n₀ : Nat} {bs : List Nat} {W W' : World} (h : Kept n₀ bs W W') {b o : Nat} (hb : b ∈ bs) : W'.cell? ⟨b, o, none⟩ = W.cell? ⟨b, o, none⟩ := World.cell?_of_block (h.keep b hb)
theorem mix58 : Try.prog.eqGuardType Try.prog.depth 58 = false := by kernel_rfl
theorem und58 : Try.prog.underlying 58 = some (.array 2 3) := by kernel_rfl
theorem eq58 (a b c d : Int) (w : World) : (Op.equalIn 10000 58 (.agg #[.int .i64 a, .int .i64 b]) (.agg #[.int .i64 c, .int .i64 d])).run Try.prog w = .ok (decide (a = c ∧ b = d)) w := by
  show (Op.equalIn (9998 + 1 + 1) _ _ _).run _ _ = _
  rw [Op.equalIn]
  simp [run_underlying und58, run_underlying und3, go_sem, part, isAgg, show List.range' 0 2 = [0, 1] from rfl, run_equalIn_int w 9998 3 .i64 .i64 b d und3]
  by_cases h1 : a = c <;> by_cases h2 : b = d <;> simp [h1, h2]

set_option maxRecDepth 100000 in
set_option maxHeartbeats 2000000 in
theorem cuts1_in (n : Nat) (hn : 1 ≤ n) (l Bc Bo Bl n₀ : Nat) (ls : List (Int × Int)) (aa : Option Addr) (ac : Nat) (c1 c2 : Int) (on : Bool) (hl : ls.length ≤ 1000) (J Jx : List (Int × Int) → World → Prop)
    (hY : ∀ pre x W, J pre W → pre.length < 1000 → YieldAt Fence.wide (n - 1) Try.prog l #[.agg #[.int .i64 x.1, .int .i64 x.2]] W fun e W' =>
      (e = .returned (.bool true) ∧ J (pre ++ [x]) W' ∧ Kept n₀ [Bc, Bo, Bl] W W') ∨ (e = .returned (.bool false) ∧ Jx (pre ++ [x]) W'))
    (W : World) (hn₀ : n₀ ≤ W.heap.size) (hJ : AbidesFrom W.heap.size J)
    (hc0 : W.cell? ⟨Bc, 0, none⟩ = some (.int .i64 c1)) (hc1 : W.cell? ⟨Bc, 1, none⟩ = some (.int .i64 c2)) (ho : W.cell? ⟨Bo, 0, none⟩ = some (.bool on)) (hls : W.cell? ⟨Bl, 0, none⟩ = some (.slice aa ls.length ac))
    (hBc : Bc < W.heap.size) (hBo : Bo < W.heap.size) (hBl : Bl < W.heap.size) (hra : ∀ W', Below n₀ W W' → Rd W' aa (ls.flatMap lkc)) (h0 : J [] W) :
    CallsIn Fence.wide n Try.prog 46 #[.func (.yield l) #[] #[], .pointer (some ⟨Bc, 0, none⟩), .pointer (some ⟨Bo, 0, none⟩), .pointer (some ⟨Bl, 0, none⟩)] W fun e W' => (∃ v, e = .returned v) ∧
      ((∃ ys, ys = cutsOf ls (c1, c2) on ∧ J ys W') ∨ (∃ pre, True ∧ Jx pre W')) := by
  have q0 := mix58
  have q1 := eq58
  refine callsIn_of_wp Try.func46 rfl trivial ?_ rfl
  simp only [Try.ntmps46, List.size_toArray, List.length_cons, List.length_nil, Nat.reduceAdd, Nat.reduceSub, Array.replicate_succ, Array.replicate_zero, List.push_toArray, List.append_toArray, List.nil_append, List.cons_append]
  gi_wp2
  gi_loopw [8] (fun i wr => ∃ a : Nat, a ≤ 16 ∧ i = .int .i64 a ∧ J (cutTo ls (c1, c2) on a (a + 1)) wr ∧ Kept n₀ [Bc, Bo, Bl] W wr) (fun i _ => 16 - (intOf i).toNat)
  case atStart => exact ⟨0, by omega, rfl, h0, Kept.refl _ _ _⟩
  case round =>
    obtain ⟨a, ha, rfl, hJa, hB⟩ := hrel
    by_cases hlt : a < 16
    · have hd9 : decide ((a : Int) < 16) = true := by simp; omega
      gi_wp2
      gi_loopw [6] (fun i wr => ∃ b : Nat, a + 1 ≤ b ∧ b ≤ 16 ∧ i = .int .i64 b ∧ J (cutTo ls (c1, c2) on a b) wr ∧ Kept n₀ [Bc, Bo, Bl] W wr) (fun i _ => 16 - (intOf i).toNat)
      case atStart => exact ⟨a + 1, by omega, by omega, by go_num, hJa, hB⟩
      case round =>
        obtain ⟨b, hab, hb, rfl, hJb, hBr⟩ := hrel
        by_cases hlt2 : b < 16
        · have hsz := hBr.size
          have g0 : wr.cell? ⟨Bc, 0, none⟩ = some (.int .i64 c1) := (hBr.cell (o := 0) (by simp)).trans hc0
          have g1 : wr.cell? ⟨Bc, 1, none⟩ = some (.int .i64 c2) := (hBr.cell (o := 1) (by simp)).trans hc1
          have g2 : wr.cell? ⟨Bo, 0, none⟩ = some (.bool on) := (hBr.cell (o := 0) (by simp)).trans ho
          have g3 : wr.cell? ⟨Bl, 0, none⟩ = some (.slice aa ls.length ac) := (hBr.cell (o := 0) (by simp)).trans hls
          have z1 : Bc < wr.heap.size := by omega
          have z2 : Bo < wr.heap.size := by omega
          have z3 : Bl < wr.heap.size := by omega
          have hbs : ∀ b, b ∈ [Bc, Bo, Bl] → b < wr.heap.size := by simp; omega
          have hnr : n₀ ≤ wr.heap.size := by omega
          have hKa : Kept n₀ [Bc, Bo, Bl] W (wr.alloc (.cells #[.int .i64 a, .int .i64 b] 58)) := hBr.trans (Kept.of (b_alloc (Below.refl _ _) _) hnr hbs)
          have HKA := hid hKa; clear hKa
          have HBS := hid hbs; clear hbs
          have hlen := cutTo_len ls (c1, c2) on a b (by omega) (by omega)
          by_cases hx : (a : Int) = c1 ∧ (b : Int) = c2
          · obtain ⟨rfl, rfl⟩ := hx
            cases on with
            | false =>
              have hk := hid (cutTo_no (ls := ls) (ch := ((a : Int), (b : Int))) (on := false) hab (by simp [keepCut]))
              gi_wp2
              try any_goals (exfalso; rename_i h8 _; exact absurd h8 (by simp [undef]))
              refine ⟨trivial, ?_⟩
              gi_wp2
              go_roundw
              case rel => exact ⟨b + 1, by omega, by omega, by go_num, by rw [hk.out]; exact hJ _ wr _ none hJb (World.grownBy_alloc wr _ none) (fun r e => by cases e), HKA.out⟩
              case measure => simp [intOf]; omega
            | true =>
              have hk := hid (cutTo_yes (ls := ls) (ch := ((a : Int), (b : Int))) (on := true) hab (by simp [keepCut]))
              obtain ⟨fn, tmps, assign, body, hy, hR⟩ := hY _ ((a : Int), (b : Int)) (wr.alloc (.cells #[.int .i64 a, .int .i64 b] 58)) (hJ _ wr _ none hJb (World.grownBy_alloc wr _ none) (fun r e => by cases e)) (by omega)
              dsimp only at hy
              gi_wp2
              try any_goals (exfalso; rename_i h8 _; exact absurd h8 (by simp [undef]))
              refine ⟨trivial, ?_⟩
              gi_wp2
              refine hR.mono ?_
              rintro e W3 (⟨rfl, hJ3, hk3⟩ | ⟨rfl, hJx3⟩)
              · gi_wp2
                go_roundw
                case rel => exact ⟨b + 1, by omega, by omega, by go_num, by rw [hk.out]; exact hJ3, HKA.out.trans hk3⟩
                case measure => simp [intOf]; omega
              · gi_wp2
                refine bodyPost_ret (results_none rfl _ _ _) rfl ?_
                exact ⟨⟨_, rfl⟩, .inr ⟨_, trivial, hJx3⟩⟩
          · have hne : ¬ ((a : Int), (b : Int)) = (c1, c2) := fun h => hx ⟨congrArg Prod.fst h, congrArg Prod.snd h⟩
            have Hne := hid hne
            clear hne
            by_cases hx1 : (a : Int) = c1
            · subst hx1
              have hx2 : ¬ (b : Int) = c2 := fun h => hx ⟨rfl, h⟩
              clear hx
              gi_wp2_with fail
              refine ⟨trivial, ?_⟩
              refine (callsIn_wide.2 (contains_any ls a b aa ac _ hl (hra _ HKA.out.below))).mono ?_
              rintro e w3 ⟨rfl, hB3⟩
              have hB4 : Below wr.heap.size wr w3 := b_alloc_then hB3
              have hB5 : Kept n₀ [Bc, Bo, Bl] W w3 := hBr.trans (Kept.of hB4 hnr HBS.out)
              have hJ3 : J (cutTo ls ((a : Int), c2) on a b) w3 := hJ _ wr _ none hJb (below_grown hB4) (fun r e => by cases e)
              have z5 : wr.heap.size < w3.heap.size := by have := hB3.size; simp at this; omega
              have e0 : w3.cell? ⟨wr.heap.size, 0, none⟩ = some (.int .i64 a) := (hB3.cell (p := ⟨wr.heap.size, 0, none⟩) (by simp)).trans (bn rfl rfl)
              have e1 : w3.cell? ⟨wr.heap.size, 1, none⟩ = some (.int .i64 b) := (hB3.cell (p := ⟨wr.heap.size, 1, none⟩) (by simp)).trans (bn rfl rfl)
              rcases hct : ls.contains ((a : Int), (b : Int)) with _ | _
              · have hk := hid (cutTo_no (ls := ls) (ch := (_, c2)) (on := on) hab (by rw [keepCut, if_neg Hne.out]; exact hct))
                gi_wp2
                go_roundw
                case rel => first | exact ⟨b + 1, by omega, by omega, by go_num, by rw [hk.out]; exact hJ3, hB5⟩ | ((repeat apply Exists.intro); exact ⟨⟨b + 1, by omega, by omega, by go_num, by rw [hk.out]; exact hJ3, hB5⟩, rfl⟩)
                case measure => simp [intOf]; omega
              · have hk := hid (cutTo_yes (ls := ls) (ch := (_, c2)) (on := on) hab (by rw [keepCut, if_neg Hne.out]; exact hct))
                obtain ⟨fn, tmps, assign, body, hy, hR⟩ := hY _ ((a : Int), (b : Int)) w3 hJ3 (by omega)
                dsimp only at hy
                gi_wp2
                refine hR.mono ?_
                rintro e W3 (⟨rfl, hJ3, hk3⟩ | ⟨rfl, hJx3⟩)
                · gi_wp2
                  go_roundw
                  case rel => first | exact ⟨b + 1, by omega, by omega, by go_num, by rw [hk.out]; exact hJ3, hB5.trans hk3⟩ | ((repeat apply Exists.intro); exact ⟨⟨b + 1, by omega, by omega, by go_num, by rw [hk.out]; exact hJ3, hB5.trans hk3⟩, rfl⟩)
                  case measure => simp [intOf]; omega
                · gi_wp2
                  refine bodyPost_ret (results_none rfl _ _ _) rfl ?_
                  exact ⟨⟨_, rfl⟩, .inr ⟨_, trivial, hJx3⟩⟩
            · clear hx
              gi_wp2_with fail
              refine ⟨trivial, ?_⟩
              refine (callsIn_wide.2 (contains_any ls a b aa ac _ hl (hra _ HKA.out.below))).mono ?_
              rintro e w3 ⟨rfl, hB3⟩
              have hB4 : Below wr.heap.size wr w3 := b_alloc_then hB3
              have hB5 : Kept n₀ [Bc, Bo, Bl] W w3 := hBr.trans (Kept.of hB4 hnr HBS.out)
              have hJ3 : J (cutTo ls (c1, c2) on a b) w3 := hJ _ wr _ none hJb (below_grown hB4) (fun r e => by cases e)
              have z5 : wr.heap.size < w3.heap.size := by have := hB3.size; simp at this; omega
              have e0 : w3.cell? ⟨wr.heap.size, 0, none⟩ = some (.int .i64 a) := (hB3.cell (p := ⟨wr.heap.size, 0, none⟩) (by simp)).trans (bn rfl rfl)
              have e1 : w3.cell? ⟨wr.heap.size, 1, none⟩ = some (.int .i64 b) := (hB3.cell (p := ⟨wr.heap.size, 1, none⟩) (by simp)).trans (bn rfl rfl)
              rcases hct : ls.contains ((a : Int), (b : Int)) with _ | _
              · have hk := hid (cutTo_no (ls := ls) (ch := (c1, c2)) (on := on) hab (by rw [keepCut, if_neg Hne.out]; exact hct))
                gi_wp2
                go_roundw
                case rel => first | exact ⟨b + 1, by omega, by omega, by go_num, by rw [hk.out]; exact hJ3, hB5⟩ | ((repeat apply Exists.intro); exact ⟨⟨b + 1, by omega, by omega, by go_num, by rw [hk.out]; exact hJ3, hB5⟩, rfl⟩)
                case measure => simp [intOf]; omega
              · have hk := hid (cutTo_yes (ls := ls) (ch := (c1, c2)) (on := on) hab (by rw [keepCut, if_neg Hne.out]; exact hct))
                obtain ⟨fn, tmps, assign, body, hy, hR⟩ := hY _ ((a : Int), (b : Int)) w3 hJ3 (by omega)
                dsimp only at hy
                gi_wp2
                refine hR.mono ?_
                rintro e W3 (⟨rfl, hJ3, hk3⟩ | ⟨rfl, hJx3⟩)
                · gi_wp2
                  go_roundw
                  case rel => first | exact ⟨b + 1, by omega, by omega, by go_num, by rw [hk.out]; exact hJ3, hB5.trans hk3⟩ | ((repeat apply Exists.intro); exact ⟨⟨b + 1, by omega, by omega, by go_num, by rw [hk.out]; exact hJ3, hB5.trans hk3⟩, rfl⟩)
                  case measure => simp [intOf]; omega
                · gi_wp2
                  refine bodyPost_ret (results_none rfl _ _ _) rfl ?_
                  exact ⟨⟨_, rfl⟩, .inr ⟨_, trivial, hJx3⟩⟩
        · obtain rfl : b = 16 := by omega
          gi_wp2
          go_roundw
          case rel => exact ⟨a + 1, by omega, by go_num, by rw [← cutTo_row]; exact hJb, hBr⟩
          case measure => simp [intOf]; omega
    · obtain rfl : a = 16 := by omega
      gi_wp2
      go_end0
      exact ⟨⟨_, rfl⟩, .inl ⟨_, cutTo_end _ _ _, hJa⟩⟩

theorem cuts_any (a : Option Addr) (n c : Nat) (c1 c2 : Int) (on : Bool) (w : World) :
    Calls Try.prog 39 #[.slice a n c, .agg #[.int .i64 c1, .int .i64 c2], .bool on] w fun e w' => e = .returned (.func (.func 46) #[] #[.pointer (some ⟨w.heap.size + 1, 0, none⟩), .pointer (some ⟨w.heap.size + 1 + 1, 0, none⟩), .pointer (some ⟨w.heap.size, 0, none⟩)]) ∧
      w' = ((w.alloc (.cells #[.slice a n c] 23)).alloc (.cells #[.int .i64 c1, .int .i64 c2] 58)).alloc (.cells #[.bool on] 4) := by
  go_enter Try.func39, Try.ntmps39
  go_wp2
  go_ret
  exact ⟨rfl, rfl⟩

/-- The iterator that cuts hands back, in the world in which it has been made. -/
theorem cuts_stops (n : Nat) (hn : 1 ≤ n) (Bc Bo Bl n₀ : Nat) (ls : List (Int × Int)) (aa : Option Addr) (ac : Nat) (c1 c2 : Int) (on : Bool) (hl : ls.length ≤ 1000) (w : World) (hn₀ : n₀ ≤ w.heap.size)
    (hc0 : w.cell? ⟨Bc, 0, none⟩ = some (.int .i64 c1)) (hc1 : w.cell? ⟨Bc, 1, none⟩ = some (.int .i64 c2)) (ho : w.cell? ⟨Bo, 0, none⟩ = some (.bool on)) (hls : w.cell? ⟨Bl, 0, none⟩ = some (.slice aa ls.length ac))
    (hra : ∀ W', Below n₀ w W' → Rd W' aa (ls.flatMap lkc)) :
    SeqStopsK Fence.wide n Try.prog 46 #[.pointer (some ⟨Bc, 0, none⟩), .pointer (some ⟨Bo, 0, none⟩), .pointer (some ⟨Bl, 0, none⟩)] (fun x : Int × Int => #[.agg #[.int .i64 x.1, .int .i64 x.2]]) (Kept n₀ [Bc, Bo, Bl]) (fun ys => ys = cutsOf ls (c1, c2) on) (fun _ => True) 1000 w := by
  intro l J Jx W hW hJ _ hY h0
  have k1 := cell_lt hc0
  have k2 := cell_lt ho
  have k3 := cell_lt hls
  have hs := hW.size
  exact cuts1_in n hn l Bc Bo Bl n₀ ls aa ac c1 c2 on hl J Jx hY W (by omega) hJ ((hW.cell (p := ⟨Bc, 0, none⟩) k1).trans hc0) ((hW.cell (p := ⟨Bc, 1, none⟩) k1).trans hc1) ((hW.cell (p := ⟨Bo, 0, none⟩) k2).trans ho) ((hW.cell (p := ⟨Bl, 0, none⟩) k3).trans hls) (by omega) (by omega) (by omega) (fun W' h => hra W' ((hW.mono hn₀).trans h)) h0
end Go.Proofs.Ytmikhkmdcpgkfaa
