/- Gestures: modes, reaching. -/
import Derived.Test.YtbppajenihjfhaaGH
import Derived.Test.YtbppajenihjfhaaCR
namespace Go.Proofs.Ytbppajenihjfhaa
open Go.RowKit Go.Shelf
open Go.Lib (hid)

theorem mode1_any (v x : Int) (w : World) : Calls Try.prog 100 #[.int .i64 v, .int .i64 x] w fun e w' => e = .returned (.int .i64 x) ∧ Below w.heap.size w w' := by
  go_enter Try.func100, Try.ntmps100
  go_wp2
  exact bodyPost_ret (v := .int .i64 x) (by simp [results, Try.results100, go_sem]) rfl ⟨rfl, Below.refl _ _⟩
theorem mode2_any (v x : Int) (w : World) : Calls Try.prog 101 #[.int .i64 v, .int .i64 x] w fun e w' => e = .returned (.int .i64 x) ∧ Below w.heap.size w w' := by
  go_enter Try.func101, Try.ntmps101
  go_wp2
  exact bodyPost_ret (v := .int .i64 x) (by simp [results, Try.results101, go_sem]) rfl ⟨rfl, Below.refl _ _⟩
theorem g_store_nil {P : Program} {w : World} {a : Addr} {m : Mode} : (store a .nilFunc m).run P w = stored P w a .nilFunc m := run_store P w a _ m rfl
theorem g_store_func {P : Program} {w : World} {a : Addr} {m : Mode} (fn : Fn) (first captured : Array Value) : (store a (.func fn first captured) m).run P w = stored P w a (.func fn first captured) m := run_store P w a _ m rfl
attribute [local go_sem] g_store_nil g_store_func
def modesV : Value := .agg #[.nilFunc, .func (.func 100) #[] #[], .func (.func 101) #[] #[], .func (.func 102) #[] #[]]
set_option maxRecDepth 100000 in
theorem modes_any (w : World) : Calls Try.prog 81 #[] w fun e w' => e = .returned modesV ∧ Below w.heap.size w w' := by
  go_enter Try.func81, Try.ntmps81
  go_upto_region 1 with (fail)
  obtain ⟨V, hV⟩ : ∃ V, V = w.alloc (.cells #[.nilFunc, .nilFunc, .nilFunc, .nilFunc] 97) := ⟨_, rfl⟩
  have hb0 : BoxV w w.heap.size [.nilFunc, .nilFunc, .nilFunc, .nilFunc] V := by rw [hV]; exact BoxV.new (Below.refl _ _) #[.nilFunc, .nilFunc, .nilFunc, .nilFunc] 97
  rw [← hV]
  clear hV
  obtain ⟨B, hB⟩ : ∃ B, w.heap.size = B := ⟨_, rfl⟩
  have hBB : w.heap.size ≤ B := by omega
  rw [hB] at hb0 ⊢
  have c0 := hb0.cell 0 _ rfl
  have c1 := hb0.cell 1 _ rfl
  have c2 := hb0.cell 2 _ rfl
  have c3 := hb0.cell 3 _ rfl
  have f0 := hb0.froz 0 (by simp)
  have f1 := hb0.froz 1 (by simp)
  have f2 := hb0.froz 2 (by simp)
  have f3 := hb0.froz 3 (by simp)
  have hb1 := (((hb0.set1 hBB 0 .nilFunc).set1 hBB 1 (.func (.func 100) #[] #[])).set1 hBB 2 (.func (.func 101) #[] #[])).set1 hBB 3 (.func (.func 102) #[] #[])
  have HB1 := hid hb1
  clear hb0 hb1
  go_wp2_with fail
  generalize hZ : World.setCell _ _ _ = Z
  have hb1 := HB1.out
  rw [hZ] at hb1
  have q0 := hb1.cell 0 _ rfl
  have q1 := hb1.cell 1 _ rfl
  have q2 := hb1.cell 2 _ rfl
  have q3 := hb1.cell 3 _ rfl
  exact bodyPost_ret (v := modesV) (by simp [results, Try.results81, go_sem, q0, q1, q2, q3, modesV]) rfl ⟨rfl, by rw [hB]; exact hB ▸ hb1.below⟩
theorem reaching_any (a : Option Addr) (n c : Nat) (at_ : Int) (w : World) :
    Calls Try.prog 80 #[.slice a n c, .int .i64 at_] w fun e w' => e = .returned (.func (.func 99) #[] #[.pointer (some ⟨w.heap.size, 0, none⟩), .pointer (some ⟨w.heap.size + 1, 0, none⟩)]) ∧ w' = (w.alloc (.cells #[.slice a n c] 22)).alloc (.cells #[.int .i64 at_] 3) := by
  go_enter Try.func80, Try.ntmps80
  go_wp2
  go_ret
  exact ⟨rfl, rfl⟩
end Go.Proofs.Ytbppajenihjfhaa
