/- Packets and links: contracts of the leaves of package network. -/
import Derived.Test.YtmikhkmdcpgkfaaA
namespace Go.Proofs.Ytmikhkmdcpgkfaa
open Go.RowKit
open Go.Lib (hid)

/-- A packet: its two parties, and its data's slice. -/
structure Pk where
  fr : Int
  to : Int
  da : Option Addr
  dn : Nat
  dc : Nat
def Pk.c (p : Pk) : List Value := [.int .i64 p.fr, .int .i64 p.to, .slice p.da p.dn p.dc]
def Pk.v (p : Pk) : Value := .agg #[.int .i64 p.fr, .int .i64 p.to, .slice p.da p.dn p.dc]

def lkOk (a b : Int) : Bool := decide (0 ≤ a ∧ a < b ∧ b < 16)
def pkOk (p : Pk) : Bool := lkOk (min p.fr p.to) (max p.fr p.to) && decide ((p.dn : Int) ≤ 1048576)

theorem b_alloc_then {w w2 : World} {o : Obj} (h : Below (w.alloc o).heap.size (w.alloc o) w2) : Below w.heap.size w w2 := b_then (b_alloc (Below.refl _ _) o) h

theorem valid_any (a b : Int) (w : World) : Calls Try.prog 32 #[.agg #[.int .i64 a, .int .i64 b]] w fun e w' => e = .returned (.bool (lkOk a b)) ∧ Below w.heap.size w w' := by
  go_enter Try.func32, Try.ntmps32
  by_cases h1 : 0 ≤ a
  · by_cases h2 : a < b
    · by_cases h3 : b < 16
      · go_wp2_with fail
        exact bodyPost_ret (v := .bool true) (by simp [results, Try.results32, go_sem]) rfl ⟨by congr 2; simp [lkOk]; omega, (by repeat (first | exact Below.refl _ _ | assumption | refine b_then ?_ (by assumption) | refine b_alloc ?_ _ | refine b_drewN ?_ _ | refine b_drew ?_ | refine b_set ?_ (by omega) _ | refine b_set ?_ (by simp) _))⟩
      · go_wp2_with fail
        exact bodyPost_ret (v := .bool false) (by simp [results, Try.results32, go_sem]) rfl ⟨by congr 2; simp [lkOk]; omega, (by repeat (first | exact Below.refl _ _ | assumption | refine b_then ?_ (by assumption) | refine b_alloc ?_ _ | refine b_drewN ?_ _ | refine b_drew ?_ | refine b_set ?_ (by omega) _ | refine b_set ?_ (by simp) _))⟩
    · go_wp2_with fail
      exact bodyPost_ret (v := .bool false) (by simp [results, Try.results32, go_sem]) rfl ⟨by congr 2; simp [lkOk]; omega, (by repeat (first | exact Below.refl _ _ | assumption | refine b_then ?_ (by assumption) | refine b_alloc ?_ _ | refine b_drewN ?_ _ | refine b_drew ?_ | refine b_set ?_ (by omega) _ | refine b_set ?_ (by simp) _))⟩
  · go_wp2_with fail
    exact bodyPost_ret (v := .bool false) (by simp [results, Try.results32, go_sem]) rfl ⟨by congr 2; simp [lkOk]; omega, (by repeat (first | exact Below.refl _ _ | assumption | refine b_then ?_ (by assumption) | refine b_alloc ?_ _ | refine b_drewN ?_ _ | refine b_drew ?_ | refine b_set ?_ (by omega) _ | refine b_set ?_ (by simp) _))⟩

theorem between_any (a b : Int) (w : World) : Calls Try.prog 37 #[.int .i64 a, .int .i64 b] w fun e w' => e = .returned (.agg #[.int .i64 (min a b), .int .i64 (max a b)]) ∧ Below w.heap.size w w' := by
  go_enter Try.func37, Try.ntmps37
  go_wp2_with fail
  all_goals (refine bodyPost_ret (v := .agg #[.int .i64 (min a b), .int .i64 (max a b)]) (by simp [results, Try.results37, go_sem]; try omega) rfl ⟨rfl, ?_⟩)
  all_goals (exact (by repeat (first | exact Below.refl _ _ | assumption | refine b_then ?_ (by assumption) | refine b_alloc ?_ _ | refine b_drewN ?_ _ | refine b_drew ?_ | refine b_set ?_ (by omega) _ | refine b_set ?_ (by simp) _)))

theorem packet_any (p : Pk) (w : World) : Calls Try.prog 28 #[p.v] w fun e w' => e = .returned (.bool (pkOk p)) ∧ Below w.heap.size w w' := by
  obtain ⟨fr, to, da, dn, dc⟩ := p
  unfold Pk.v
  go_enter Try.func28, Try.ntmps28
  go_wp2_with fail
  refine (between_any fr to _).mono ?_
  rintro e w1 ⟨rfl, hB1⟩
  go_wp2_with fail
  refine (valid_any _ _ _).mono ?_
  rintro e w2 ⟨rfl, hB2⟩
  have hB : Below (w.alloc (Obj.cells #[Value.int IntKind.i64 fr, Value.int IntKind.i64 to, Value.slice da dn dc] 28)).heap.size (w.alloc (Obj.cells #[Value.int IntKind.i64 fr, Value.int IntKind.i64 to, Value.slice da dn dc] 28)) w2 := b_then hB1 hB2
  have c2 : w2.cell? ⟨w.heap.size, 2, none⟩ = some (.slice da dn dc) := by rw [hB.cell (by simp)]; simp
  rcases hb : lkOk (min fr to) (max fr to) with _ | _
  · go_wp2_with fail
    exact bodyPost_ret (v := .bool false) (by simp [results, Try.results28, go_sem] <;> omega) rfl ⟨by congr 2; simp [pkOk, hb], b_alloc_then hB⟩
  · by_cases hd : (dn : Int) ≤ 1048576
    · go_wp2_with fail
      exact bodyPost_ret (v := .bool true) (by simp [results, Try.results28, go_sem] <;> omega) rfl ⟨by congr 2; simp [pkOk, hb] <;> omega, b_alloc_then hB⟩
    · go_wp2_with fail
      exact bodyPost_ret (v := .bool false) (by simp [results, Try.results28, go_sem] <;> omega) rfl ⟨by congr 2; simp [pkOk, hb] <;> omega, b_alloc_then hB⟩

theorem check1_any (p : Pk) (w : World) : Calls Try.prog 31 #[p.v] w fun e w' => e = .returned (.bool (!pkOk p)) ∧ Below w.heap.size w w' := by
  have hp : p.v = .agg #[.int .i64 p.fr, .int .i64 p.to, .slice p.da p.dn p.dc] := rfl
  go_enter Try.func31, Try.ntmps31
  go_wp2_with fail
  refine (packet_any p _).mono ?_
  rintro e w1 ⟨rfl, hB⟩
  go_wp2_with fail
  exact bodyPost_ret (v := .bool (!pkOk p)) (by simp [results, Try.results31, go_sem]) rfl ⟨rfl, (by repeat (first | exact Below.refl _ _ | assumption | refine b_then ?_ (by assumption) | refine b_alloc ?_ _ | refine b_drewN ?_ _ | refine b_drew ?_ | refine b_set ?_ (by omega) _ | refine b_set ?_ (by simp) _))⟩
end Go.Proofs.Ytmikhkmdcpgkfaa
