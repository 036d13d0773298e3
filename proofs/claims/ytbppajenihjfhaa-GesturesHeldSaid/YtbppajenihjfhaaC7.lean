/- fixed: Line, Bend; the shapes of curves. -/
import Derived.Test.YtbppajenihjfhaaC6
namespace Go.Proofs.Ytbppajenihjfhaa
open Go.RowKit
open Go.Lib (hid)

set_option maxRecDepth 100000 in
set_option maxHeartbeats 4000000 in
theorem between_line (va vb num den : Int) (p q : Nat) (w : World) (a1 : -2147483648 ≤ va) (a2 : va ≤ 2147483647) (b1 : -2147483648 ≤ vb) (b2 : vb ≤ 2147483647) (h0 : 0 ≤ num) (h1 : num ≤ den) (hd : 1 ≤ den) (hd2 : den ≤ 16777216)
    (c1 : w.cell? ⟨p, 0, none⟩ = some (.int .i64 va)) (c2 : w.cell? ⟨q, 0, none⟩ = some (.int .i64 vb)) :
    Calls Try.prog 106 #[.int .i64 num, .int .i64 den, .func (.func 107) #[] #[.pointer (some ⟨p, 0, none⟩), .pointer (some ⟨q, 0, none⟩)]] w fun e w' => e = .returned (.tuple #[.int .i64 ((va * (den - num) + vb * num) / den), .int .i64 0]) ∧ Below w.heap.size w w' := by
  have ef := enters_of Try.func107 (by kernel_rfl) rfl
  have HC := hid (line1_any va vb num (den - num) p q w a1 a2 b1 b2 h0 (by omega) (by omega) (by omega) (by omega) c1 c2)
  have d1 : decide (den < 1) = false := decide_eq_false (by omega)
  have d2 : decide (16777216 < den) = false := decide_eq_false (by omega)
  have d3 : decide (num < 0) = false := decide_eq_false (by omega)
  have d4 : decide (den < num) = false := decide_eq_false (by omega)
  have e1 := hid (show num + (den - num) = den by omega)
  clear c1 c2
  go_enter Try.func106, Try.ntmps106
  go_wp2_with fail
  refine HC.out.mono ?_
  rintro e w9 ⟨rfl, hB9⟩
  rw [e1.out]
  go_wp2_with fail
  exact bodyPost_ret (v := .tuple #[.int .i64 ((va * (den - num) + vb * num) / den), .int .i64 0]) (by simp [results, Try.results106, go_sem]) rfl ⟨rfl, hB9⟩
set_option maxRecDepth 100000 in
set_option maxHeartbeats 4000000 in
theorem between_bend (va vb num den wa wb : Int) (p q r s : Nat) (w : World) (a1 : -2147483648 ≤ va) (a2 : va ≤ 2147483647) (b1 : -2147483648 ≤ vb) (b2 : vb ≤ 2147483647) (h0 : 0 ≤ num) (h1 : num ≤ den) (hd : 1 ≤ den) (hd2 : den ≤ 16777216)
    (x1 : 1 ≤ wa) (x2 : wa ≤ 16) (y1 : 1 ≤ wb) (y2 : wb ≤ 16)
    (c1 : w.cell? ⟨p, 0, none⟩ = some (.int .i64 wb)) (c2 : w.cell? ⟨q, 0, none⟩ = some (.int .i64 wa)) (c3 : w.cell? ⟨r, 0, none⟩ = some (.int .i64 va)) (c4 : w.cell? ⟨s, 0, none⟩ = some (.int .i64 vb)) :
    Calls Try.prog 106 #[.int .i64 num, .int .i64 den, .func (.func 110) #[] #[.pointer (some ⟨p, 0, none⟩), .pointer (some ⟨q, 0, none⟩), .pointer (some ⟨r, 0, none⟩), .pointer (some ⟨s, 0, none⟩)]] w
      fun e w' => e = .returned (.tuple #[.int .i64 ((va * ((den - num) * wa) + vb * (num * wb)) / (num * wb + (den - num) * wa)), .int .i64 0]) ∧ Below w.heap.size w w' := by
  have ef := enters_of Try.func110 (by kernel_rfl) rfl
  have HC := hid (bend1_any va vb num (den - num) wa wb p q r s w a1 a2 b1 b2 h0 (by omega) (by omega) (by omega) (by omega) x1 x2 y1 y2 c1 c2 c3 c4)
  have d1 : decide (den < 1) = false := decide_eq_false (by omega)
  have d2 : decide (16777216 < den) = false := decide_eq_false (by omega)
  have d3 : decide (num < 0) = false := decide_eq_false (by omega)
  have d4 : decide (den < num) = false := decide_eq_false (by omega)
  clear c1 c2 c3 c4
  go_enter Try.func106, Try.ntmps106
  go_wp2_with fail
  refine HC.out.mono ?_
  rintro e w9 ⟨rfl, hB9⟩
  obtain ⟨X, hX⟩ : ∃ X, (va * ((den - num) * wa) + vb * (num * wb)) / (num * wb + (den - num) * wa) = X := ⟨_, rfl⟩
  rw [hX]
  have HX := hid hX; clear hX
  go_wp2_with fail
  exact bodyPost_ret (v := .tuple #[.int .i64 X, .int .i64 0]) (by simp [results, Try.results106, go_sem]) rfl ⟨by rw [HX.out], hB9⟩
set_option maxRecDepth 100000 in
set_option maxHeartbeats 4000000 in
theorem Line_any (va vb num den : Int) (w : World) (a1 : -2147483648 ≤ va) (a2 : va ≤ 2147483647) (b1 : -2147483648 ≤ vb) (b2 : vb ≤ 2147483647) (h0 : 0 ≤ num) (h1 : num ≤ den) (hd : 1 ≤ den) (hd2 : den ≤ 16777216) :
    Calls Try.prog 91 #[.int .i64 va, .int .i64 vb, .int .i64 num, .int .i64 den] w fun e w' => e = .returned (.tuple #[.int .i64 ((va * (den - num) + vb * num) / den), .int .i64 0]) ∧ Below w.heap.size w w' := by
  obtain ⟨V, hV⟩ : ∃ V, V = (w.alloc (.cells #[.int .i64 va] 3)).alloc (.cells #[.int .i64 vb] 3) := ⟨_, rfl⟩
  have hwV : Below w.heap.size w V := by rw [hV]; exact b_alloc (b_alloc (Below.refl _ _) _) _
  have c1 : V.cell? ⟨w.heap.size, 0, none⟩ = some (.int .i64 va) := by rw [hV]; exact bo (by simp) (bn rfl rfl)
  have c2 : V.cell? ⟨w.heap.size + 1, 0, none⟩ = some (.int .i64 vb) := by rw [hV]; exact bn (by simp) rfl
  have HC := hid (between_line va vb num den _ _ V a1 a2 b1 b2 h0 h1 hd hd2 c1 c2)
  clear c1 c2
  obtain ⟨X, hX⟩ : ∃ X, (va * (den - num) + vb * num) / den = X := ⟨_, rfl⟩
  rw [hX] at HC
  rw [hX]
  clear hX a1 a2 b1 b2 h0 h1 hd hd2
  go_enter Try.func91, Try.ntmps91
  go_wp2_with fail
  rw [← hV]
  refine HC.out.mono ?_
  rintro e w9 ⟨rfl, hB9⟩
  clear hV
  go_wp2_with fail
  exact bodyPost_ret (v := .tuple #[.int .i64 X, .int .i64 0]) (by simp [results, Try.results91, go_sem]) rfl ⟨rfl, b_then hwV hB9⟩
set_option maxRecDepth 100000 in
set_option maxHeartbeats 4000000 in
theorem Bend_any (va vb num den wa wb : Int) (w : World) (a1 : -2147483648 ≤ va) (a2 : va ≤ 2147483647) (b1 : -2147483648 ≤ vb) (b2 : vb ≤ 2147483647) (h0 : 0 ≤ num) (h1 : num ≤ den) (hd : 1 ≤ den) (hd2 : den ≤ 16777216)
    (x1 : 1 ≤ wa) (x2 : wa ≤ 16) (y1 : 1 ≤ wb) (y2 : wb ≤ 16) :
    Calls Try.prog 93 #[.int .i64 va, .int .i64 vb, .int .i64 num, .int .i64 den, .int .i64 wa, .int .i64 wb] w fun e w' => e = .returned (.tuple #[.int .i64 ((va * ((den - num) * wa) + vb * (num * wb)) / (num * wb + (den - num) * wa)), .int .i64 0]) ∧ Below w.heap.size w w' := by
  obtain ⟨V, hV⟩ : ∃ V, V = (((w.alloc (.cells #[.int .i64 va] 3)).alloc (.cells #[.int .i64 vb] 3)).alloc (.cells #[.int .i64 wa] 3)).alloc (.cells #[.int .i64 wb] 3) := ⟨_, rfl⟩
  have hwV : Below w.heap.size w V := by rw [hV]; exact b_alloc (b_alloc (b_alloc (b_alloc (Below.refl _ _) _) _) _) _
  have c1 : V.cell? ⟨w.heap.size, 0, none⟩ = some (.int .i64 va) := by rw [hV]; exact bo (by first | (simp; done) | (simp; omega)) (bo (by first | (simp; done) | (simp; omega)) (bo (by simp) (bn rfl rfl)))
  have c2 : V.cell? ⟨w.heap.size + 1, 0, none⟩ = some (.int .i64 vb) := by rw [hV]; exact bo (by first | (simp; done) | (simp; omega)) (bo (by simp) (bn (by simp) rfl))
  have c3 : V.cell? ⟨w.heap.size + 1 + 1, 0, none⟩ = some (.int .i64 wa) := by rw [hV]; exact bo (by simp) (bn (by simp) rfl)
  have c4 : V.cell? ⟨w.heap.size + 1 + 1 + 1, 0, none⟩ = some (.int .i64 wb) := by rw [hV]; exact bn (by simp) rfl
  have HC := hid (between_bend va vb num den wa wb _ _ _ _ V a1 a2 b1 b2 h0 h1 hd hd2 x1 x2 y1 y2 c4 c3 c1 c2)
  obtain ⟨X, hX⟩ : ∃ X, (va * ((den - num) * wa) + vb * (num * wb)) / (num * wb + (den - num) * wa) = X := ⟨_, rfl⟩
  rw [hX] at HC
  rw [hX]
  clear hX a1 a2 b1 b2 h0 h1 hd hd2 c1 c2
  have d1 : decide (wa < 1) = false := decide_eq_false (by omega)
  have d2 : decide (16 < wa) = false := decide_eq_false (by omega)
  have d3 : decide (wb < 1) = false := decide_eq_false (by omega)
  have d4 : decide (16 < wb) = false := decide_eq_false (by omega)
  go_enter Try.func93, Try.ntmps93
  go_upto_region 1 with (fail)
  rw [← hV]
  clear hV
  go_wp2_with fail
  refine HC.out.mono ?_
  rintro e w9 ⟨rfl, hB9⟩
  clear c3 c4
  go_wp2_with fail
  exact bodyPost_ret (v := .tuple #[.int .i64 X, .int .i64 0]) (by simp [results, Try.results93, go_sem]) rfl ⟨rfl, b_then hwV hB9⟩
/-- A knot as an argument. -/
def Kn.v' (x : Kn) : Value := .agg #[.int .i64 x.k, .int .i64 x.v, .int .i64 x.s, .int .i64 x.a, .int .i64 x.b]
set_option maxRecDepth 100000 in
set_option maxHeartbeats 4000000 in
theorem shape1_any (x y : Kn) (num den : Int) (w : World) :
    Calls Try.prog 89 #[x.v', y.v', .int .i64 num, .int .i64 den] w fun e w' => e = .returned (.int .i64 x.v) ∧ Below w.heap.size w w' := by
  unfold Kn.v'
  go_enter Try.func89, Try.ntmps89
  go_wp2_with fail
  exact bodyPost_ret (v := .int .i64 x.v) (by simp [results, Try.results89, go_sem]) rfl ⟨rfl, b_alloc (b_alloc (Below.refl _ _) _) _⟩
/-- What a shape asks of its knots. -/
structure SegIs (x y : Kn) (num den : Int) : Prop where
  a1 : -2147483648 ≤ x.v
  a2 : x.v ≤ 2147483647
  b1 : -2147483648 ≤ y.v
  b2 : y.v ≤ 2147483647
  h0 : 0 ≤ num
  h1 : num ≤ den
  hd : 1 ≤ den
  hd2 : x.s ≠ 1 → den ≤ 16777216
  w : x.s = 3 → 1 ≤ x.a ∧ x.a ≤ 16 ∧ 1 ≤ x.b ∧ x.b ≤ 16
set_option maxRecDepth 100000 in
set_option maxHeartbeats 4000000 in
theorem shape2_any (x y : Kn) (num den : Int) (w : World) (h : SegIs x y num den) (hs : x.s = 2) :
    Calls Try.prog 90 #[x.v', y.v', .int .i64 num, .int .i64 den] w fun e w' => e = .returned (.int .i64 (shp x y num den)) ∧ Below w.heap.size w w' := by
  have HS := hid (show shp x y num den = (x.v * (den - num) + y.v * num) / den by unfold shp; rw [if_neg (by omega), if_pos hs])
  obtain ⟨V, hV⟩ : ∃ V, V = (w.alloc (.cells #[.int .i64 x.k, .int .i64 x.v, .int .i64 x.s, .int .i64 x.a, .int .i64 x.b] 71)).alloc (.cells #[.int .i64 y.k, .int .i64 y.v, .int .i64 y.s, .int .i64 y.a, .int .i64 y.b] 71) := ⟨_, rfl⟩
  have hwV : Below w.heap.size w V := by rw [hV]; exact b_alloc (b_alloc (Below.refl _ _) _) _
  have HC := hid (Line_any x.v y.v num den V h.a1 h.a2 h.b1 h.b2 h.h0 h.h1 h.hd (h.hd2 (by omega)))
  unfold Kn.v'
  clear hs h
  go_enter Try.func90, Try.ntmps90
  go_wp2_with fail
  rw [← hV]
  refine HC.out.mono ?_
  rintro e w9 ⟨rfl, hB9⟩
  clear hV
  obtain ⟨X, hX⟩ : ∃ X, (x.v * (den - num) + y.v * num) / den = X := ⟨_, rfl⟩
  rw [hX]
  have HX := hid hX; clear hX
  go_wp2_with fail
  exact bodyPost_ret (v := .int .i64 X) (by simp [results, Try.results90, go_sem]) rfl ⟨by rw [HS.out, HX.out], b_then hwV hB9⟩
set_option maxRecDepth 100000 in
set_option maxHeartbeats 4000000 in
theorem shape3_any (x y : Kn) (num den : Int) (w : World) (h : SegIs x y num den) (hs : x.s = 3) :
    Calls Try.prog 92 #[x.v', y.v', .int .i64 num, .int .i64 den] w fun e w' => e = .returned (.int .i64 (shp x y num den)) ∧ Below w.heap.size w w' := by
  have HS := hid (show shp x y num den = (x.v * ((den - num) * x.a) + y.v * (num * x.b)) / (num * x.b + (den - num) * x.a) by unfold shp; rw [if_neg (by omega), if_neg (by omega)])
  obtain ⟨V, hV⟩ : ∃ V, V = (w.alloc (.cells #[.int .i64 x.k, .int .i64 x.v, .int .i64 x.s, .int .i64 x.a, .int .i64 x.b] 71)).alloc (.cells #[.int .i64 y.k, .int .i64 y.v, .int .i64 y.s, .int .i64 y.a, .int .i64 y.b] 71) := ⟨_, rfl⟩
  have hwV : Below w.heap.size w V := by rw [hV]; exact b_alloc (b_alloc (Below.refl _ _) _) _
  have hw := h.w hs
  have HC := hid (Bend_any x.v y.v num den x.a x.b V h.a1 h.a2 h.b1 h.b2 h.h0 h.h1 h.hd (h.hd2 (by omega)) hw.1 hw.2.1 hw.2.2.1 hw.2.2.2)
  unfold Kn.v'
  clear hs h hw
  go_enter Try.func92, Try.ntmps92
  go_wp2_with fail
  rw [← hV]
  refine HC.out.mono ?_
  rintro e w9 ⟨rfl, hB9⟩
  clear hV
  obtain ⟨X, hX⟩ : ∃ X, (x.v * ((den - num) * x.a) + y.v * (num * x.b)) / (num * x.b + (den - num) * x.a) = X := ⟨_, rfl⟩
  rw [hX]
  have HX := hid hX; clear hX
  go_wp2_with fail
  exact bodyPost_ret (v := .int .i64 X) (by simp [results, Try.results92, go_sem]) rfl ⟨by rw [HS.out, HX.out], b_then hwV hB9⟩
end Go.Proofs.Ytbppajenihjfhaa
