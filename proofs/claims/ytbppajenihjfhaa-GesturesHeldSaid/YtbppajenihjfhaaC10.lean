/- The reference's Clip, Floor, Line, Bend. -/
import Derived.Test.YtbppajenihjfhaaC6
namespace Go.Proofs.Ytbppajenihjfhaa
open Go.RowKit
open Go.Lib (hid)

set_option maxRecDepth 100000 in
set_option maxHeartbeats 4000000 in
theorem rClip_any (x : Int) (w : World) : Calls Try.prog 34 #[.int .i64 x] w fun e w' => e = .returned (.int .i64 (clipT x)) ∧ w = w' := by
  go_enter Try.func34, Try.ntmps34
  by_cases h1 : x < -2147483648
  · have hc := hid (show clipT x = -2147483648 by unfold clipT; rw [if_pos h1])
    have h2 : ¬ 2147483647 < x := by omega
    go_wp2_with fail
    exact bodyPost_ret (v := .int .i64 (-2147483648)) (by simp [results, Try.results34, go_sem]) rfl ⟨by rw [hc.out], rfl⟩
  · by_cases h2 : 2147483647 < x
    · have hc := hid (show clipT x = 2147483647 by unfold clipT; rw [if_neg h1, if_pos h2])
      go_wp2_with fail
      exact bodyPost_ret (v := .int .i64 2147483647) (by simp [results, Try.results34, go_sem]) rfl ⟨by rw [hc.out], rfl⟩
    · have hc := hid (show clipT x = x by unfold clipT; rw [if_neg h1, if_neg h2])
      by_cases h4 : -2147483648 < x
      · go_wp2_with fail
        exact bodyPost_ret (v := .int .i64 x) (by simp [results, Try.results34, go_sem]) rfl ⟨by rw [hc.out], rfl⟩
      · obtain rfl : x = -2147483648 := by omega
        go_wp2_with fail
        exact bodyPost_ret (v := .int .i64 (-2147483648)) (by simp [results, Try.results34, go_sem]) rfl ⟨by rw [hc.out], rfl⟩
theorem tdiv_exact {a b : Int} (h : a.tmod b = 0) : a.tdiv b = a / b := Int.tdiv_eq_ediv_of_dvd (Int.dvd_of_tmod_eq_zero h)
theorem tdiv_down {a b : Int} (ha : a < 0) (hb : 1 ≤ b) (h : ¬ a.tmod b = 0) : a.tdiv b - 1 = a / b := by
  rw [Int.tdiv_eq_ediv, if_neg, Int.sign_eq_one_iff_pos.2 (by omega)]
  · omega
  · rintro (h1 | h1)
    · omega
    · exact h (Int.tmod_eq_zero_of_dvd h1)
theorem tmod_neg {a b : Int} (ha : a < 0) : a.tmod b ≤ 0 := by
  have h := Int.neg_tmod (a := -a) (b := b)
  rw [Int.neg_neg] at h
  have := Int.tmod_nonneg (a := -a) b (by omega)
  omega
set_option maxRecDepth 100000 in
set_option maxHeartbeats 4000000 in
theorem rFloor_any (x y : Int) (w : World) (h1 : -4611686018427387904 ≤ x) (h2 : x ≤ 4611686018427387904) (h3 : 1 ≤ y) (h4 : y ≤ 4611686018427387904) : Calls Try.prog 111 #[.int .i64 x, .int .i64 y] w fun e w' => e = .returned (.int .i64 (x / y)) ∧ w = w' := by
  have z1 : ¬ y = 0 := by omega
  by_cases hx : 0 ≤ x
  · have w1 : IntKind.i64.wrap (x.tdiv y) = x / y := IntWalk.i64_quo _ _ (by omega)
    have w2 : x.tmod y = x % y := IntWalk.rem_in _ _ hx
    have hm := Int.emod_nonneg x (show y ≠ 0 by omega)
    have hm2 := Int.emod_lt_of_pos x (show 0 < y by omega)
    have w3 : IntKind.i64.wrap (x % y) = x % y := IntWalk.i64_in _ (by omega)
    have d1 : decide (x % y < 0) = false := decide_eq_false (by omega)
    clear hm hm2
    go_enter Try.func111, Try.ntmps111
    go_wp2_with fail
    exact bodyPost_ret (v := .int .i64 (x / y)) (by simp [results, Try.results111, go_sem]) rfl ⟨rfl, rfl⟩
  · have w1 : IntKind.i64.wrap (x.tdiv y) = x.tdiv y := IntWalk.i64_quo' _ _ (by omega)
    by_cases hm : x.tmod y = 0
    · have ht := hid (tdiv_exact hm)
      have d1 : decide (x.tmod y < 0) = false := decide_eq_false (by omega)
      have w2 : IntKind.i64.wrap (x.tmod y) = x.tmod y := by rw [hm]; rfl
      obtain ⟨T, hT⟩ : ∃ T, x.tdiv y = T := ⟨_, rfl⟩
      obtain ⟨M, hM⟩ : ∃ T, x.tmod y = T := ⟨_, rfl⟩
      rw [hT] at w1
      rw [hM] at d1 w2
      have HT := hid hT
      clear hm hx
      go_enter Try.func111, Try.ntmps111
      go_wp2_with fail
      exact bodyPost_ret (v := .int .i64 T) (by simp [results, Try.results111, go_sem]) rfl ⟨by rw [← ht.out, HT.out], rfl⟩
    · have ht := hid (tdiv_down (by omega) h3 hm)
      have hq : -4611686018427387904 ≤ x / y ∧ x / y ≤ 0 := by
        have a1 := Int.le_ediv_of_mul_le (a := -4611686018427387904) (b := x) (c := y) (by omega) (by
          have := Int.mul_le_mul_of_nonneg_left h3 (show (0 : Int) ≤ 4611686018427387904 by decide)
          omega)
        have a2 := Int.ediv_lt_of_lt_mul (a := x) (b := 1) (c := y) (by omega) (by omega)
        omega
      rw [← ht.out] at hq
      have d1 : decide (x.tmod y < 0) = true := decide_eq_true (by have := tmod_neg (b := y) (show x < 0 by omega); omega)
      obtain ⟨T, hT⟩ : ∃ T, x.tdiv y = T := ⟨_, rfl⟩
      rw [hT] at w1 hq
      have w3 : IntKind.i64.wrap (T - 1) = T - 1 := IntWalk.i64_in _ (by omega)
      have HT := hid hT
      have hmb : -y < x.tmod y ∧ x.tmod y ≤ 0 := ⟨by
        have h := Int.neg_tmod (a := -x) (b := y)
        rw [Int.neg_neg] at h
        have := Int.tmod_lt_of_pos (-x) (show 0 < y by omega)
        omega, tmod_neg (by omega)⟩
      have w4 : IntKind.i64.wrap (x.tmod y) = x.tmod y := IntWalk.i64_in _ (by omega)
      obtain ⟨M, hM⟩ : ∃ T, x.tmod y = T := ⟨_, rfl⟩
      rw [hM] at d1 w4
      clear hm hx hq hmb
      go_enter Try.func111, Try.ntmps111
      go_wp2_with fail
      exact bodyPost_ret (v := .int .i64 (T - 1)) (by simp [results, Try.results111, go_sem]) rfl ⟨by rw [← ht.out, HT.out], rfl⟩
theorem line_eq {a b n d : Int} (hd : 0 < d) : a + (b - a) * n / d = (a * (d - n) + b * n) / d := by
  rw [show a * (d - n) + b * n = (b - a) * n + a * d by grind, Int.add_mul_ediv_right _ _ (by omega)]
  omega
set_option maxRecDepth 100000 in
set_option maxHeartbeats 4000000 in
theorem rLine_any (va vb num den : Int) (w : World) (a1 : -2147483648 ≤ va) (a2 : va ≤ 2147483647) (b1 : -2147483648 ≤ vb) (b2 : vb ≤ 2147483647) (h0 : 0 ≤ num) (h1 : num ≤ den) (hd : 1 ≤ den) (hd2 : den ≤ 16777216) :
    Calls Try.prog 94 #[.int .i64 va, .int .i64 vb, .int .i64 num, .int .i64 den] w fun e w' => e = .returned (.tuple #[.int .i64 ((va * (den - num) + vb * num) / den), .int .i64 0]) ∧ w = w' := by
  have d1 : decide (den < 1) = false := decide_eq_false (by omega)
  have d2 : decide (16777216 < den) = false := decide_eq_false (by omega)
  have d3 : decide (num < 0) = false := decide_eq_false (by omega)
  have d4 : decide (den < num) = false := decide_eq_false (by omega)
  have e1 := clip_in a1 a2
  have e2 := clip_in b1 b2
  have hle := hid (line_eq (a := va) (b := vb) (n := num) (d := den) (by omega))
  have m1 := Int.mul_le_mul_of_nonneg_right (show vb - va ≤ 4294967295 by omega) h0
  have m2 := Int.mul_le_mul_of_nonneg_right (show -4294967295 ≤ vb - va by omega) h0
  have hb1 : -72057594037927936 ≤ (vb - va) * num := by omega
  have hb2 : (vb - va) * num ≤ 72057594037927936 := by omega
  have q1 := Int.le_ediv_of_mul_le (a := -72057594037927936) (b := (vb - va) * num) (c := den) (by omega) (by omega)
  have q2 := Int.ediv_lt_of_lt_mul (a := (vb - va) * num) (b := 72057594037927937) (c := den) (by omega) (by omega)
  have hF := rFloor_any ((vb - va) * num) den w (by omega) (by omega) hd (by omega)
  obtain ⟨D, hD⟩ : ∃ D, (vb - va) * num = D := ⟨_, rfl⟩
  obtain ⟨X, hX⟩ : ∃ X, (vb - va) * num / den = X := ⟨_, rfl⟩
  rw [hX] at hF q1 q2 hle
  have w1 : IntKind.i64.wrap (vb - va) = vb - va := IntWalk.i64_in _ (by omega)
  have w2 : IntKind.i64.wrap ((vb - va) * num) = (vb - va) * num := IntWalk.i64_in _ (by omega)
  have w3 : IntKind.i64.wrap (va + X) = va + X := IntWalk.i64_in _ (by omega)
  have HF := hid hF
  clear m1 m2 hb1 hb2 hF hD hX q1 q2
  go_enter Try.func94, Try.ntmps94
  go_wp2_with fail
  refine (rClip_any va _).mono ?_
  rintro e w9 ⟨rfl, rfl⟩
  rw [e1]
  go_wp2_with fail
  refine (rClip_any vb _).mono ?_
  rintro e w9 ⟨rfl, rfl⟩
  rw [e2]
  go_wp2_with fail
  refine (rClip_any va _).mono ?_
  rintro e w9 ⟨rfl, rfl⟩
  rw [e1]
  go_wp2_with fail
  refine HF.out.mono ?_
  rintro e w9 ⟨rfl, rfl⟩
  go_wp2_with fail
  exact bodyPost_ret (v := .tuple #[.int .i64 (va + X), .int .i64 0]) (by simp [results, Try.results94, go_sem]) rfl ⟨by rw [hle.out], rfl⟩
set_option maxRecDepth 100000 in
set_option maxHeartbeats 4000000 in
theorem rBend_any (va vb num den wa wb : Int) (w : World) (a1 : -2147483648 ≤ va) (a2 : va ≤ 2147483647) (b1 : -2147483648 ≤ vb) (b2 : vb ≤ 2147483647) (h0 : 0 ≤ num) (h1 : num ≤ den) (hd : 1 ≤ den) (hd2 : den ≤ 16777216)
    (x1 : 1 ≤ wa) (x2 : wa ≤ 16) (y1 : 1 ≤ wb) (y2 : wb ≤ 16) :
    Calls Try.prog 95 #[.int .i64 va, .int .i64 vb, .int .i64 num, .int .i64 den, .int .i64 wa, .int .i64 wb] w fun e w' => e = .returned (.tuple #[.int .i64 ((va * ((den - num) * wa) + vb * (num * wb)) / (num * wb + (den - num) * wa)), .int .i64 0]) ∧ w = w' := by
  have d1 : decide (den < 1) = false := decide_eq_false (by omega)
  have d2 : decide (16777216 < den) = false := decide_eq_false (by omega)
  have d3 : decide (num < 0) = false := decide_eq_false (by omega)
  have d4 : decide (den < num) = false := decide_eq_false (by omega)
  have d5 : decide (wa < 1) = false := decide_eq_false (by omega)
  have d6 : decide (16 < wa) = false := decide_eq_false (by omega)
  have d7 : decide (wb < 1) = false := decide_eq_false (by omega)
  have d8 : decide (16 < wb) = false := decide_eq_false (by omega)
  have e1 := clip_in a1 a2
  have e2 := clip_in b1 b2
  obtain ⟨lf, hlf⟩ : ∃ n, den - num = n := ⟨_, rfl⟩
  have w0 : IntKind.i64.wrap (den - num) = lf := by rw [← hlf]; exact IntWalk.i64_in _ (by omega)
  have hl0 : 0 ≤ lf := by omega
  have hl1 : lf ≤ 16777216 := by omega
  have hn1 : num ≤ 16777216 := by omega
  have hsum : 0 < num + lf := by omega
  rw [hlf]
  have A1 := Int.mul_le_mul_of_nonneg_right (show va ≤ 2147483648 by omega) (show 0 ≤ wa by omega)
  have A2 := Int.mul_le_mul_of_nonneg_right a1 (show 0 ≤ wa by omega)
  have B1 := Int.mul_le_mul_of_nonneg_right (show vb ≤ 2147483648 by omega) (show 0 ≤ wb by omega)
  have B2 := Int.mul_le_mul_of_nonneg_right b1 (show 0 ≤ wb by omega)
  have C1 := Int.mul_le_mul_of_nonneg_right (show va * wa ≤ 34359738368 by omega) hl0
  have C2 := Int.mul_le_mul_of_nonneg_right (show -34359738368 ≤ va * wa by omega) hl0
  have D1 := Int.mul_le_mul_of_nonneg_right (show vb * wb ≤ 34359738368 by omega) h0
  have D2 := Int.mul_le_mul_of_nonneg_right (show -34359738368 ≤ vb * wb by omega) h0
  have E1 := mul_bd (show 0 ≤ wa by omega) x2 hl0 hl1
  have E2 := mul_bd (show 0 ≤ wb by omega) y2 h0 hn1
  have E3 := Int.mul_le_mul_of_nonneg_right x1 hl0
  have E4 := Int.mul_le_mul_of_nonneg_right y1 h0
  have w1 : IntKind.i64.wrap (va * wa) = va * wa := IntWalk.i64_in _ (by omega)
  have w2 : IntKind.i64.wrap (va * wa * lf) = va * wa * lf := IntWalk.i64_in _ (by omega)
  have w3 : IntKind.i64.wrap (vb * wb) = vb * wb := IntWalk.i64_in _ (by omega)
  have w4 : IntKind.i64.wrap (vb * wb * num) = vb * wb * num := IntWalk.i64_in _ (by omega)
  have w5 : IntKind.i64.wrap (va * wa * lf + vb * wb * num) = va * wa * lf + vb * wb * num := IntWalk.i64_in _ (by omega)
  have w6 : IntKind.i64.wrap (wa * lf) = wa * lf := IntWalk.i64_in _ (by omega)
  have w7 : IntKind.i64.wrap (wb * num) = wb * num := IntWalk.i64_in _ (by omega)
  have w8 : IntKind.i64.wrap (wa * lf + wb * num) = wa * lf + wb * num := IntWalk.i64_in _ (by omega)
  have hF := rFloor_any (va * wa * lf + vb * wb * num) (wa * lf + wb * num) w (by omega) (by omega) (by omega) (by omega)
  have HE := hid (show (va * (lf * wa) + vb * (num * wb)) / (num * wb + lf * wa) = (va * wa * lf + vb * wb * num) / (wa * lf + wb * num) by congr 1 <;> grind)
  obtain ⟨X, hX⟩ : ∃ X, (va * wa * lf + vb * wb * num) / (wa * lf + wb * num) = X := ⟨_, rfl⟩
  rw [hX] at hF HE
  have HF := hid hF
  clear A1 A2 B1 B2 C1 C2 D1 D2 E1 E2 E3 E4 hF hX hlf hsum
  go_enter Try.func95, Try.ntmps95
  go_wp2_with fail
  refine (rClip_any va _).mono ?_
  rintro e w9 ⟨rfl, rfl⟩
  rw [e1]
  go_wp2_with fail
  refine (rClip_any vb _).mono ?_
  rintro e w9 ⟨rfl, rfl⟩
  rw [e2]
  go_wp2_with fail
  refine HF.out.mono ?_
  rintro e w9 ⟨rfl, rfl⟩
  go_wp2_with fail
  exact bodyPost_ret (v := .tuple #[.int .i64 X, .int .i64 0]) (by simp [results, Try.results95, go_sem]) rfl ⟨by rw [HE.out], rfl⟩
end Go.Proofs.Ytbppajenihjfhaa
