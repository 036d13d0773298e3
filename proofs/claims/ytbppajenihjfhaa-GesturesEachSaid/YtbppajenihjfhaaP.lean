/- Plain arithmetic of tempo maps: how long a part lasts, and its bounds. -/
import Derived.Test.YtbppajenihjfhaaB
namespace Go.Proofs.Ytbppajenihjfhaa
open Go.RowKit
open Go.Lib (hid)

/-- The numerator and the denominator of a ramp. -/
def rnum (p q : Tp) (t : Int) : Int := 2 * (q.k - p.k) * p.n * q.d * t + (q.n * p.d - p.n * q.d) * t * t
def rden (p q : Tp) : Int := 2 * (q.k - p.k) * p.d * q.d
/-- How many samples t ticks from the point p on last; q is the next point. -/
def dur (p q : Tp) (t : Int) : Int := if p.r = true then rnum p q t / rden p q else t * p.n / p.d
/-- What the arithmetic asks of two points: a ramp from p goes to q. -/
structure Leg (p q : Tp) : Prop where
  n1 : 1 ≤ p.n
  n2 : p.n ≤ 1048576
  d1 : 1 ≤ p.d
  d2 : p.d ≤ 256
  m1 : 1 ≤ q.n
  m2 : q.n ≤ 1048576
  e1 : 1 ≤ q.d
  e2 : q.d ≤ 256
  w1 : p.r = true → 1 ≤ q.k - p.k
  w2 : p.r = true → q.k - p.k ≤ 65536
theorem mul_bd {a b A B : Int} (h0 : 0 ≤ a) (h1 : a ≤ A) (h2 : 0 ≤ b) (h3 : b ≤ B) : 0 ≤ a * b ∧ a * b ≤ A * B :=
  ⟨Int.mul_nonneg h0 h2, Int.mul_le_mul h1 h3 h2 (Int.le_trans h0 h1)⟩
theorem rnum_two (p q : Tp) (t : Int) : rnum p q t = p.n * q.d * (t * (2 * (q.k - p.k) - t)) + q.n * p.d * (t * t) := by unfold rnum; grind
theorem rden_pos {p q : Tp} (h : Leg p q) (hr : p.r = true) : 0 < rden p q := by
  have := h.w1 hr
  have a : 1 ≤ 2 * (q.k - p.k) := by omega
  have b := Int.mul_le_mul a h.d1 (by omega) (by omega)
  have c := Int.mul_le_mul b h.e1 (by omega) (by have := h.d1; exact Int.mul_nonneg (by omega) (by omega))
  unfold rden
  omega
theorem rnum_nonneg {p q : Tp} (h : Leg p q) {t : Int} (h0 : 0 ≤ t) (h1 : t ≤ q.k - p.k) : 0 ≤ rnum p q t := by
  rw [rnum_two]
  have a : 0 ≤ p.n * q.d := Int.mul_nonneg (by have := h.n1; omega) (by have := h.e1; omega)
  have b : 0 ≤ q.n * p.d := Int.mul_nonneg (by have := h.m1; omega) (by have := h.d1; omega)
  have c : 0 ≤ t * (2 * (q.k - p.k) - t) := Int.mul_nonneg h0 (by omega)
  have d : 0 ≤ t * t := Int.mul_nonneg h0 h0
  have := Int.mul_nonneg a c
  have := Int.mul_nonneg b d
  omega
/-- A ramp is no longer than t ticks at the slowest speed that there is. -/
theorem rnum_le {p q : Tp} (h : Leg p q) {t : Int} (h0 : 0 ≤ t) (h1 : t ≤ q.k - p.k) : rnum p q t ≤ t * 1048576 * rden p q := by
  have hw : 0 ≤ q.k - p.k := by omega
  have e : t * 1048576 * rden p q - rnum p q t = (1048576 * p.d - p.n) * (q.d * (t * (2 * (q.k - p.k) - t))) + (1048576 * q.d - q.n) * (p.d * (t * t)) := by
    rw [rnum_two, rden]; grind
  have a : p.n ≤ 1048576 * p.d := by have := h.n2; have := h.d1; omega
  have b : q.n ≤ 1048576 * q.d := by have := h.m2; have := h.e1; omega
  have c : 0 ≤ t * (2 * (q.k - p.k) - t) := Int.mul_nonneg h0 (by omega)
  have d : 0 ≤ t * t := Int.mul_nonneg h0 h0
  have x := Int.mul_nonneg (show 0 ≤ 1048576 * p.d - p.n by omega) (Int.mul_nonneg (show 0 ≤ q.d by have := h.e1; omega) c)
  have y := Int.mul_nonneg (show 0 ≤ 1048576 * q.d - q.n by omega) (Int.mul_nonneg (show 0 ≤ p.d by have := h.d1; omega) d)
  omega
theorem dur_nonneg {p q : Tp} (h : Leg p q) {t : Int} (h0 : 0 ≤ t) (h1 : p.r = true → t ≤ q.k - p.k) : 0 ≤ dur p q t := by
  unfold dur
  split
  · rename_i hr
    exact Int.ediv_nonneg (rnum_nonneg h h0 (h1 hr)) (Int.le_of_lt (rden_pos h hr))
  · exact Int.ediv_nonneg (Int.mul_nonneg h0 (by have := h.n1; omega)) (by have := h.d1; omega)
theorem dur_le {p q : Tp} (h : Leg p q) {t : Int} (h0 : 0 ≤ t) (h1 : p.r = true → t ≤ q.k - p.k) : dur p q t ≤ t * 1048576 := by
  unfold dur
  split
  · rename_i hr
    exact Int.ediv_le_of_le_mul (rden_pos h hr) (rnum_le h h0 (h1 hr))
  · refine Int.ediv_le_of_le_mul (by have := h.d1; omega) ?_
    have a := Int.mul_le_mul_of_nonneg_left h.n2 h0
    have b := Int.mul_le_mul_of_nonneg_left h.d1 (show 0 ≤ t * 1048576 by omega)
    omega
/-- The greatest numbers on the way fit. -/
theorem ramp_bd {p q : Tp} (h : Leg p q) (hr : p.r = true) {t : Int} (h0 : 0 ≤ t) (h1 : t ≤ q.k - p.k) :
    (0 ≤ 2 * (q.k - p.k) * p.n ∧ 2 * (q.k - p.k) * p.n ≤ 137438953472) ∧ (0 ≤ 2 * (q.k - p.k) * p.n * q.d ∧ 2 * (q.k - p.k) * p.n * q.d ≤ 35184372088832) ∧
    (0 ≤ 2 * (q.k - p.k) * p.n * q.d * t ∧ 2 * (q.k - p.k) * p.n * q.d * t ≤ 2305843009213693952) ∧ (0 ≤ q.n * p.d ∧ q.n * p.d ≤ 268435456) ∧ (0 ≤ p.n * q.d ∧ p.n * q.d ≤ 268435456) ∧
    (-17592186044416 ≤ (q.n * p.d - p.n * q.d) * t ∧ (q.n * p.d - p.n * q.d) * t ≤ 17592186044416) ∧ (-1152921504606846976 ≤ (q.n * p.d - p.n * q.d) * t * t ∧ (q.n * p.d - p.n * q.d) * t * t ≤ 1152921504606846976) ∧
    (0 ≤ 2 * (q.k - p.k) * p.d ∧ 2 * (q.k - p.k) * p.d ≤ 33554432) ∧ (1 ≤ 2 * (q.k - p.k) * p.d * q.d ∧ 2 * (q.k - p.k) * p.d * q.d ≤ 8589934592) := by
  have hw1 := h.w1 hr
  have hw2 := h.w2 hr
  have n1 := h.n1; have n2 := h.n2; have d1 := h.d1; have d2 := h.d2; have m1 := h.m1; have m2 := h.m2; have e1 := h.e1; have e2 := h.e2
  have a1 := mul_bd (a := 2 * (q.k - p.k)) (A := 131072) (by omega) (by omega) (show 0 ≤ p.n by omega) n2
  have a2 := mul_bd a1.1 a1.2 (show 0 ≤ q.d by omega) e2
  have a3 := mul_bd a2.1 a2.2 h0 (show t ≤ 65536 by omega)
  have b1 := mul_bd (show 0 ≤ q.n by omega) m2 (show 0 ≤ p.d by omega) d2
  have b2 := mul_bd (show 0 ≤ p.n by omega) n2 (show 0 ≤ q.d by omega) e2
  have b1t := mul_bd b1.1 b1.2 h0 (show t ≤ 65536 by omega)
  have b2t := mul_bd b2.1 b2.2 h0 (show t ≤ 65536 by omega)
  have b1tt := mul_bd b1t.1 b1t.2 h0 (show t ≤ 65536 by omega)
  have b2tt := mul_bd b2t.1 b2t.2 h0 (show t ≤ 65536 by omega)
  have c1 := mul_bd (a := 2 * (q.k - p.k)) (A := 131072) (by omega) (by omega) (show 0 ≤ p.d by omega) d2
  have c2 := mul_bd c1.1 c1.2 (show 0 ≤ q.d by omega) e2
  have c3 := rden_pos h hr
  unfold rden at c3
  have ed : (q.n * p.d - p.n * q.d) * t = q.n * p.d * t - p.n * q.d * t := by grind
  have edd : (q.n * p.d - p.n * q.d) * t * t = q.n * p.d * t * t - p.n * q.d * t * t := by grind
  refine ⟨⟨a1.1, by omega⟩, ⟨a2.1, by omega⟩, ⟨a3.1, by omega⟩, ⟨b1.1, by omega⟩, ⟨b2.1, by omega⟩, ⟨by omega, by omega⟩, ⟨by omega, by omega⟩, ⟨c1.1, by omega⟩, ⟨by omega, by omega⟩⟩
end Go.Proofs.Ytbppajenihjfhaa
