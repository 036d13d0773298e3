/- Curves: between two knots, at the ends, alike. -/
import Derived.Test.YtbppajenihjfhaaC1
namespace Go.Proofs.Ytbppajenihjfhaa
open Go.RowKit
open Go.Lib (hid)

theorem frac_le {P Q R S : Int} (hQ : 0 < Q) (hS : 0 < S) (h : P * S ≤ R * Q) : P / Q ≤ R / S := by
  refine Int.le_ediv_of_mul_le hS ?_
  have h1 := Int.mul_ediv_self_le (x := P) (k := Q) (by omega)
  have h2 := Int.mul_le_mul_of_nonneg_right h1 (show 0 ≤ S by omega)
  have e : Q * (P / Q) * S = Q * (P / Q * S) := by grind
  have e2 : R * Q = Q * R := Int.mul_comm _ _
  exact Int.le_of_mul_le_mul_left (show Q * (P / Q * S) ≤ Q * R by omega) hQ
/-- What the arithmetic asks of a knot's shape. -/
def ShOk (x : Kn) : Prop := (x.s = 1 ∨ x.s = 2 ∨ x.s = 3) ∧ (x.s = 3 → 1 ≤ x.a ∧ x.a ≤ 16 ∧ 1 ≤ x.b ∧ x.b ≤ 16)
theorem bend_pos {x : Kn} (ha : 1 ≤ x.a) (hb : 1 ≤ x.b) {n den : Int} (h0 : 0 ≤ n) (h1 : n ≤ den) (hd : 0 < den) : 0 < n * x.b + (den - n) * x.a := by
  have p1 := Int.mul_le_mul_of_nonneg_left hb h0
  have p2 := Int.mul_le_mul_of_nonneg_left ha (show 0 ≤ den - n by omega)
  omega
theorem shp_mono {x y : Kn} (hx : ShOk x) {n1 n2 den : Int} (hd : 0 < den) (h0 : 0 ≤ n1) (h12 : n1 ≤ n2) (h2 : n2 ≤ den) : (x.v ≤ y.v → shp x y n1 den ≤ shp x y n2 den) ∧ (y.v ≤ x.v → shp x y n2 den ≤ shp x y n1 den) := by
  unfold shp
  split
  · exact ⟨fun _ => Int.le_refl _, fun _ => Int.le_refl _⟩
  · split
    · constructor
      · intro h
        refine Int.ediv_le_ediv hd ?_
        have := Int.mul_le_mul_of_nonneg_left h12 (show 0 ≤ y.v - x.v by omega)
        have e1 : x.v * (den - n1) + y.v * n1 = x.v * den + (y.v - x.v) * n1 := by grind
        have e2 : x.v * (den - n2) + y.v * n2 = x.v * den + (y.v - x.v) * n2 := by grind
        omega
      · intro h
        refine Int.ediv_le_ediv hd ?_
        have := Int.mul_le_mul_of_nonneg_left h12 (show 0 ≤ x.v - y.v by omega)
        have e1 : x.v * (den - n1) + y.v * n1 = x.v * den - (x.v - y.v) * n1 := by grind
        have e2 : x.v * (den - n2) + y.v * n2 = x.v * den - (x.v - y.v) * n2 := by grind
        omega
    · obtain ⟨hs, hw⟩ := hx
      obtain ⟨a1, _, b1, _⟩ := hw (by omega)
      have q1 := bend_pos a1 b1 h0 (by omega) hd
      have q2 := bend_pos a1 b1 (show 0 ≤ n2 by omega) h2 hd
      have hab : 0 ≤ x.a * x.b * den * (n2 - n1) := Int.mul_nonneg (Int.mul_nonneg (Int.mul_nonneg (by omega) (by omega)) (by omega)) (by omega)
      have e : (x.v * ((den - n2) * x.a) + y.v * (n2 * x.b)) * (n1 * x.b + (den - n1) * x.a) - (x.v * ((den - n1) * x.a) + y.v * (n1 * x.b)) * (n2 * x.b + (den - n2) * x.a) = (y.v - x.v) * (x.a * x.b * den * (n2 - n1)) := by grind
      constructor
      · intro h
        have := Int.mul_nonneg (show 0 ≤ y.v - x.v by omega) hab
        exact frac_le q1 q2 (by omega)
      · intro h
        have := Int.mul_nonneg (show 0 ≤ x.v - y.v by omega) hab
        have e2 : (x.v - y.v) * (x.a * x.b * den * (n2 - n1)) = -((y.v - x.v) * (x.a * x.b * den * (n2 - n1))) := by grind
        exact frac_le q2 q1 (by omega)
theorem shp_full {x y : Kn} (hx : ShOk x) (hn : x.s ≠ 1) {den : Int} (hd : 0 < den) : shp x y den den = y.v := by
  unfold shp
  rw [if_neg hn]
  split
  · rw [Int.sub_self, Int.mul_zero, Int.zero_add]; exact Int.mul_ediv_cancel _ (by omega)
  · have := hx.2 (by have := hx.1; omega)
    rw [Int.sub_self, Int.zero_mul, Int.mul_zero, Int.zero_add, Int.add_zero]
    exact Int.mul_ediv_cancel _ (by have := Int.mul_pos hd (show 0 < x.b by omega); omega)
theorem kn_sh {most : Int} {l : List Kn} (hv : valB most l = true) {i : Nat} (hi : i < l.length) : ShOk (kn l i) := by
  have := kn_at hv hi
  exact ⟨this.2.2.2.2.1, this.2.2.2.2.2.1⟩
theorem ofK_in {most : Int} {l : List Kn} (hv : valB most l = true) {i : Nat} (hi : i + 1 < l.length) {p : Int} (h0 : (kn l i).k ≤ p) (h1 : p < (kn l (i + 1)).k) : ofK l p = shp (kn l i) (kn l (i + 1)) (p - (kn l i).k) ((kn l (i + 1)).k - (kn l i).k) :=
  ofK_mid hi (cnt_of hv (by omega) (fun _ => by simpa using h0) (fun _ => h1))
/-- CurvesBetween. -/
theorem between {most : Int} {l : List Kn} (hv : valB most l = true) {i : Nat} (hi : i + 1 < l.length) {p q : Int} (h0 : (kn l i).k ≤ p) (h1 : p ≤ q) (h2 : q < (kn l (i + 1)).k) :
    ofK l (kn l i).k = (kn l i).v ∧ ofK l (kn l (i + 1)).k = (kn l (i + 1)).v ∧ ((kn l i).s = 1 → ofK l p = (kn l i).v ∧ ofK l q = (kn l i).v) ∧
    ((kn l i).s ≠ 1 → ((kn l i).v ≤ (kn l (i + 1)).v → (kn l i).v ≤ ofK l p ∧ ofK l p ≤ ofK l q ∧ ofK l q ≤ (kn l (i + 1)).v) ∧ ((kn l (i + 1)).v ≤ (kn l i).v → ofK l p ≤ (kn l i).v ∧ ofK l q ≤ ofK l p ∧ (kn l (i + 1)).v ≤ ofK l q)) := by
  have hd := kn_lt hv (show i < i + 1 by omega) hi
  have hs := kn_sh hv (show i < l.length by omega)
  have z := shp_zero (x := kn l i) (y := kn l (i + 1)) (den := (kn l (i + 1)).k - (kn l i).k) (by omega) (fun h => (hs.2 h).1) hs.1
  have m1 := shp_mono (y := kn l (i + 1)) hs (n1 := 0) (n2 := p - (kn l i).k) (den := (kn l (i + 1)).k - (kn l i).k) (by omega) (by omega) (by omega) (by omega)
  have m2 := shp_mono (y := kn l (i + 1)) hs (n1 := p - (kn l i).k) (n2 := q - (kn l i).k) (den := (kn l (i + 1)).k - (kn l i).k) (by omega) (by omega) (by omega) (by omega)
  have m3 := shp_mono (y := kn l (i + 1)) hs (n1 := q - (kn l i).k) (n2 := (kn l (i + 1)).k - (kn l i).k) (den := (kn l (i + 1)).k - (kn l i).k) (by omega) (by omega) (by omega) (by omega)
  rw [z] at m1
  refine ⟨ofK_at hv (by omega), ofK_at hv hi, ?_, ?_⟩
  · intro h
    rw [ofK_in hv hi h0 (by omega), ofK_in hv hi (by omega) h2]
    unfold shp
    rw [if_pos h, if_pos h]
    exact ⟨rfl, rfl⟩
  · intro h
    rw [shp_full hs h (by omega)] at m3
    rw [ofK_in hv hi h0 (by omega), ofK_in hv hi (by omega) h2]
    exact ⟨fun h => ⟨m1.1 h, m2.1 h, m3.1 h⟩, fun h => ⟨m1.2 h, m2.2 h, m3.2 h⟩⟩
/-- CurvesEnds. -/
theorem ends {most : Int} {l : List Kn} (hv : valB most l = true) (h0 : 0 < l.length) (at_ : Int) : (at_ ≤ (kn l 0).k → ofK l at_ = (kn l 0).v) ∧ ((kn l (l.length - 1)).k ≤ at_ → ofK l at_ = (kn l (l.length - 1)).v) := by
  constructor
  · intro h
    by_cases he : at_ = (kn l 0).k
    · rw [he]; exact ofK_at hv h0
    · exact ofK_low h0 (cnt_of hv (by omega) (fun h => by omega) (fun _ => by omega))
  · intro h
    exact ofK_high h0 (cnt_of hv (Nat.le_refl _) (fun _ => h) (fun h => by omega))
/-- Two curves that agree on the knots around a position have the same value there. -/
theorem ofK_same {l m : List Kn} {at_ : Int} {n d : Nat} (h1 : IsCnt l at_ n) (h2 : IsCnt m at_ d) (ha : 0 < n ↔ 0 < d) (hb : n < l.length ↔ d < m.length)
    (hx : 0 < n → kn l (n - 1) = kn m (d - 1)) (hy : n < l.length → kn l n = kn m d) : ofK l at_ = ofK m at_ := by
  unfold ofK
  rw [cnt_is h1, cnt_is h2]
  have n1 := h1.1
  have n2 := h2.1
  by_cases hn : n = 0
  · have : d = 0 := by omega
    subst hn; subst this
    by_cases hl0 : l.length = 0
    · rw [if_pos hl0, if_pos (show m.length = 0 by omega)]
    · rw [if_neg hl0, if_pos rfl, if_neg (show ¬ m.length = 0 by omega), if_pos rfl, hy (by omega)]
  · rw [if_neg (show ¬ l.length = 0 by omega), if_neg (show ¬ m.length = 0 by omega), if_neg hn, if_neg (show ¬ d = 0 by omega)]
    by_cases hn2 : n = l.length
    · rw [if_pos hn2, if_pos (show d = m.length by omega), ← hn2, hx (by omega), show m.length = d by omega]
    · rw [if_neg hn2, if_neg (show ¬ d = m.length by omega), hx (by omega), hy (by omega)]
end Go.Proofs.Ytbppajenihjfhaa
