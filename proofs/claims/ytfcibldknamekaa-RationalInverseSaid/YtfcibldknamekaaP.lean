/- The plain laws of the seven statements on rational numbers. -/
import Derived.Test.YtfcibldknamekaaG
namespace Go.Proofs.Ytfcibldknamekaa

def addR (a b c d : Int) : Int × Int × Int := calR a b c d (Rat.divInt (a * d + c * b) (b * d))
def mulR (a b c d : Int) : Int × Int × Int := calR a b c d (Rat.divInt (a * c) (b * d))

theorem Vld.ne {a b : Int} (h : Vld a b) : b ≠ 0 := by have := h.1; omega

theorem sum_eq {a b c d : Int} (hb : b ≠ 0) (hd : d ≠ 0) : Rat.divInt (a * d + c * b) (b * d) = Rat.divInt a b + Rat.divInt c d :=
  (Rat.divInt_add_divInt a c hb hd).symm
theorem prod_eq (a b c d : Int) : Rat.divInt (a * c) (b * d) = Rat.divInt a b * Rat.divInt c d :=
  (Rat.divInt_mul_divInt a c).symm

/-- What a calculation with the value q answers, q a rational number. -/
def out (q : Rat) : Int × Int × Int := if Fits q then (q.num, (q.den : Int), 0) else (0, 0, 70)

theorem addR_eq {a b c d : Int} (h1 : Vld a b) (h2 : Vld c d) : addR a b c d = out (Rat.divInt a b + Rat.divInt c d) := by
  unfold addR calR res out
  rw [sum_eq h1.ne h2.ne]
  simp [h1, h2]
theorem mulR_eq {a b c d : Int} (h1 : Vld a b) (h2 : Vld c d) : mulR a b c d = out (Rat.divInt a b * Rat.divInt c d) := by
  unfold mulR calR res out
  rw [prod_eq]
  simp [h1, h2]
theorem addR_no {a b c d : Int} (h : ¬ (Vld a b ∧ Vld c d)) : addR a b c d = (0, 0, 70) := calR_no h
theorem mulR_no {a b c d : Int} (h : ¬ (Vld a b ∧ Vld c d)) : mulR a b c d = (0, 0, 70) := calR_no h

theorem addR_comm (a b c d : Int) : addR a b c d = addR c d a b := by
  by_cases h : Vld a b ∧ Vld c d
  · rw [addR_eq h.1 h.2, addR_eq h.2 h.1, Rat.add_comm]
  · rw [addR_no h, addR_no (fun x => h x.symm)]
theorem mulR_comm (a b c d : Int) : mulR a b c d = mulR c d a b := by
  by_cases h : Vld a b ∧ Vld c d
  · rw [mulR_eq h.1 h.2, mulR_eq h.2 h.1, Rat.mul_comm]
  · rw [mulR_no h, mulR_no (fun x => h x.symm)]

theorem out_ok {q : Rat} {x y z : Int} (h : out q = (x, y, z)) (hz : z = 0) : Vld x y ∧ Rat.divInt x y = q := by
  unfold out at h
  by_cases hf : Fits q
  · rw [if_pos hf] at h
    simp only [Prod.mk.injEq] at h
    obtain ⟨rfl, rfl, _⟩ := h
    exact ⟨vld_of_fits hf, divInt_self_q q⟩
  · rw [if_neg hf] at h
    simp only [Prod.mk.injEq] at h
    omega

theorem addR_ok {a b c d x y z : Int} (h : addR a b c d = (x, y, z)) (hz : z = 0) : Vld a b ∧ Vld c d ∧ Vld x y ∧ Rat.divInt x y = Rat.divInt a b + Rat.divInt c d := by
  by_cases hv : Vld a b ∧ Vld c d
  · rw [addR_eq hv.1 hv.2] at h
    exact ⟨hv.1, hv.2, out_ok h hz⟩
  · rw [addR_no hv] at h
    simp only [Prod.mk.injEq] at h
    omega
theorem mulR_ok {a b c d x y z : Int} (h : mulR a b c d = (x, y, z)) (hz : z = 0) : Vld a b ∧ Vld c d ∧ Vld x y ∧ Rat.divInt x y = Rat.divInt a b * Rat.divInt c d := by
  by_cases hv : Vld a b ∧ Vld c d
  · rw [mulR_eq hv.1 hv.2] at h
    exact ⟨hv.1, hv.2, out_ok h hz⟩
  · rw [mulR_no hv] at h
    simp only [Prod.mk.injEq] at h
    omega

theorem add_assoc_law {a1 a2 b1 b2 c1 c2 x1 y1 z1 x2 y2 z2 : Int} (h1 : addR a1 a2 b1 b2 = (x1, y1, z1)) (h2 : addR b1 b2 c1 c2 = (x2, y2, z2)) (e1 : z1 = 0) (e2 : z2 = 0) :
    addR x1 y1 c1 c2 = addR a1 a2 x2 y2 := by
  obtain ⟨va, vb, v1, q1⟩ := addR_ok h1 e1
  obtain ⟨_, vc, v2, q2⟩ := addR_ok h2 e2
  rw [addR_eq v1 vc, addR_eq va v2, q1, q2, Rat.add_assoc]
theorem mul_assoc_law {a1 a2 b1 b2 c1 c2 x1 y1 z1 x2 y2 z2 : Int} (h1 : mulR a1 a2 b1 b2 = (x1, y1, z1)) (h2 : mulR b1 b2 c1 c2 = (x2, y2, z2)) (e1 : z1 = 0) (e2 : z2 = 0) :
    mulR x1 y1 c1 c2 = mulR a1 a2 x2 y2 := by
  obtain ⟨va, vb, v1, q1⟩ := mulR_ok h1 e1
  obtain ⟨_, vc, v2, q2⟩ := mulR_ok h2 e2
  rw [mulR_eq v1 vc, mulR_eq va v2, q1, q2, Rat.mul_assoc]
theorem distrib_law {a1 a2 b1 b2 c1 c2 x1 y1 z1 x2 y2 z2 x3 y3 z3 : Int} (h1 : addR b1 b2 c1 c2 = (x1, y1, z1)) (h2 : mulR a1 a2 b1 b2 = (x2, y2, z2)) (h3 : mulR a1 a2 c1 c2 = (x3, y3, z3)) (e1 : z1 = 0) (e2 : z2 = 0) (e3 : z3 = 0) :
    mulR a1 a2 x1 y1 = addR x2 y2 x3 y3 := by
  obtain ⟨vb, vc, v1, q1⟩ := addR_ok h1 e1
  obtain ⟨va, _, v2, q2⟩ := mulR_ok h2 e2
  obtain ⟨_, _, v3, q3⟩ := mulR_ok h3 e3
  rw [mulR_eq va v1, addR_eq v2 v3, q1, q2, q3, Rat.mul_add]

/-! Make -/
theorem make_scale {n d k : Int} (hk : k ≠ 0) (hn : okBounds n d) (hs : okBounds (n * k) (d * k)) : makeR (n * k) (d * k) = makeR n d := by
  unfold makeR
  rw [if_pos hn, if_pos hs, Rat.divInt_mul_right hk]

theorem cross {n d : Int} (hd : d ≠ 0) : (Rat.divInt n d).num * d = n * (Rat.divInt n d).den := by
  have h := (Rat.divInt_eq_divInt_iff (n₁ := (Rat.divInt n d).num) (d₁ := ((Rat.divInt n d).den : Int)) (n₂ := n) (d₂ := d) (by have := (Rat.divInt n d).den_pos; omega) hd).1 (divInt_self_q _)
  exact h

/-! Inverse, negation -/
theorem neg_vld {a b : Int} (h : Vld a b) : Vld (-a) b := by
  obtain ⟨h1, h2, h3, h4, h5⟩ := h
  exact ⟨h1, h2, by omega, by omega, by simpa using h5⟩
theorem add_neg_law {a b : Int} (h : Vld a b) : addR a b (-a) b = (0, 1, 0) := by
  rw [addR_eq h (neg_vld h), ← Rat.neg_divInt, Rat.add_neg_cancel]
  decide +kernel
theorem inv_law {a b : Int} (h : Vld a b) (ha : a ≠ 0) : ∃ x y, invR a b = (x, y, 0) ∧ Vld x y ∧ mulR a b x y = (1, 1, 0) ∧ invR x y = (a, b, 0) := by
  have hf : Fits (Rat.divInt b a) := by
    obtain ⟨h1, h2, h3, h4, _⟩ := h
    have hn := num_le b a
    have hd := den_le b a ha
    exact ⟨by omega, by omega, by omega⟩
  have hq : Rat.divInt a b ≠ 0 := by
    intro h0
    have := h.num
    rw [h0] at this
    exact ha this.symm
  have hv := vld_of_fits hf
  refine ⟨_, _, invR_ok h ha hf, hv, ?_, ?_⟩
  · have e : Rat.divInt b a = (Rat.divInt a b)⁻¹ := (Rat.inv_divInt a b).symm
    rw [mulR_eq h hv, divInt_self_q, e, Rat.mul_inv_cancel _ hq]
    decide +kernel
  · have hne : (Rat.divInt b a).num ≠ 0 := by
      intro h0
      have h1 := Rat.num_eq_zero.1 h0
      have e : Rat.divInt b a = (Rat.divInt a b)⁻¹ := (Rat.inv_divInt a b).symm
      rw [e] at h1
      have h2 := Rat.mul_inv_cancel _ hq
      rw [h1, Rat.mul_zero] at h2
      exact absurd h2 (by decide +kernel)
    have he : Rat.divInt ((Rat.divInt b a).den : Int) (Rat.divInt b a).num = Rat.divInt a b := by
      rw [← Rat.inv_divInt, divInt_self_q, Rat.inv_divInt]
    have := invR_ok hv hne (by rw [he]; exact h.fits)
    rw [this, he, h.num, h.den]

/-! Floor -/
theorem floor_lo {a b : Int} (hb : 1 ≤ b) : a / b * b ≤ a := Int.ediv_mul_le a (by omega)
theorem floor_hi {a b : Int} (hb : 1 ≤ b) : a < (a / b + 1) * b := Int.lt_ediv_add_one_mul_self a (by omega)

theorem floor_int {q : Rat} (n : Int) : (q + (n : Rat)).num / ((q + (n : Rat)).den : Int) = q.num / (q.den : Int) + n := by
  rw [← Rat.floor_def, ← Rat.floor_def, Rat.floor_add_intCast]

theorem divInt_one (n : Int) : Rat.divInt n 1 = (n : Rat) := by
  rw [show (1 : Int) = ((1 : Nat) : Int) from rfl, Rat.divInt_ofNat]
  apply Rat.ext
  · rw [Rat.num_mkRat]; simp
  · rw [Rat.den_mkRat]; simp

theorem vld_int {n : Int} (h : -2147483647 ≤ n ∧ n ≤ 2147483647) : Vld n 1 := ⟨by omega, by omega, h.1, h.2, by simp⟩

theorem floor_sum {a b n x y z : Int} (h : Vld a b) (_hn : -2147483647 ≤ n ∧ n ≤ 2147483647) (he : addR a b n 1 = (x, y, z)) (hz : z = 0) : floorR x y = (a / b + n, 0) := by
  obtain ⟨_, _, v, q⟩ := addR_ok he hz
  rw [floorR_ok v]
  have h1 := v.num
  have h2 := v.den
  rw [q, divInt_one] at h1 h2
  have := floor_int (q := Rat.divInt a b) n
  rw [h1, h2, h.num, h.den] at this
  rw [this]
theorem add_err {a b c d x y z : Int} (he : addR a b c d = (x, y, z)) (hz : z ≠ 0) : z = 70 := by
  unfold addR calR res at he
  split at he <;> simp only [Prod.mk.injEq] at he <;> omega

/-! Order -/
theorem less_iff {a b c d : Int} (h1 : Vld a b) (h2 : Vld c d) : a * d < c * b ↔ Rat.divInt a b < Rat.divInt c d := by
  rw [Rat.lt_iff, h1.num, h1.den, h2.num, h2.den]
theorem eq_iff {a b c d : Int} (h1 : Vld a b) (h2 : Vld c d) : (a = c ∧ b = d) ↔ Rat.divInt a b = Rat.divInt c d := by
  constructor
  · rintro ⟨rfl, rfl⟩; rfl
  · intro h
    have e1 := h1.num; have e2 := h1.den; have e3 := h2.num; have e4 := h2.den
    rw [h] at e1 e2
    exact ⟨e1.symm.trans e3, e2.symm.trans e4⟩
theorem lessR_true {a b c d : Int} (h1 : Vld a b) (h2 : Vld c d) (h : Rat.divInt a b < Rat.divInt c d) : lessR a b c d = (true, 0) := by
  rw [lessR_ok ⟨h1, h2⟩]
  simp [(less_iff h1 h2).2 h]
theorem lessR_false {a b c d : Int} (h1 : Vld a b) (h2 : Vld c d) (h : ¬ Rat.divInt a b < Rat.divInt c d) : lessR a b c d = (false, 0) := by
  rw [lessR_ok ⟨h1, h2⟩]
  have : ¬ a * d < c * b := fun x => h ((less_iff h1 h2).1 x)
  simp; omega
theorem lessR_of {a b c d e f g h : Int} (h1 : Vld a b) (h2 : Vld c d) (h3 : Vld e f) (h4 : Vld g h) (hi : Rat.divInt e f < Rat.divInt g h ↔ Rat.divInt a b < Rat.divInt c d) : lessR e f g h = lessR a b c d := by
  by_cases hl : Rat.divInt a b < Rat.divInt c d
  · rw [lessR_true h1 h2 hl, lessR_true h3 h4 (hi.2 hl)]
  · rw [lessR_false h1 h2 hl, lessR_false h3 h4 (fun x => hl (hi.1 x))]

theorem less_sum {a1 a2 b1 b2 c1 c2 x1 y1 x2 y2 : Int} (h1 : addR a1 a2 c1 c2 = (x1, y1, 0)) (h2 : addR b1 b2 c1 c2 = (x2, y2, 0)) : lessR x1 y1 x2 y2 = lessR a1 a2 b1 b2 := by
  obtain ⟨va, vc, v1, q1⟩ := addR_ok h1 rfl
  obtain ⟨vb, _, v2, q2⟩ := addR_ok h2 rfl
  refine lessR_of va vb v1 v2 ?_
  rw [q1, q2, Rat.add_lt_add_right]
theorem rat_pos {a b : Int} (h : Vld a b) (ha : 0 < a) : 0 < Rat.divInt a b := by
  rw [Rat.lt_iff, h.num]
  simp
  exact ha
theorem less_prod {a1 a2 b1 b2 c1 c2 x1 y1 x2 y2 : Int} (h1 : mulR a1 a2 c1 c2 = (x1, y1, 0)) (h2 : mulR b1 b2 c1 c2 = (x2, y2, 0)) (hc : 0 < c1) : lessR x1 y1 x2 y2 = lessR a1 a2 b1 b2 := by
  obtain ⟨va, vc, v1, q1⟩ := mulR_ok h1 rfl
  obtain ⟨vb, _, v2, q2⟩ := mulR_ok h2 rfl
  refine lessR_of va vb v1 v2 ?_
  rw [q1, q2, Rat.mul_lt_mul_right (rat_pos vc hc)]
theorem lt_of_three {p q : Rat} : p < q ∨ p = q ∨ q < p := by
  by_cases h : p < q
  · exact .inl h
  · by_cases h2 : q < p
    · exact .inr (.inr h2)
    · exact .inr (.inl (Rat.le_antisymm (Rat.not_lt.1 h2) (Rat.not_lt.1 h)))
theorem lt_asymm' {p q : Rat} (h : p < q) : ¬ q < p := fun h2 => Rat.not_le.2 h (Rat.le_of_lt h2)
theorem lt_trans' {p q r : Rat} (h : p < q) (k : q < r) : p < r := by
  rw [← Rat.not_le]
  intro h3
  exact Rat.not_le.2 k (Rat.le_trans h3 (Rat.le_of_lt h))
end Go.Proofs.Ytfcibldknamekaa
