/- The plain law of package rational: what its functions compute, by Lean's own rational numbers. Nothing of the program is named here. -/
namespace Go.Proofs.Ytfcibldknamekaa

/-- The greatest size of a numerator or denominator. -/
def top : Int := 2147483647

/-- A number whose numerator and denominator are small enough. -/
def Fits (q : Rat) : Prop := (q.den : Int) ≤ 2147483647 ∧ q.num ≤ 2147483647 ∧ -2147483647 ≤ q.num
instance (q : Rat) : Decidable (Fits q) := by unfold Fits; infer_instance

/-- A valid pair. -/
def Vld (N D : Int) : Prop := 1 ≤ D ∧ D ≤ 2147483647 ∧ -2147483647 ≤ N ∧ N ≤ 2147483647 ∧ (Int.gcd N D : Int) = 1
instance (N D : Int) : Decidable (Vld N D) := by unfold Vld; infer_instance

theorem sign_of_neg {d : Int} (h : d < 0) : d.sign = -1 := Int.sign_eq_neg_one_iff_neg.2 h
theorem sign_of_pos {d : Int} (h : 0 < d) : d.sign = 1 := Int.sign_eq_one_iff_pos.2 h

theorem gcd_pos' {n d : Int} (hd : d ≠ 0) : 0 < (Int.gcd n d : Int) := by
  have := Int.gcd_pos_of_ne_zero_right n hd
  omega

theorem gcd_le' {n d : Int} (hd : d ≠ 0) : (Int.gcd n d : Int) ≤ d.natAbs := by
  have := Int.gcd_le_natAbs_right n hd
  omega

theorem num_pos (n d : Int) (h : 0 < d) : n.tdiv (Int.gcd n d) = (Rat.divInt n d).num := by
  rw [Rat.num_divInt, sign_of_pos h, Int.one_mul, Int.gcd_comm]
  exact Int.tdiv_eq_ediv_of_dvd (Int.gcd_dvd_right ..)

theorem num_neg (n d : Int) (h : d < 0) : n.tdiv (-(Int.gcd n d)) = (Rat.divInt n d).num := by
  rw [Rat.num_divInt, sign_of_neg h, Int.gcd_comm, Int.tdiv_neg]
  have hd : ((d.gcd n : Nat) : Int) ∣ n := Int.gcd_dvd_right ..
  rw [Int.tdiv_eq_ediv_of_dvd hd, Int.neg_mul, Int.one_mul, Int.neg_ediv_of_dvd hd]

theorem den_pos' (n d : Int) (h : 0 < d) : d.tdiv (Int.gcd n d) = (Rat.divInt n d).den := by
  rw [Rat.den_divInt, if_neg (by omega), Int.gcd_comm]
  have hd : ((d.gcd n : Nat) : Int) ∣ d := Int.gcd_dvd_left ..
  rw [Int.tdiv_eq_ediv_of_dvd hd, Int.natCast_ediv]
  congr 1
  omega

theorem den_neg (n d : Int) (h : d < 0) : d.tdiv (-(Int.gcd n d)) = (Rat.divInt n d).den := by
  rw [Rat.den_divInt, if_neg (by omega), Int.gcd_comm, Int.tdiv_neg]
  have hd : ((d.gcd n : Nat) : Int) ∣ d := Int.gcd_dvd_left ..
  rw [Int.tdiv_eq_ediv_of_dvd hd, Int.natCast_ediv, ← Int.neg_ediv_of_dvd hd]
  congr 1
  omega

theorem num_le (n d : Int) : (Rat.divInt n d).num.natAbs ≤ n.natAbs := by
  rw [Rat.num_divInt]
  have hd : ((d.gcd n : Nat) : Int) ∣ d.sign * n := Int.dvd_mul_of_dvd_right (Int.gcd_dvd_right ..)
  rw [Int.natAbs_ediv_of_dvd hd]
  refine Nat.le_trans (Nat.div_le_self ..) ?_
  rw [Int.natAbs_mul]
  have : d.sign.natAbs ≤ 1 := by
    rcases Int.lt_trichotomy d 0 with h | h | h
    · rw [sign_of_neg h]; decide
    · subst h; decide
    · rw [sign_of_pos h]; decide
  calc d.sign.natAbs * n.natAbs ≤ 1 * n.natAbs := Nat.mul_le_mul_right _ this
    _ = n.natAbs := Nat.one_mul _

theorem den_le (n d : Int) (hd : d ≠ 0) : (Rat.divInt n d).den ≤ d.natAbs := by
  rw [Rat.den_divInt, if_neg hd]
  exact Nat.div_le_self ..

theorem Vld.num {N D : Int} (h : Vld N D) : (Rat.divInt N D).num = N := by
  rw [Rat.num_divInt, sign_of_pos (by have := h.1; omega), Int.gcd_comm, h.2.2.2.2]; simp
theorem Vld.den {N D : Int} (h : Vld N D) : ((Rat.divInt N D).den : Int) = D := by
  have h1 := h.1
  rw [Rat.den_divInt, if_neg (by omega), Int.gcd_comm]
  have : Int.gcd N D = 1 := by have := h.2.2.2.2; omega
  rw [this]; simp; omega
theorem Vld.fits {N D : Int} (h : Vld N D) : Fits (Rat.divInt N D) := by
  refine ⟨?_, ?_, ?_⟩
  · rw [h.den]; exact h.2.1
  · rw [h.num]; exact h.2.2.2.1
  · rw [h.num]; exact h.2.2.1
theorem vld_of_fits {q : Rat} (h : Fits q) : Vld q.num q.den := by
  obtain ⟨h1, h2, h3⟩ := h
  have := q.den_pos
  refine ⟨by omega, h1, h3, h2, ?_⟩
  have := q.reduced
  unfold Nat.Coprime at this
  simp [Int.gcd, this]
theorem divInt_self_q (q : Rat) : Rat.divInt q.num q.den = q := by rw [Rat.divInt_ofNat, Rat.mkRat_self]

end Go.Proofs.Ytfcibldknamekaa
