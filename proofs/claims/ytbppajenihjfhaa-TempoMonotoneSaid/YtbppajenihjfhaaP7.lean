/- The bounds of a map's speeds. -/
import Derived.Test.YtbppajenihjfhaaP6
namespace Go.Proofs.Ytbppajenihjfhaa
/-- N / D is no greater than the speed of the point. -/
def LeSp (N D : Int) (t : Tp) : Prop := N * t.d ≤ t.n * D
def GeSp (N D : Int) (t : Tp) : Prop := t.n * D ≤ N * t.d
theorem pos_of_mul {a b : Int} (hb : 0 < b) (h : 0 < a * b) : 0 < a := by
  refine Decidable.byContradiction fun hc => ?_
  have := Int.mul_le_mul_of_nonneg_right (show a ≤ 0 by omega) (show 0 ≤ b by omega)
  omega
theorem fdiff_lo {A B d : Int} (hd : 0 < d) : A - B < d * (A / d - B / d + 1) := by
  have h1 := Int.lt_mul_ediv_self_add (x := A) hd
  have h2 := Int.mul_ediv_self_le (x := B) (k := d) (by omega)
  have e : d * (A / d - B / d + 1) = d * (A / d) - d * (B / d) + d := by grind
  omega
theorem fdiff_hi {A B d : Int} (hd : 0 < d) : d * (A / d - B / d - 1) < A - B := by
  have h1 := Int.lt_mul_ediv_self_add (x := B) hd
  have h2 := Int.mul_ediv_self_le (x := A) (k := d) (by omega)
  have e : d * (A / d - B / d - 1) = d * (A / d) - d * (B / d) - d := by grind
  omega
theorem rnum_diff (p q : Tp) (s t : Int) : rnum p q t - rnum p q s = p.n * q.d * ((t - s) * (2 * (q.k - p.k) - t - s)) + q.n * p.d * ((t - s) * (t + s)) := by
  rw [rnum_two, rnum_two]; grind
theorem dur_lo {p q : Tp} (h : Leg p q) {N D s t : Int} (hD : 0 < D) (hp : LeSp N D p) (hq : p.r = true → LeSp N D q) (h0 : 0 ≤ s) (hst : s ≤ t) (h1 : p.r = true → t ≤ q.k - p.k) : (t - s) * N < D * (dur p q t - dur p q s + 1) := by
  have n1 := h.n1; have d1 := h.d1; have e1 := h.e1
  unfold dur
  split
  · rename_i hr
    have hq := hq hr
    have h1 := h1 hr
    have hR := rden_pos h hr
    unfold LeSp at hp hq
    have e := rnum_diff p q s t
    have f := fdiff_lo (A := rnum p q t) (B := rnum p q s) hR
    generalize hX : rnum p q t / rden p q - rnum p q s / rden p q + 1 = X at f ⊢
    -- rden * ((t - s) * N) ≤ D * (rnum t - rnum s) < D * (rden * X)
    have x0 : 0 ≤ (t - s) * (2 * (q.k - p.k) - t - s) := Int.mul_nonneg (by omega) (by omega)
    have x1 : 0 ≤ (t - s) * (t + s) := Int.mul_nonneg (by omega) (by omega)
    have y0 := Int.mul_le_mul_of_nonneg_right hp (show 0 ≤ q.d * ((t - s) * (2 * (q.k - p.k) - t - s)) from Int.mul_nonneg (by omega) x0)
    have y1 := Int.mul_le_mul_of_nonneg_right hq (show 0 ≤ p.d * ((t - s) * (t + s)) from Int.mul_nonneg (by omega) x1)
    have e2 : rden p q * ((t - s) * N) = N * p.d * (q.d * ((t - s) * (2 * (q.k - p.k) - t - s))) + N * q.d * (p.d * ((t - s) * (t + s))) := by unfold rden; grind
    have e3 : D * (rnum p q t - rnum p q s) = p.n * D * (q.d * ((t - s) * (2 * (q.k - p.k) - t - s))) + q.n * D * (p.d * ((t - s) * (t + s))) := by rw [e]; grind
    have e4 := Int.mul_lt_mul_of_pos_left f hD
    have e5 : D * (rden p q * X) - rden p q * ((t - s) * N) = (D * X - (t - s) * N) * rden p q := by grind
    have := pos_of_mul hR (show 0 < (D * X - (t - s) * N) * rden p q by omega)
    omega
  · unfold LeSp at hp
    have f := fdiff_lo (A := t * p.n) (B := s * p.n) (show 0 < p.d by omega)
    generalize hX : t * p.n / p.d - s * p.n / p.d + 1 = X at f ⊢
    have y0 := Int.mul_le_mul_of_nonneg_right hp (show 0 ≤ t - s by omega)
    have e4 := Int.mul_lt_mul_of_pos_left f hD
    have e2 : D * (t * p.n - s * p.n) = p.n * D * (t - s) := by grind
    have e5 : D * (p.d * X) - N * p.d * (t - s) = (D * X - (t - s) * N) * p.d := by grind
    have := pos_of_mul (show 0 < p.d by omega) (show 0 < (D * X - (t - s) * N) * p.d by omega)
    omega
theorem dur_hi {p q : Tp} (h : Leg p q) {N D s t : Int} (hD : 0 < D) (hp : GeSp N D p) (hq : p.r = true → GeSp N D q) (h0 : 0 ≤ s) (hst : s ≤ t) (h1 : p.r = true → t ≤ q.k - p.k) : D * (dur p q t - dur p q s - 1) < (t - s) * N := by
  have n1 := h.n1; have d1 := h.d1; have e1 := h.e1
  unfold dur
  split
  · rename_i hr
    have hq := hq hr
    have h1 := h1 hr
    have hR := rden_pos h hr
    unfold GeSp at hp hq
    have e := rnum_diff p q s t
    have f := fdiff_hi (A := rnum p q t) (B := rnum p q s) hR
    generalize hX : rnum p q t / rden p q - rnum p q s / rden p q - 1 = X at f ⊢
    have x0 : 0 ≤ (t - s) * (2 * (q.k - p.k) - t - s) := Int.mul_nonneg (by omega) (by omega)
    have x1 : 0 ≤ (t - s) * (t + s) := Int.mul_nonneg (by omega) (by omega)
    have y0 := Int.mul_le_mul_of_nonneg_right hp (show 0 ≤ q.d * ((t - s) * (2 * (q.k - p.k) - t - s)) from Int.mul_nonneg (by omega) x0)
    have y1 := Int.mul_le_mul_of_nonneg_right hq (show 0 ≤ p.d * ((t - s) * (t + s)) from Int.mul_nonneg (by omega) x1)
    have e2 : rden p q * ((t - s) * N) = N * p.d * (q.d * ((t - s) * (2 * (q.k - p.k) - t - s))) + N * q.d * (p.d * ((t - s) * (t + s))) := by unfold rden; grind
    have e3 : D * (rnum p q t - rnum p q s) = p.n * D * (q.d * ((t - s) * (2 * (q.k - p.k) - t - s))) + q.n * D * (p.d * ((t - s) * (t + s))) := by rw [e]; grind
    have e4 := Int.mul_lt_mul_of_pos_left f hD
    have e5 : rden p q * ((t - s) * N) - D * (rden p q * X) = ((t - s) * N - D * X) * rden p q := by grind
    have := pos_of_mul hR (show 0 < ((t - s) * N - D * X) * rden p q by omega)
    omega
  · unfold GeSp at hp
    have f := fdiff_hi (A := t * p.n) (B := s * p.n) (show 0 < p.d by omega)
    generalize hX : t * p.n / p.d - s * p.n / p.d - 1 = X at f ⊢
    have y0 := Int.mul_le_mul_of_nonneg_right hp (show 0 ≤ t - s by omega)
    have e4 := Int.mul_lt_mul_of_pos_left f hD
    have e2 : D * (t * p.n - s * p.n) = p.n * D * (t - s) := by grind
    have e5 : N * p.d * (t - s) - D * (p.d * X) = ((t - s) * N - D * X) * p.d := by grind
    have := pos_of_mul (show 0 < p.d by omega) (show 0 < ((t - s) * N - D * X) * p.d by omega)
    omega
theorem dur_top {p q : Tp} (h : Leg p q) {N D t : Int} (hD : 0 < D) (hp : GeSp N D p) (hq : p.r = true → GeSp N D q) (h0 : 0 ≤ t) (h1 : p.r = true → t ≤ q.k - p.k) : D * dur p q t ≤ t * N := by
  have n1 := h.n1; have d1 := h.d1; have e1 := h.e1
  unfold dur
  split
  · rename_i hr
    have hq := hq hr
    have h1 := h1 hr
    have hR := rden_pos h hr
    unfold GeSp at hp hq
    have e : rnum p q t = p.n * q.d * (t * (2 * (q.k - p.k) - t)) + q.n * p.d * (t * t) := rnum_two p q t
    have f := Int.mul_ediv_self_le (x := rnum p q t) (k := rden p q) (by omega)
    generalize hX : rnum p q t / rden p q = X at f ⊢
    have x0 : 0 ≤ t * (2 * (q.k - p.k) - t) := Int.mul_nonneg (by omega) (by omega)
    have x1 : 0 ≤ t * t := Int.mul_nonneg (by omega) (by omega)
    have y0 := Int.mul_le_mul_of_nonneg_right hp (show 0 ≤ q.d * (t * (2 * (q.k - p.k) - t)) from Int.mul_nonneg (by omega) x0)
    have y1 := Int.mul_le_mul_of_nonneg_right hq (show 0 ≤ p.d * (t * t) from Int.mul_nonneg (by omega) x1)
    have e2 : rden p q * (t * N) = N * p.d * (q.d * (t * (2 * (q.k - p.k) - t))) + N * q.d * (p.d * (t * t)) := by unfold rden; grind
    have e3 : D * rnum p q t = p.n * D * (q.d * (t * (2 * (q.k - p.k) - t))) + q.n * D * (p.d * (t * t)) := by rw [e]; grind
    have e4 := Int.mul_le_mul_of_nonneg_left f (show 0 ≤ D by omega)
    have e5 : D * (rden p q * X) = rden p q * (D * X) := by grind
    exact Int.le_of_mul_le_mul_left (show rden p q * (D * X) ≤ rden p q * (t * N) by omega) hR
  · unfold GeSp at hp
    have f := Int.mul_ediv_self_le (x := t * p.n) (k := p.d) (by omega)
    generalize hX : t * p.n / p.d = X at f ⊢
    have y0 := Int.mul_le_mul_of_nonneg_right hp h0
    have e4 := Int.mul_le_mul_of_nonneg_left f (show 0 ≤ D by omega)
    have e2 : D * (t * p.n) = p.n * D * t := by grind
    have e3 : p.d * (t * N) = N * p.d * t := by grind
    have e5 : D * (p.d * X) = p.d * (D * X) := by grind
    exact Int.le_of_mul_le_mul_left (show p.d * (D * X) ≤ p.d * (t * N) by omega) (show 0 < p.d by omega)
theorem dur_zero {p q : Tp} : dur p q 0 = 0 := by
  unfold dur
  split
  · rw [show rnum p q 0 = 0 by unfold rnum; simp]; exact Int.zero_ediv _
  · simp
theorem nx_sp {P : Tp → Prop} {m : List Tp} {j : Nat} (hj : j < m.length) (hs : ∀ i, i < m.length → P (tp m i)) : P (nx m j) := by
  by_cases h : j + 1 < m.length
  · rw [nx_in h]; exact hs _ h
  · rw [nx_end (by omega)]; exact hs _ hj
section
variable {m : List Tp} (hg : goodB m = true) {N D : Int} (hD : 0 < D)
include hg hD
theorem pos_lo (hs : ∀ i, i < m.length → LeSp N D (tp m i)) {i : Nat} : ∀ j, i ≤ j → j < m.length → ((tp m j).k - (tp m i).k) * N ≤ D * (posAt m j - posAt m i + ((j : Int) - i)) := by
  intro j
  induction j with
  | zero =>
    intro h _
    obtain rfl : i = 0 := by omega
    simp
  | succ j ih =>
    intro h hj
    by_cases he : i = j + 1
    · subst he; simp
    · have ih := ih (by omega) (by omega)
      have hge := nx_ge hg (show j < m.length by omega)
      have d := dur_lo (leg_at hg (show j < m.length by omega)) (s := 0) (t := (nx m j).k - (tp m j).k) hD (hs j (by omega)) (fun _ => nx_sp (by omega) hs) (Int.le_refl _) (by omega) (fun _ => Int.le_refl _)
      rw [dur_zero] at d
      rw [posAt]
      rw [nx_in hj] at d ⊢
      have e1 : ((tp m (j + 1)).k - (tp m i).k) * N = ((tp m j).k - (tp m i).k) * N + ((tp m (j + 1)).k - (tp m j).k - 0) * N := by grind
      have e2 : D * (posAt m j + dur (tp m j) (tp m (j + 1)) ((tp m (j + 1)).k - (tp m j).k) - posAt m i + (((j + 1 : Nat) : Int) - i)) = D * (posAt m j - posAt m i + ((j : Int) - i)) + D * (dur (tp m j) (tp m (j + 1)) ((tp m (j + 1)).k - (tp m j).k) - 0 + 1) := by
        rw [show ((j + 1 : Nat) : Int) = (j : Int) + 1 by omega]; grind
      omega
theorem pos_hi (hs : ∀ i, i < m.length → GeSp N D (tp m i)) {i : Nat} : ∀ j, i ≤ j → j < m.length → D * (posAt m j - posAt m i) ≤ ((tp m j).k - (tp m i).k) * N := by
  intro j
  induction j with
  | zero =>
    intro h _
    obtain rfl : i = 0 := by omega
    simp
  | succ j ih =>
    intro h hj
    by_cases he : i = j + 1
    · subst he; simp
    · have ih := ih (by omega) (by omega)
      have hge := nx_ge hg (show j < m.length by omega)
      have d := dur_top (leg_at hg (show j < m.length by omega)) (t := (nx m j).k - (tp m j).k) hD (hs j (by omega)) (fun _ => nx_sp (by omega) hs) (by omega) (fun _ => Int.le_refl _)
      rw [posAt]
      rw [nx_in hj] at d ⊢
      have e1 : ((tp m (j + 1)).k - (tp m i).k) * N = ((tp m j).k - (tp m i).k) * N + ((tp m (j + 1)).k - (tp m j).k) * N := by grind
      have e2 : D * (posAt m j + dur (tp m j) (tp m (j + 1)) ((tp m (j + 1)).k - (tp m j).k) - posAt m i) = D * (posAt m j - posAt m i) + D * dur (tp m j) (tp m (j + 1)) ((tp m (j + 1)).k - (tp m j).k) := by grind
      omega
theorem smp_lo (hs : ∀ i, i < m.length → LeSp N D (tp m i)) {a b : Int} (h0 : 0 ≤ a) (hab : a ≤ b) : (b - a) * N < D * (smpT m b - smpT m a + m.length) := by
  have ha := isAt_ix hg h0
  have hb := isAt_ix hg (show 0 ≤ b by omega)
  rw [← smp_at hg h0 ha, ← smp_at hg (by omega) hb]
  generalize ixT m a = i at ha
  generalize ixT m b = j at hb
  have ha' := ha
  have hb' := hb
  obtain ⟨i1, i2, i3⟩ := ha'
  obtain ⟨j1, j2, j3⟩ := hb'
  rcases Nat.lt_trichotomy i j with h | h | h
  · have c := i3 (by omega)
    have d1 := dur_lo (leg_at hg i1) (s := a - (tp m i).k) (t := (tp m (i + 1)).k - (tp m i).k) hD (hs i i1) (fun _ => nx_sp i1 hs) (by omega) (by omega) (fun _ => by rw [nx_in (show i + 1 < m.length by omega)]; exact Int.le_refl _)
    have d2 := dur_lo (leg_at hg j1) (s := 0) (t := b - (tp m j).k) hD (hs j j1) (fun _ => nx_sp j1 hs) (Int.le_refl _) (by omega) (in_leg hg hb)
    have e := pos_lo hg hD hs (i := i + 1) j (by omega) j1
    rw [dur_zero] at d2
    rw [posAt, nx_in (show i + 1 < m.length by omega)] at e
    rw [nx_in (show i + 1 < m.length by omega)] at d1 ⊢
    generalize dur (tp m i) (tp m (i + 1)) ((tp m (i + 1)).k - (tp m i).k) = F at *
    generalize dur (tp m i) (tp m (i + 1)) (a - (tp m i).k) = G at *
    generalize dur (tp m j) (nx m j) (b - (tp m j).k) = H at *
    have hl : (0 : Int) ≤ (m.length : Int) - (j - i + 1) := by omega
    have hz := Int.mul_nonneg (show 0 ≤ D by omega) hl
    have e1 : (b - a) * N = ((tp m (i + 1)).k - (tp m i).k - (a - (tp m i).k)) * N + ((tp m j).k - (tp m (i + 1)).k) * N + (b - (tp m j).k - 0) * N := by grind
    have e2 : D * (posAt m j + H - (posAt m i + G) + m.length) = D * (F - G + 1) + D * (posAt m j - (posAt m i + F) + ((j : Int) - (i + 1 : Nat))) + D * (H - 0 + 1) + D * ((m.length : Int) - (j - i + 1)) := by
      rw [show ((i + 1 : Nat) : Int) = (i : Int) + 1 by omega]; grind
    omega
  · subst h
    have d1 := dur_lo (leg_at hg i1) (s := a - (tp m i).k) (t := b - (tp m i).k) hD (hs i i1) (fun _ => nx_sp i1 hs) (by omega) (by omega) (in_leg hg hb)
    have hl : (0 : Int) ≤ (m.length : Int) - 1 := by omega
    have hz := Int.mul_nonneg (show 0 ≤ D by omega) hl
    generalize dur (tp m i) (nx m i) (a - (tp m i).k) = G at *
    generalize dur (tp m i) (nx m i) (b - (tp m i).k) = H at *
    have e1 : (b - a) * N = (b - (tp m i).k - (a - (tp m i).k)) * N := by grind
    have e2 : D * (posAt m i + H - (posAt m i + G) + m.length) = D * (H - G + 1) + D * ((m.length : Int) - 1) := by grind
    omega
  · have := k_mono hg (show j + 1 ≤ i by omega) i1
    have := j3 (by omega)
    omega
theorem smp_hi (hs : ∀ i, i < m.length → GeSp N D (tp m i)) {a b : Int} (h0 : 0 ≤ a) (hab : a ≤ b) : D * (smpT m b - smpT m a - 1) < (b - a) * N := by
  have ha := isAt_ix hg h0
  have hb := isAt_ix hg (show 0 ≤ b by omega)
  rw [← smp_at hg h0 ha, ← smp_at hg (by omega) hb]
  generalize ixT m a = i at ha
  generalize ixT m b = j at hb
  have ha' := ha
  have hb' := hb
  obtain ⟨i1, i2, i3⟩ := ha'
  obtain ⟨j1, j2, j3⟩ := hb'
  rcases Nat.lt_trichotomy i j with h | h | h
  · have c := i3 (by omega)
    have d1 := dur_hi (leg_at hg i1) (s := a - (tp m i).k) (t := (tp m (i + 1)).k - (tp m i).k) hD (hs i i1) (fun _ => nx_sp i1 hs) (by omega) (by omega) (fun _ => by rw [nx_in (show i + 1 < m.length by omega)]; exact Int.le_refl _)
    have d2 := dur_top (leg_at hg j1) (t := b - (tp m j).k) hD (hs j j1) (fun _ => nx_sp j1 hs) (by omega) (in_leg hg hb)
    have e := pos_hi hg hD hs (i := i + 1) j (by omega) j1
    rw [posAt, nx_in (show i + 1 < m.length by omega)] at e
    rw [nx_in (show i + 1 < m.length by omega)] at d1 ⊢
    generalize dur (tp m i) (tp m (i + 1)) ((tp m (i + 1)).k - (tp m i).k) = F at *
    generalize dur (tp m i) (tp m (i + 1)) (a - (tp m i).k) = G at *
    generalize dur (tp m j) (nx m j) (b - (tp m j).k) = H at *
    have e1 : (b - a) * N = ((tp m (i + 1)).k - (tp m i).k - (a - (tp m i).k)) * N + ((tp m j).k - (tp m (i + 1)).k) * N + (b - (tp m j).k) * N := by grind
    have e2 : D * (posAt m j + H - (posAt m i + G) - 1) = D * (F - G - 1) + D * (posAt m j - (posAt m i + F)) + D * H := by grind
    omega
  · subst h
    have d1 := dur_hi (leg_at hg i1) (s := a - (tp m i).k) (t := b - (tp m i).k) hD (hs i i1) (fun _ => nx_sp i1 hs) (by omega) (by omega) (in_leg hg hb)
    generalize dur (tp m i) (nx m i) (a - (tp m i).k) = G at *
    generalize dur (tp m i) (nx m i) (b - (tp m i).k) = H at *
    have e1 : (b - a) * N = (b - (tp m i).k - (a - (tp m i).k)) * N := by grind
    have e2 : D * (posAt m i + H - (posAt m i + G) - 1) = D * (H - G - 1) := by grind
    omega
  · have := k_mono hg (show j + 1 ≤ i by omega) i1
    have := j3 (by omega)
    omega
end
/-- The law's bounds. -/
theorem mono_lo {m : List Tp} (hg : goodB m = true) {N D : Int} (hD : 0 < D) (hs : ∀ i, i < m.length → LeSp N D (tp m i)) {a b : Int} (h0 : 0 ≤ a) (hab : a ≤ b) : (b - a) * N / D - m.length ≤ smpT m b - smpT m a := by
  have h := smp_lo hg hD hs h0 hab
  have e : D * (smpT m b - smpT m a + m.length) = (smpT m b - smpT m a + m.length) * D := Int.mul_comm _ _
  have := Int.ediv_lt_of_lt_mul hD (show (b - a) * N < (smpT m b - smpT m a + m.length) * D by omega)
  omega
theorem mono_hi {m : List Tp} (hg : goodB m = true) {N D : Int} (hD : 0 < D) (hs : ∀ i, i < m.length → GeSp N D (tp m i)) {a b : Int} (h0 : 0 ≤ a) (hab : a ≤ b) : smpT m b - smpT m a ≤ (b - a) * N / D + m.length := by
  have h := smp_hi hg hD hs h0 hab
  have hl := len_pos hg
  have e : (smpT m b - smpT m a - 1) * D = D * (smpT m b - smpT m a - 1) := Int.mul_comm _ _
  have := Int.le_ediv_of_mul_le hD (Int.le_of_lt (e ▸ h))
  omega
/-- The least and the greatest speed that the law's loop finds among the first j points. -/
def lowSp (m : List Tp) (j : Nat) : Tp := (List.range j).foldl (fun l i => if (tp m (i + 1)).n * l.d < l.n * (tp m (i + 1)).d then tp m (i + 1) else l) (tp m 0)
def topSp (m : List Tp) (j : Nat) : Tp := (List.range j).foldl (fun l i => if l.n * (tp m (i + 1)).d < (tp m (i + 1)).n * l.d then tp m (i + 1) else l) (tp m 0)
theorem lowSp_next (m : List Tp) (j : Nat) : lowSp m (j + 1) = if (tp m (j + 1)).n * (lowSp m j).d < (lowSp m j).n * (tp m (j + 1)).d then tp m (j + 1) else lowSp m j := by
  unfold lowSp; rw [List.range_succ, List.foldl_append]; rfl
theorem topSp_next (m : List Tp) (j : Nat) : topSp m (j + 1) = if (topSp m j).n * (tp m (j + 1)).d < (tp m (j + 1)).n * (topSp m j).d then tp m (j + 1) else topSp m j := by
  unfold topSp; rw [List.range_succ, List.foldl_append]; rfl
theorem cross_le {a b c d e f : Int} (hb : 0 < b) (hd : 0 < d) (hf : 0 < f) (h1 : a * d ≤ c * b) (h2 : c * f ≤ e * d) : a * f ≤ e * b := by
  have x := Int.mul_le_mul_of_nonneg_right h1 (show 0 ≤ f by omega)
  have y := Int.mul_le_mul_of_nonneg_right h2 (show 0 ≤ b by omega)
  have e1 : c * b * f = c * f * b := by grind
  have e2 : a * d * f = d * (a * f) := by grind
  have e3 : e * d * b = d * (e * b) := by grind
  exact Int.le_of_mul_le_mul_left (show d * (a * f) ≤ d * (e * b) by omega) hd
theorem low_is {m : List Tp} (hg : goodB m = true) : ∀ j, j < m.length → (∃ i, i ≤ j ∧ lowSp m j = tp m i) ∧ ∀ i, i ≤ j → LeSp (lowSp m j).n (lowSp m j).d (tp m i) := by
  intro j
  induction j with
  | zero => intro _; exact ⟨⟨0, Nat.le_refl _, rfl⟩, fun i hi => by rw [show i = 0 by omega]; exact Int.le_refl _⟩
  | succ j ih =>
    intro hj
    obtain ⟨⟨i0, hi0, he⟩, ih⟩ := ih (by omega)
    have hp := pt_at hg (show i0 < m.length by omega)
    have hq := pt_at hg hj
    rw [← he] at hp
    rw [lowSp_next]
    split
    · rename_i hlt
      refine ⟨⟨j + 1, Nat.le_refl _, rfl⟩, fun i hi => ?_⟩
      by_cases h : i = j + 1
      · subst h; exact Int.le_refl _
      · have h2 := ih i (by omega)
        have hr := pt_at hg (show i < m.length by omega)
        unfold LeSp at h2 ⊢
        exact cross_le (by omega) (show 0 < (lowSp m j).d by omega) (by omega) (Int.le_of_lt hlt) h2
    · rename_i hlt
      refine ⟨⟨i0, by omega, he⟩, fun i hi => ?_⟩
      by_cases h : i = j + 1
      · subst h; unfold LeSp; omega
      · exact ih i (by omega)
theorem top_is {m : List Tp} (hg : goodB m = true) : ∀ j, j < m.length → (∃ i, i ≤ j ∧ topSp m j = tp m i) ∧ ∀ i, i ≤ j → GeSp (topSp m j).n (topSp m j).d (tp m i) := by
  intro j
  induction j with
  | zero => intro _; exact ⟨⟨0, Nat.le_refl _, rfl⟩, fun i hi => by rw [show i = 0 by omega]; exact Int.le_refl _⟩
  | succ j ih =>
    intro hj
    obtain ⟨⟨i0, hi0, he⟩, ih⟩ := ih (by omega)
    have hp := pt_at hg (show i0 < m.length by omega)
    have hq := pt_at hg hj
    rw [← he] at hp
    rw [topSp_next]
    split
    · rename_i hlt
      refine ⟨⟨j + 1, Nat.le_refl _, rfl⟩, fun i hi => ?_⟩
      by_cases h : i = j + 1
      · subst h; exact Int.le_refl _
      · have h2 := ih i (by omega)
        have hr := pt_at hg (show i < m.length by omega)
        unfold GeSp at h2 ⊢
        exact cross_le (by omega) (show 0 < (topSp m j).d by omega) (by omega) h2 (Int.le_of_lt hlt)
    · rename_i hlt
      refine ⟨⟨i0, by omega, he⟩, fun i hi => ?_⟩
      by_cases h : i = j + 1
      · subst h; unfold GeSp; omega
      · exact ih i (by omega)
end Go.Proofs.Ytbppajenihjfhaa
