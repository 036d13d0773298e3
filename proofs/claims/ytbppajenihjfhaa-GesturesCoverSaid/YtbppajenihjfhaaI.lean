/- The reference's within. -/
import Derived.Test.YtbppajenihjfhaaH
import Derived.IntWalk
namespace Go.Proofs.Ytbppajenihjfhaa
open Go.RowKit
open Go.Lib (hid)

set_option maxRecDepth 100000 in
set_option maxHeartbeats 4000000 in
theorem within_any (m : List Tp) (nn : Nat) (hnn : m.length = nn) (a : Option Addr) (c : Nat) (i : Nat) (t : Int) (hg : goodB m = true) (hi : i < nn) (h0 : 0 ≤ t) (h2 : t ≤ 33554432) (h1 : (tp m i).r = true → t ≤ (nx m i).k - (tp m i).k) (w : World) (hr : Rd w a (m.flatMap Tp.c)) :
    Calls Try.prog 85 #[.slice a nn c, .int .i64 i, .int .i64 t] w fun e w' => e = .returned (.int .i64 (dur (tp m i) (nx m i) t)) ∧ Below w.heap.size w w' := by
  have HN := hid hnn
  have h64 := len_le hg
  rw [hnn] at h64
  obtain ⟨b, off, rfl, hb⟩ := hr.addr (by rw [flat_len Tp.c 4 Tp.c4, hnn]; omega)
  have RQ := hid (after_rd hr)
  have HLEG := hid (leg_at hg (j := i) (by omega))
  have hkl := nx_le hg (j := i) (by omega)
  have hkg := nx_ge hg (j := i) (by omega)
  have hk0 := k_nonneg hg (j := i) (by omega)
  have hin := fun h => last_flat hg (j := i) h
  have hnx := fun h => nx_in (m := m) (j := i) h
  obtain ⟨p, hp⟩ : ∃ t, tp m i = t := ⟨_, rfl⟩
  obtain ⟨q, hq⟩ : ∃ t, nx m i = t := ⟨_, rfl⟩
  have c0 : w.cell? ⟨b, off + i * 4, none⟩ = some (.int .i64 p.k) := tp_cell RQ.out (j := i) (by rw [HN.out]; omega) 0 (by decide) (by rw [hp]; rfl) rfl (After.here w)
  have c1 : w.cell? ⟨b, off + i * 4 + 1, none⟩ = some (.int .i64 p.n) := tp_cell RQ.out (j := i) (by rw [HN.out]; omega) 1 (by decide) (by rw [hp]; rfl) (by omega) (After.here w)
  have c2 : w.cell? ⟨b, off + i * 4 + 2, none⟩ = some (.int .i64 p.d) := tp_cell RQ.out (j := i) (by rw [HN.out]; omega) 2 (by decide) (by rw [hp]; rfl) (by omega) (After.here w)
  have c3 : w.cell? ⟨b, off + i * 4 + 3, none⟩ = some (.bool p.r) := tp_cell RQ.out (j := i) (by rw [HN.out]; omega) 3 (by decide) (by rw [hp]; rfl) (by omega) (After.here w)
  rw [hp] at hin HLEG h1 hkg hk0 ⊢
  rw [hq] at hnx HLEG h1 hkl hkg ⊢
  clear hp hq hr
  have n1 := HLEG.out.n1; have n2 := HLEG.out.n2; have d1 := HLEG.out.d1; have d2 := HLEG.out.d2
  have hii : ((i : Nat) : Int) < (nn : Int) := by omega
  cases hr : p.r
  · clear hin hnx h1
    have HF := hid (show dur p q t = t * p.n / p.d by rw [dur, if_neg (by rw [hr]; decide)])
    rw [hr] at c3
    clear hr
    have m1 := mul_bd h0 h2 (show 0 ≤ p.n by omega) n2
    have W1 : IntKind.i64.wrap (t * p.n) = t * p.n := IntWalk.i64_in _ (by omega)
    have W2 : IntKind.i64.wrap ((t * p.n).tdiv p.d) = t * p.n / p.d := IntWalk.i64_quo _ _ (by omega)
    have z1 : (p.d = 0) = False := by simp; omega
    clear m1
    go_enter Try.func85, Try.ntmps85
    go_wp2_with fail
    exact bodyPost_ret (v := .int .i64 (t * p.n / p.d)) (by simp [results, Try.results85, go_sem]) rfl ⟨by rw [HF.out], b_alloc (Below.refl _ _) _⟩
  · have hi1 : i + 1 < nn := by
      refine Decidable.byContradiction fun hne => ?_
      have := hin (by omega)
      rw [hr] at this
      cases this
    have HQ := hid (hnx (by omega))
    clear hin hnx
    have bd := ramp_bd HLEG.out hr h0 (h1 hr)
    have k1 := HLEG.out.w1 hr; have k2 := HLEG.out.w2 hr
    obtain ⟨wh, hwh⟩ : ∃ t, q.k - p.k = t := ⟨_, rfl⟩
    rw [hwh] at bd k1 k2
    obtain ⟨b1, b2, b3, b4, b5, b6, b7, b8, b9⟩ := bd
    have W0 : IntKind.i64.wrap (2 * wh) = 2 * wh := IntWalk.i64_in _ (by omega)
    have W1 : IntKind.i64.wrap (2 * wh * p.n) = 2 * wh * p.n := IntWalk.i64_in _ (by omega)
    have W2 : IntKind.i64.wrap (2 * wh * p.n * q.d) = 2 * wh * p.n * q.d := IntWalk.i64_in _ (by omega)
    have W3 : IntKind.i64.wrap (2 * wh * p.n * q.d * t) = 2 * wh * p.n * q.d * t := IntWalk.i64_in _ (by omega)
    have W4 : IntKind.i64.wrap (q.n * p.d) = q.n * p.d := IntWalk.i64_in _ (by omega)
    have W5 : IntKind.i64.wrap (p.n * q.d) = p.n * q.d := IntWalk.i64_in _ (by omega)
    have W6 : IntKind.i64.wrap (q.n * p.d - p.n * q.d) = q.n * p.d - p.n * q.d := IntWalk.i64_in _ (by omega)
    have W7 : IntKind.i64.wrap ((q.n * p.d - p.n * q.d) * t) = (q.n * p.d - p.n * q.d) * t := IntWalk.i64_in _ (by omega)
    have W8 : IntKind.i64.wrap ((q.n * p.d - p.n * q.d) * t * t) = (q.n * p.d - p.n * q.d) * t * t := IntWalk.i64_in _ (by omega)
    have W9 : IntKind.i64.wrap (2 * wh * p.n * q.d * t + (q.n * p.d - p.n * q.d) * t * t) = 2 * wh * p.n * q.d * t + (q.n * p.d - p.n * q.d) * t * t := IntWalk.i64_in _ (by omega)
    have Wa : IntKind.i64.wrap (2 * wh * p.d) = 2 * wh * p.d := IntWalk.i64_in _ (by omega)
    have Wb : IntKind.i64.wrap (2 * wh * p.d * q.d) = 2 * wh * p.d * q.d := IntWalk.i64_in _ (by omega)
    have hn0 := rnum_nonneg HLEG.out h0 (h1 hr)
    unfold rnum at hn0
    rw [hwh] at hn0
    have Wc : IntKind.i64.wrap ((2 * wh * p.n * q.d * t + (q.n * p.d - p.n * q.d) * t * t).tdiv (2 * wh * p.d * q.d)) = (2 * wh * p.n * q.d * t + (q.n * p.d - p.n * q.d) * t * t) / (2 * wh * p.d * q.d) := IntWalk.i64_quo _ _ (by omega)
    have z1 : (2 * wh * p.d * q.d = 0) = False := by simp only [eq_iff_iff, iff_false]; omega
    have Wx : IntKind.i64.wrap (q.k - p.k) = wh := by rw [hwh]; exact IntWalk.i64_in _ (by omega)
    have HF := hid (show dur p q t = (2 * wh * p.n * q.d * t + (q.n * p.d - p.n * q.d) * t * t) / (2 * wh * p.d * q.d) by rw [dur, if_pos hr, rnum, rden, hwh])
    rw [hr] at c3
    have y0 : w.cell? ⟨b, off + (i + 1) * 4, none⟩ = some (.int .i64 q.k) := tp_cell RQ.out (j := (i + 1)) (by rw [HN.out]; omega) 0 (by decide) (by rw [← HQ.out]; rfl) rfl (After.here w)
    have y1 : w.cell? ⟨b, off + (i + 1) * 4 + 1, none⟩ = some (.int .i64 q.n) := tp_cell RQ.out (j := (i + 1)) (by rw [HN.out]; omega) 1 (by decide) (by rw [← HQ.out]; rfl) (by omega) (After.here w)
    have y2 : w.cell? ⟨b, off + (i + 1) * 4 + 2, none⟩ = some (.int .i64 q.d) := tp_cell RQ.out (j := (i + 1)) (by rw [HN.out]; omega) 2 (by decide) (by rw [← HQ.out]; rfl) (by omega) (After.here w)
    have y3 : w.cell? ⟨b, off + (i + 1) * 4 + 3, none⟩ = some (.bool q.r) := tp_cell RQ.out (j := (i + 1)) (by rw [HN.out]; omega) 3 (by decide) (by rw [← HQ.out]; rfl) (by omega) (After.here w)
    have hii2 : ((i : Nat) : Int) + 1 < (nn : Int) := by omega
    have hj2 : (((i : Nat) : Int) + 1).toNat = i + 1 := rfl
    have HX := hid hwh
    clear hr h1 hwh b1 b2 b3 b4 b5 b6 b7 b8 b9 hn0 k1 k2 hkl hkg
    go_enter Try.func85, Try.ntmps85
    go_wp2_with fail
    exact bodyPost_ret (v := .int .i64 ((2 * wh * p.n * q.d * t + (q.n * p.d - p.n * q.d) * t * t) / (2 * wh * p.d * q.d))) (by simp [results, Try.results85, go_sem]) rfl ⟨by rw [HF.out], b_alloc (b_alloc (Below.refl _ _) _) _⟩
end Go.Proofs.Ytbppajenihjfhaa
