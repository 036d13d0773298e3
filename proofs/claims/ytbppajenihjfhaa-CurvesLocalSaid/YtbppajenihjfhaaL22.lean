/- CurvesLocal. -/
import Derived.Test.YtbppajenihjfhaaCW
import Derived.Test.YtbppajenihjfhaaCM
import Derived.Test.YtbppajenihjfhaaY
import Derived.Deep.RegionLaw
import Derived.Deep.DeepCutAuto
namespace Go.Proofs.Ytbppajenihjfhaa
open Go.RowKit
open Go.Lib (hid)

/-- The loop: the list so far, the knot before, the knot behind, laid. -/
def LOL (l : List Kn) (x : Kn) (nn : Nat) (V : World) (m b a9 dn i : Value) (wr : World) : Prop := ∃ (j : Nat) (z : After V), j ≤ nn ∧ i = .int .i64 j ∧ wr = z.w ∧ b = .int .i64 (lcB l x j) ∧ a9 = .int .i64 (lcA l x j) ∧ dn = .bool (lcD l x j) ∧ Hid (z.w.ownsRow V.heap.size 71 5 m (lcM l x j).length ((lcM l x j).flatMap Kn.c))
theorem rd_at {w : World} {b j : Nat} {xs : List Value} {u : Value} (h : Rd w (some ⟨b, 0, none⟩) xs) (hj : xs[j]? = some u) : w.cell? ⟨b, j, none⟩ = some u := by
  rcases h with rfl | ⟨b', o', e, _, hc⟩
  · simp at hj
  · simp only [Option.some.injEq, Addr.mk.injEq, and_true] at e
    obtain ⟨rfl, rfl⟩ := e
    have := hc j u hj
    rwa [Nat.zero_add] at this
theorem lcG_len (l : List Kn) (x : Kn) (j : Nat) : (lcG l x j).length ≤ 2 * j + 1 := by
  have := lcM_len l x j
  unfold lcG
  split
  · omega
  · simp; omega
@[irreducible] def LOG (V : World) (G : List Kn) (q : Value) (wx : World) : Prop := ∃ z : After V, wx = z.w ∧ z.w.ownsRow V.heap.size 71 5 q G.length (G.flatMap Kn.c)
theorem LOG.mk {V : World} {G : List Kn} {q : Value} {n : Nat} (z : After V) (hn : n = G.length) (h : z.w.ownsRow V.heap.size 71 5 q n (G.flatMap Kn.c)) : LOG V G q z.w := by unfold LOG; exact ⟨z, rfl, hn ▸ h⟩
theorem LOG.of {V : World} {G : List Kn} {q : Value} {wx : World} (h : LOG V G q wx) : ∃ z : After V, wx = z.w ∧ z.w.ownsRow V.heap.size 71 5 q G.length (G.flatMap Kn.c) := by unfold LOG at h; exact h
@[irreducible] def LOR (V : World) (B ML : Nat) (LL KL : List Value) (yk : Int) (q7 q9 q10 : Value) (wx : World) : Prop := ∃ z : After V, wx = z.w ∧ q9 = .int .i64 yk ∧ q10 = .bool true ∧ z.w.ownsRow V.heap.size 71 5 q7 (ML + 1) LL ∧ Rd z.w (some ⟨B, 0, none⟩) KL
theorem LOR.mk {V : World} {B ML : Nat} {LL KL : List Value} {yk : Int} {q7 : Value} (z : After V) (h : z.w.ownsRow V.heap.size 71 5 q7 (ML + 1) LL) (hr : Rd z.w (some ⟨B, 0, none⟩) KL) : LOR V B ML LL KL yk q7 (.int .i64 yk) (.bool true) z.w := by unfold LOR; exact ⟨z, rfl, rfl, rfl, h, hr⟩
theorem LOR.of {V : World} {B ML : Nat} {LL KL : List Value} {yk : Int} {q7 q9 q10 : Value} {wx : World} (h : LOR V B ML LL KL yk q7 q9 q10 wx) : ∃ z : After V, wx = z.w ∧ q9 = .int .i64 yk ∧ q10 = .bool true ∧ z.w.ownsRow V.heap.size 71 5 q7 (ML + 1) LL ∧ Rd z.w (some ⟨B, 0, none⟩) KL := by unfold LOR at h; exact h
theorem lcM_lt {l : List Kn} {x : Kn} {j : Nat} (h : (kn l j).k < x.k) : lcM l x (j + 1) = lcM l x j ++ [kn l j] ∧ lcB l x (j + 1) = (kn l j).k ∧ lcA l x (j + 1) = lcA l x j ∧ lcD l x (j + 1) = lcD l x j :=
  ⟨by rw [lcM, if_pos h], by rw [lcB, if_pos h], by rw [lcA, if_neg (fun c => by omega)], by rw [lcD, decide_eq_false (by omega), Bool.or_false]⟩
theorem lcM_eq {l : List Kn} {x : Kn} {j : Nat} (h1 : ¬ (kn l j).k < x.k) (h2 : ¬ x.k < (kn l j).k) : lcM l x (j + 1) = lcM l x j ∧ lcB l x (j + 1) = lcB l x j ∧ lcA l x (j + 1) = lcA l x j ∧ lcD l x (j + 1) = lcD l x j :=
  ⟨by rw [lcM, if_neg h1, if_neg h2], by rw [lcB, if_neg h1], by rw [lcA, if_neg (fun c => h2 c.1)], by rw [lcD, decide_eq_false h2, Bool.or_false]⟩
theorem lcM_gt1 {l : List Kn} {x : Kn} {j : Nat} (h : x.k < (kn l j).k) (hd : lcD l x j = true) : lcM l x (j + 1) = lcM l x j ++ [kn l j] ∧ lcB l x (j + 1) = lcB l x j ∧ lcA l x (j + 1) = lcA l x j ∧ lcD l x (j + 1) = true :=
  ⟨by rw [lcM, if_neg (by omega), if_pos h, if_pos hd], by rw [lcB, if_neg (by omega)], by rw [lcA, if_neg (fun c => by rw [hd] at c; simp at c)], by rw [lcD, hd, Bool.true_or]⟩
theorem lcM_gt0 {l : List Kn} {x : Kn} {j : Nat} (h : x.k < (kn l j).k) (hd : lcD l x j = false) : lcM l x (j + 1) = (lcM l x j ++ [x]) ++ [kn l j] ∧ lcB l x (j + 1) = lcB l x j ∧ lcA l x (j + 1) = (kn l j).k ∧ lcD l x (j + 1) = true :=
  ⟨by rw [lcM, if_neg (by omega), if_pos h, if_neg (by rw [hd]; exact Bool.false_ne_true)], by rw [lcB, if_neg (by omega)], by rw [lcA, if_pos ⟨h, hd⟩], by rw [lcD, decide_eq_true h, Bool.or_true]⟩
set_option maxRecDepth 100000 in
set_option maxHeartbeats 16000000 in
theorem cvLoc_walk (l : List Kn) (nn : Nat) (hnn : l.length = nn) (a : Option Addr) (c : Nat) (x : Kn) (at_ : Int) (hb : nn ≤ 9223372036854775807) (W : World) (hr : Rd W a (l.flatMap Kn.c)) :
    Calls Try.prog 22 #[.slice a nn c, .agg #[.int .i64 x.k, .int .i64 x.v, .int .i64 x.s, .int .i64 x.a, .int .i64 x.b], .int .i64 at_] W fun e w' => e = .returned (.bool true) ∧ Below W.heap.size W w' := by
  have HN := hid hnn; have HR := hid (after_rd hr)
  clear hnn hr
  obtain ⟨xk, xv, xs, xa, xb⟩ := x
  obtain ⟨i0, hi, hz0, hz1, hz2⟩ := info_parts info71
  go_enter Try.func22, Try.ntmps22
  go_wp2_with fail
  obtain ⟨V, hV⟩ : ∃ V, V = (W.alloc (.cells #[.int .i64 xk, .int .i64 xv, .int .i64 xs, .int .i64 xa, .int .i64 xb] 71)) := ⟨_, rfl⟩
  have t0 : ∀ v : After V, v.w.cell? ⟨W.heap.size, 0, none⟩ = some (.int .i64 xk) := after_cell (by rw [hV]; first | (simp; done) | omega | (simp; omega)) (by rw [hV]; (repeat (first | with_reducible assumption | exact bn (by first | (simp; done) | omega | (simp; omega)) rfl | refine bo (by first | (simp; done) | omega | (simp; omega)) ?_)))
  have ft0 : ∀ v : After V, v.w.frozen? ⟨W.heap.size, 0, none⟩ = false := after_frozen (by rw [hV]; first | (simp; done) | omega | (simp; omega)) (by rw [hV]; (repeat (first | exact fn (by first | (simp; done) | omega | (simp; omega)) | refine fo (by first | (simp; done) | omega | (simp; omega)) ?_)))
  have t1 : ∀ v : After V, v.w.cell? ⟨W.heap.size, 1, none⟩ = some (.int .i64 xv) := after_cell (by rw [hV]; first | (simp; done) | omega | (simp; omega)) (by rw [hV]; (repeat (first | with_reducible assumption | exact bn (by first | (simp; done) | omega | (simp; omega)) rfl | refine bo (by first | (simp; done) | omega | (simp; omega)) ?_)))
  have ft1 : ∀ v : After V, v.w.frozen? ⟨W.heap.size, 1, none⟩ = false := after_frozen (by rw [hV]; first | (simp; done) | omega | (simp; omega)) (by rw [hV]; (repeat (first | exact fn (by first | (simp; done) | omega | (simp; omega)) | refine fo (by first | (simp; done) | omega | (simp; omega)) ?_)))
  have t2 : ∀ v : After V, v.w.cell? ⟨W.heap.size, 2, none⟩ = some (.int .i64 xs) := after_cell (by rw [hV]; first | (simp; done) | omega | (simp; omega)) (by rw [hV]; (repeat (first | with_reducible assumption | exact bn (by first | (simp; done) | omega | (simp; omega)) rfl | refine bo (by first | (simp; done) | omega | (simp; omega)) ?_)))
  have ft2 : ∀ v : After V, v.w.frozen? ⟨W.heap.size, 2, none⟩ = false := after_frozen (by rw [hV]; first | (simp; done) | omega | (simp; omega)) (by rw [hV]; (repeat (first | exact fn (by first | (simp; done) | omega | (simp; omega)) | refine fo (by first | (simp; done) | omega | (simp; omega)) ?_)))
  have t3 : ∀ v : After V, v.w.cell? ⟨W.heap.size, 3, none⟩ = some (.int .i64 xa) := after_cell (by rw [hV]; first | (simp; done) | omega | (simp; omega)) (by rw [hV]; (repeat (first | with_reducible assumption | exact bn (by first | (simp; done) | omega | (simp; omega)) rfl | refine bo (by first | (simp; done) | omega | (simp; omega)) ?_)))
  have ft3 : ∀ v : After V, v.w.frozen? ⟨W.heap.size, 3, none⟩ = false := after_frozen (by rw [hV]; first | (simp; done) | omega | (simp; omega)) (by rw [hV]; (repeat (first | exact fn (by first | (simp; done) | omega | (simp; omega)) | refine fo (by first | (simp; done) | omega | (simp; omega)) ?_)))
  have t4 : ∀ v : After V, v.w.cell? ⟨W.heap.size, 4, none⟩ = some (.int .i64 xb) := after_cell (by rw [hV]; first | (simp; done) | omega | (simp; omega)) (by rw [hV]; (repeat (first | with_reducible assumption | exact bn (by first | (simp; done) | omega | (simp; omega)) rfl | refine bo (by first | (simp; done) | omega | (simp; omega)) ?_)))
  have ft4 : ∀ v : After V, v.w.frozen? ⟨W.heap.size, 4, none⟩ = false := after_frozen (by rw [hV]; first | (simp; done) | omega | (simp; omega)) (by rw [hV]; (repeat (first | exact fn (by first | (simp; done) | omega | (simp; omega)) | refine fo (by first | (simp; done) | omega | (simp; omega)) ?_)))
  have zt : ∀ v : After V, W.heap.size < v.w.heap.size := after_size (by rw [hV]; first | (simp; done) | omega | (simp; omega))
  have hwV : Below W.heap.size W V := by rw [hV]; exact (by repeat (first | exact Below.refl _ _ | assumption | refine b_then ?_ (by assumption) | refine b_alloc ?_ _ | refine b_drewN ?_ _ | refine b_drew ?_ | refine b_set ?_ (by omega) _ | refine b_set ?_ (by simp) _))
  have WV := hid (after_below hwV)
  rw [← hV]
  obtain ⟨u0, hu⟩ : ∃ u : After V, u.w = V := ⟨After.here V, rfl⟩
  rw [← hu]
  clear hu hV
  have HRV := hid (upr hwV HR.out)
  refine (met (sane11_any u0.w)).mono ?_
  rintro e _ ⟨rfl, u1, rfl⟩
  go_wp2_with fail
  refine (few_any a nn c u1.w).mono ?_
  rintro e w9 ⟨rfl, rfl⟩
  by_cases hfew : nn ≤ 1100
  case neg =>
    have d1 : decide ((nn : Int) ≤ 1100) = false := decide_eq_false (by omega)
    rw [d1]
    go_wp2_with fail
    exact bodyPost_ret (v := .bool true) (by simp [results, Try.results22, go_sem]) rfl ⟨rfl, b_then hwV u1.w_below⟩
  have d1 : decide ((nn : Int) ≤ 1100) = true := decide_eq_true (by omega)
  rw [d1]
  clear d1
  go_wp2_with fail
  refine (met (rkcheck_any l nn HN.out a c u1.w hb (HRV.out u1))).mono ?_
  rintro e _ ⟨rfl, u2, rfl⟩
  by_cases hc : crvB l = true
  case neg =>
    rw [chkK_no hc]
    go_wp2_with fail
    exact bodyPost_ret (v := .bool true) (by simp [results, Try.results22, go_sem]) rfl ⟨rfl, b_then hwV u2.w_below⟩
  have hk := chkK_ok hc
  rw [hk]
  have HK := hid hk; have HVB := hid ((crvB_iff l).1 hc).1
  clear hk hc
  go_wp2_with fail
  go_loopw [7, 8, 9, 10, 30] (fun m b a9 dn i wr => LOL l ⟨xk, xv, xs, xa, xb⟩ nn V m b a9 dn i wr) (fun _ _ _ _ i _ => nn - (intOf i).toNat)
  case atStart => exact ⟨0, u2, Nat.zero_le _, rfl, rfl, rfl, rfl, rfl, hid (World.ownsRow_nil _ _ _ _)⟩
  case round =>
    obtain ⟨j, z, hj, rfl, rfl, rfl, rfl, rfl, hown⟩ := hrel
    have hml := lcM_len l ⟨xk, xv, xs, xa, xb⟩ j
    by_cases hlt : j < nn
    · have e1 : decide (j < nn) = true := decide_eq_true hlt
      have hjk : (j : Int) < (nn : Int) := by omega
      have hjl : j < l.length := by rw [HN.out]; exact hlt
      obtain ⟨b, off, rfl, hb2⟩ := (HRV.out z).addr (by rw [flat_len Kn.c 5 Kn.c5]; omega)
      obtain ⟨⟨yk, yv, ys, ya, yb⟩, hy⟩ : ∃ t, kn l j = t := ⟨_, rfl⟩
      have c0 : z.w.cell? ⟨b, off + j * 5, none⟩ = some (.int .i64 yk) := kn_cell HRV.out (j := j) hjl 0 (by decide) (by rw [hy]; rfl) (by omega) z
      have c1 : z.w.cell? ⟨b, off + j * 5 + 1, none⟩ = some (.int .i64 yv) := kn_cell HRV.out (j := j) hjl 1 (by decide) (by rw [hy]; rfl) (by omega) z
      have c2 : z.w.cell? ⟨b, off + j * 5 + 2, none⟩ = some (.int .i64 ys) := kn_cell HRV.out (j := j) hjl 2 (by decide) (by rw [hy]; rfl) (by omega) z
      have c3 : z.w.cell? ⟨b, off + j * 5 + 3, none⟩ = some (.int .i64 ya) := kn_cell HRV.out (j := j) hjl 3 (by decide) (by rw [hy]; rfl) (by omega) z
      have c4 : z.w.cell? ⟨b, off + j * 5 + 4, none⟩ = some (.int .i64 yb) := kn_cell HRV.out (j := j) hjl 4 (by decide) (by rw [hy]; rfl) (by omega) z
      have HY := hid hy
      obtain ⟨B, hB⟩ : ∃ y, lcB l ⟨xk, xv, xs, xa, xb⟩ j = y := ⟨_, rfl⟩
      obtain ⟨A, hA⟩ : ∃ y, lcA l ⟨xk, xv, xs, xa, xb⟩ j = y := ⟨_, rfl⟩
      obtain ⟨D, hD⟩ : ∃ y, lcD l ⟨xk, xv, xs, xa, xb⟩ j = y := ⟨_, rfl⟩
      obtain ⟨ML, hML⟩ : ∃ y, (lcM l ⟨xk, xv, xs, xa, xb⟩ j).length = y := ⟨_, rfl⟩
      rw [hML] at hown hml
      rw [hB, hA, hD]
      have HB := hid hB; have HA := hid hA; have HD := hid hD; have LEN := hid hML
      clear hy hB hA hD hML hjl
      go_upto_region 10 with (fail)
      obtain ⟨zz, hzz⟩ : ∃ y9 : After V, y9.w = z.w.alloc (.cells #[.int .i64 yk, .int .i64 yv, .int .i64 ys, .int .i64 ya, .int .i64 yb] 71) := ⟨z.on (b_alloc (Below.refl _ _) _), rfl⟩
      have q0 : zz.w.cell? ⟨z.w.heap.size, 0, none⟩ = some (.int .i64 yk) := by rw [hzz]; exact bn rfl rfl
      have q1 : zz.w.cell? ⟨z.w.heap.size, 1, none⟩ = some (.int .i64 yv) := by rw [hzz]; exact bn rfl rfl
      have q2 : zz.w.cell? ⟨z.w.heap.size, 2, none⟩ = some (.int .i64 ys) := by rw [hzz]; exact bn rfl rfl
      have q3 : zz.w.cell? ⟨z.w.heap.size, 3, none⟩ = some (.int .i64 ya) := by rw [hzz]; exact bn rfl rfl
      have q4 : zz.w.cell? ⟨z.w.heap.size, 4, none⟩ = some (.int .i64 yb) := by rw [hzz]; exact bn rfl rfl
      have HOZ := hid (own_eq (own_after hown.out (b_alloc (Below.refl _ _) (.cells #[.int .i64 yk, .int .i64 yv, .int .i64 ys, .int .i64 ya, .int .i64 yb] 71))) hzz)
      have hfar := own_far hown.out z.w.heap.size (Nat.le_refl _)
      have RDZ := hid (show Rd zz.w (some ⟨z.w.heap.size, 0, none⟩) [.int .i64 yk, .int .i64 yv, .int .i64 ys, .int .i64 ya, .int .i64 yb] by rw [hzz]; exact rd_new _ _ _ rfl)
      have hzs : z.w.heap.size < zz.w.heap.size := by rw [hzz]; simp
      have qa0 : (zz.w.alloc (.cells #[.int .i64 xk, .int .i64 xv, .int .i64 xs, .int .i64 xa, .int .i64 xb] 71)).cell? ⟨z.w.heap.size, 0, none⟩ = some (.int .i64 yk) := bo hzs q0
      have p0 := t0 zz
      have p1 := t1 zz
      have p2 := t2 zz
      have p3 := t3 zz
      have p4 := t4 zz
      rw [← hzz]
      have HZZ := hid hzz
      clear hzz hown c0 c1 c2 c3 c4
      rcases h1 : decide (yk < xk) with _ | _
      · rcases h2 : decide (xk < yk) with _ | _
        · have h3 : (yk == xk) = true := by have a1 := of_decide_eq_false h1; have a2 := of_decide_eq_false h2; simp; omega
          have NX := hid (lcM_eq (l := l) (x := ⟨xk, xv, xs, xa, xb⟩) (j := j) (by rw [HY.out]; exact of_decide_eq_false h1) (by rw [HY.out]; exact of_decide_eq_false h2))
          go_wp2_with fail
          go_roundw
          case rel => exact ⟨j + 1, zz, by omega, by go_num, rfl, by rw [NX.out.2.1, HB.out], by rw [NX.out.2.2.1, HA.out], by rw [NX.out.2.2.2, HD.out], hid (by rw [NX.out.1, LEN.out]; exact HOZ.out)⟩
          case measure => first | (simp [intOf]; done) | (simp [intOf]; omega)
        · have h3 : (yk == xk) = false := by have a2 := of_decide_eq_true h2; simp; omega
          rcases D with _ | _
          · have NX0 := lcM_gt0 (l := l) (x := ⟨xk, xv, xs, xa, xb⟩) (j := j) (by rw [HY.out]; exact of_decide_eq_true h2) HD.out
            rw [HY.out] at NX0
            go_upto_if 49 with (fail)
            go_cut [7, 9, 10] (fun q7 q9 q10 wx => LOR V z.w.heap.size ML ((lcM l ⟨xk, xv, xs, xa, xb⟩ j).flatMap Kn.c ++ [.int .i64 xk, .int .i64 xv, .int .i64 xs, .int .i64 xa, .int .i64 xb]) [.int .i64 yk, .int .i64 yv, .int .i64 ys, .int .i64 ya, .int .i64 yb] yk q7 q9 q10 wx)
            case first =>
             go_upto_region 13 with (fail)
             go_region_law (refine step_append_rd _ rfl (.tmp 50) (.tmp 52) 36 rfl V.heap.size 71 i0 (.agg #[.int .i64 0, .int .i64 0, .int .i64 0, .int .i64 0, .int .i64 0]) 5 40 und36 hi hz0 hz1 hz2 rfl (by decide) _ _ _ (by rfl) (own_after HOZ.out (by repeat (first | exact Below.refl _ _ | refine b_alloc ?_ _ | refine b_drewN ?_ _ | refine b_drew ?_))) (some ⟨zz.w.heap.size, 0, none⟩) 1 1 [.int .i64 xk, .int .i64 xv, .int .i64 xs, .int .i64 xa, .int .i64 xb] (by rfl) rfl (rd_new _ _ _ (by rfl)) (fun u hu => Kn.one ⟨xk, xv, xs, xa, xb⟩ u hu) (by unfold maxLen; omega) (by omega) (by have := zz.w_below.size; simp; omega) ?_; intro v' w1 hown' hgrow; have hq := rd_grown (RDZ.out.below (by repeat (first | exact Below.refl _ _ | refine b_alloc ?_ _ | refine b_drewN ?_ _ | refine b_drew ?_))) hgrow hfar; have k0 : w1.cell? ⟨z.w.heap.size, 0, none⟩ = some (.int .i64 yk) := rd_at hq (j := 0) rfl; obtain ⟨zq, rfl⟩ : ∃ y9 : After V, w1 = y9.w := ⟨After.to (Below.trans (by repeat (first | exact zz.w_below | refine b_alloc ?_ _ | refine b_drewN ?_ _ | refine b_drew ?_)) (own_below (own_after HOZ.out (by repeat (first | exact Below.refl _ _ | refine b_alloc ?_ _ | refine b_drewN ?_ _ | refine b_drew ?_))) hgrow (by have := zz.w_below.size; simp; omega))), rfl⟩; clear hgrow)
             all_goals (rename_i hJ hK; exact hK _ _ (Met.intro (hJ _ _ (by (repeat apply Exists.intro); exact ⟨LOR.mk zq hown' hq, rfl⟩))))
            case rest =>
            have NX := hid NX0
            clear NX0 p0 p1 p2 p3 p4 q0 q1 q2 q3 q4 qa0
            obtain ⟨zq, rfl, rfl, rfl, hown9, hq⟩ := hcut.of
            have k0 := rd_at hq (j := 0) rfl
            have k1 := rd_at hq (j := 1) rfl
            have k2 := rd_at hq (j := 2) rfl
            have k3 := rd_at hq (j := 3) rfl
            have k4 := rd_at hq (j := 4) rfl
            have p0 := t0 zq
            have HOQ := hid hown9
            clear hown9 hq
            go_wp2_with (at_builtin; refine wpList_append_rd _ rfl (.tmp 61) (.tmp 63) 36 rfl V.heap.size 71 i0 (.agg #[.int .i64 0, .int .i64 0, .int .i64 0, .int .i64 0, .int .i64 0]) 5 40 und36 hi hz0 hz1 hz2 rfl (by decide) _ _ _ rfl (own_after HOQ.out (b_alloc (Below.refl _ _) _)) (some ⟨zq.w.heap.size, 0, none⟩) 1 1 [.int .i64 yk, .int .i64 yv, .int .i64 ys, .int .i64 ya, .int .i64 yb] rfl rfl (rd_new _ _ _ (by rfl)) (fun u hu => Kn.one ⟨yk, yv, ys, ya, yb⟩ u hu) (by unfold maxLen; omega) (by omega) (by have := zq.w_below.size; simp; omega) ?_; intro v' w1 hown' hgrow)
            obtain ⟨z1, rfl⟩ : ∃ y9 : After V, w1 = y9.w := ⟨After.to (Below.trans (b_alloc zq.w_below _) (own_below (own_after HOQ.out (b_alloc (Below.refl _ _) _)) hgrow (by have := zq.w_below.size; simp; omega))), rfl⟩
            clear hgrow
            have HO1 := hid hown'
            clear hown'
            go_roundw
            case rel => exact ⟨j + 1, z1, by omega, by go_num, rfl, by rw [NX.out.2.1, HB.out], by rw [NX.out.2.2.1], by rw [NX.out.2.2.2], hid (by rw [NX.out.1, List.length_append, List.length_append, LEN.out, List.flatMap_append, List.flatMap_append]; exact HO1.out)⟩
            case measure => first | (simp [intOf]; done) | (simp [intOf]; omega)
          · have NX0 := lcM_gt1 (l := l) (x := ⟨xk, xv, xs, xa, xb⟩) (j := j) (by rw [HY.out]; exact of_decide_eq_true h2) HD.out
            rw [HY.out, HB.out, HA.out] at NX0
            have NX := hid NX0
            clear NX0
            go_wp2_with (at_builtin; refine wpList_append_rd _ rfl (.tmp 61) (.tmp 63) 36 rfl V.heap.size 71 i0 (.agg #[.int .i64 0, .int .i64 0, .int .i64 0, .int .i64 0, .int .i64 0]) 5 40 und36 hi hz0 hz1 hz2 rfl (by decide) _ _ _ rfl (own_after HOZ.out (b_alloc (Below.refl _ _) _)) (some ⟨zz.w.heap.size, 0, none⟩) 1 1 [.int .i64 yk, .int .i64 yv, .int .i64 ys, .int .i64 ya, .int .i64 yb] rfl rfl (rd_new _ _ _ (by rfl)) (fun u hu => Kn.one ⟨yk, yv, ys, ya, yb⟩ u hu) (by unfold maxLen; omega) (by omega) (by have := zz.w_below.size; simp; omega) ?_; intro v' w1 hown' hgrow)
            obtain ⟨z1, rfl⟩ : ∃ y9 : After V, w1 = y9.w := ⟨After.to (Below.trans (b_alloc zz.w_below _) (own_below (own_after HOZ.out (b_alloc (Below.refl _ _) _)) hgrow (by have := zz.w_below.size; simp; omega))), rfl⟩
            clear hgrow
            have HO1 := hid hown'
            clear hown'
            go_roundw
            case rel => exact ⟨j + 1, z1, by omega, by go_num, rfl, by rw [NX.out.2.1], by rw [NX.out.2.2.1], by rw [NX.out.2.2.2], hid (by rw [NX.out.1, List.length_append, LEN.out, List.flatMap_append, List.flatMap_cons, List.flatMap_nil, List.append_nil]; exact HO1.out)⟩
            case measure => first | (simp [intOf]; done) | (simp [intOf]; omega)
      · have h2 : decide (xk < yk) = false := by have a1 := of_decide_eq_true h1; simp; omega
        have h3 : (yk == xk) = false := by have a1 := of_decide_eq_true h1; simp; omega
        have NX0 := lcM_lt (l := l) (x := ⟨xk, xv, xs, xa, xb⟩) (j := j) (by rw [HY.out]; exact of_decide_eq_true h1)
        rw [HY.out, HA.out, HD.out] at NX0
        have NX := hid NX0
        clear NX0
        go_wp2_with (at_builtin; refine wpList_append_rd _ rfl (.tmp 61) (.tmp 63) 36 rfl V.heap.size 71 i0 (.agg #[.int .i64 0, .int .i64 0, .int .i64 0, .int .i64 0, .int .i64 0]) 5 40 und36 hi hz0 hz1 hz2 rfl (by decide) _ _ _ rfl (own_after HOZ.out (b_alloc (Below.refl _ _) _)) (some ⟨zz.w.heap.size, 0, none⟩) 1 1 [.int .i64 yk, .int .i64 yv, .int .i64 ys, .int .i64 ya, .int .i64 yb] rfl rfl (rd_new _ _ _ (by rfl)) (fun u hu => Kn.one ⟨yk, yv, ys, ya, yb⟩ u hu) (by unfold maxLen; omega) (by omega) (by have := zz.w_below.size; simp; omega) ?_; intro v' w1 hown' hgrow)
        obtain ⟨z1, rfl⟩ : ∃ y9 : After V, w1 = y9.w := ⟨After.to (Below.trans (b_alloc zz.w_below _) (own_below (own_after HOZ.out (b_alloc (Below.refl _ _) _)) hgrow (by have := zz.w_below.size; simp; omega))), rfl⟩
        clear hgrow
        have HO1 := hid hown'
        clear hown'
        go_roundw
        case rel => exact ⟨j + 1, z1, by omega, by go_num, rfl, by rw [NX.out.2.1], by rw [NX.out.2.2.1], by rw [NX.out.2.2.2], hid (by rw [NX.out.1, List.length_append, LEN.out, List.flatMap_append, List.flatMap_cons, List.flatMap_nil, List.append_nil]; exact HO1.out)⟩
        case measure => first | (simp [intOf]; done) | (simp [intOf]; omega)
    · have e1 : decide (j < nn) = false := decide_eq_false hlt
      have hjn : j = nn := by omega
      have HLOC := hid (fun h1 h2 => lc_local (x := ⟨xk, xv, xs, xa, xb⟩) (at_ := at_) HVB.out h1 h2)
      obtain ⟨B, hB⟩ : ∃ y, lcB l ⟨xk, xv, xs, xa, xb⟩ j = y := ⟨_, rfl⟩
      obtain ⟨A, hA⟩ : ∃ y, lcA l ⟨xk, xv, xs, xa, xb⟩ j = y := ⟨_, rfl⟩
      obtain ⟨G, hG⟩ : ∃ y, lcG l ⟨xk, xv, xs, xa, xb⟩ j = y := ⟨_, rfl⟩
      have HLOC := hid (show valB 1099511627776 G = true → ((0 ≤ B ∧ at_ ≤ B) ∨ (A ≤ 1099511627776 ∧ A ≤ at_)) → ofK l at_ = ofK G at_ by
        rw [← hB, ← hA, ← hG, hjn, ← HN.out]; exact HLOC.out)
      clear hjn
      have hgb := lcG_len l ⟨xk, xv, xs, xa, xb⟩ j
      rw [hG] at hgb
      rw [hB, hA]
      have HG := hid hG
      obtain ⟨D, hD⟩ : ∃ y, lcD l ⟨xk, xv, xs, xa, xb⟩ j = y := ⟨_, rfl⟩
      rw [hD]
      have HD := hid hD
      clear hB hA hG hlt hD
      go_upto_if 67 with (fail)
      go_cut [7] (fun q wx => LOG V G q wx)
      case first =>
        rcases D with _ | _
        · have hge : lcM l ⟨xk, xv, xs, xa, xb⟩ j ++ [⟨xk, xv, xs, xa, xb⟩] = G := by rw [← HG.out]; exact (if_neg (by rw [HD.out]; exact Bool.false_ne_true)).symm
          have HGL := hid (show (lcM l ⟨xk, xv, xs, xa, xb⟩ j).length + 1 = G.length by rw [← hge, List.length_append, List.length_singleton])
          have HGE := hid hge
          obtain ⟨ML, hML⟩ : ∃ y, (lcM l ⟨xk, xv, xs, xa, xb⟩ j).length = y := ⟨_, rfl⟩
          rw [hML] at hown hml HGL
          have p0 := t0 z
          have p1 := t1 z
          have p2 := t2 z
          have p3 := t3 z
          have p4 := t4 z
          clear hge hML
          go_wp2_with (at_builtin; refine wpList_append_rd _ rfl (.tmp 68) (.tmp 70) 36 rfl V.heap.size 71 i0 (.agg #[.int .i64 0, .int .i64 0, .int .i64 0, .int .i64 0, .int .i64 0]) 5 40 und36 hi hz0 hz1 hz2 rfl (by decide) _ _ _ rfl (own_after hown.out (b_alloc (Below.refl _ _) _)) (some ⟨z.w.heap.size, 0, none⟩) 1 1 [.int .i64 xk, .int .i64 xv, .int .i64 xs, .int .i64 xa, .int .i64 xb] rfl rfl (rd_new _ _ _ (by rfl)) (fun u hu => Kn.one ⟨xk, xv, xs, xa, xb⟩ u hu) (by unfold maxLen; omega) (by omega) (by have := z.w_below.size; simp; omega) ?_; intro v' w1 hown' hgrow)
          obtain ⟨z1, rfl⟩ : ∃ y9 : After V, w1 = y9.w := ⟨After.to (Below.trans (b_alloc z.w_below _) (own_below (own_after hown.out (b_alloc (Below.refl _ _) _)) hgrow (by have := z.w_below.size; simp; omega))), rfl⟩
          clear hgrow
          have HOG := hid (show z1.w.ownsRow V.heap.size 71 5 v' (ML + 1) (G.flatMap Kn.c) by rw [← HGE.out, List.flatMap_append]; exact hown')
          clear hown'
          go_meet
          case rel => first | exact LOG.mk z1 HGL.out HOG.out | ((repeat apply Exists.intro); exact ⟨LOG.mk z1 HGL.out HOG.out, rfl⟩)
        · have hge : lcM l ⟨xk, xv, xs, xa, xb⟩ j = G := by rw [← HG.out]; exact (if_pos HD.out).symm
          have HOG := hid (show z.w.ownsRow V.heap.size 71 5 u7 G.length (G.flatMap Kn.c) by rw [← hge]; exact hown.out)
          clear hge
          go_wp2_with fail
          go_meet
          case rel => first | exact LOG.mk z rfl HOG.out | ((repeat apply Exists.intro); exact ⟨LOG.mk z rfl HOG.out, rfl⟩)
      case rest =>
      clear hown HD HG hml
      obtain ⟨z1, rfl, hog⟩ := hcut.of
      obtain ⟨a8, c8, rfl, -, -, hR8, -⟩ := own_slice hog
      obtain ⟨n8, hn8⟩ : ∃ n, G.length = n := ⟨_, rfl⟩
      rw [hn8] at hgb ⊢
      have HN8 := hid hn8
      have HR8 := hid (after_rd hR8)
      obtain ⟨V2, hV2⟩ : ∃ V2 : World, V2 = z1.w := ⟨_, rfl⟩
      have hBV2 : Below V.heap.size V V2 := by rw [hV2]; exact z1.w_below
      have hw2 := b_then hwV hBV2
      have HR9 := hid (show ∀ v : After V2, Rd v.w a8 (G.flatMap Kn.c) by rw [hV2]; exact HR8.out)
      have HRL := hid (upr hBV2 HRV.out)
      obtain ⟨y0, hy9⟩ : ∃ u : After V2, u.w = V2 := ⟨After.here V2, rfl⟩
      rw [← hV2, ← hy9]
      clear hV2 hy9 hR8 HR8 hn8 hBV2
      go_wp2_with fail
      refine (met (rkcheck_any G n8 HN8.out a8 c8 y0.w (by omega) (HR9.out y0))).mono ?_
      rintro e _ ⟨rfl, y1, rfl⟩
      by_cases hck : crvB G = true
      case neg =>
        rw [chkK_no hck]
        go_wp2_with fail
        exact bodyPost_ret (v := .bool true) (by simp [results, Try.results22, go_sem]) rfl ⟨rfl, b_then hw2 y1.w_below⟩
      have hck2 := chkK_ok hck
      rw [hck2]
      have HCK := hid hck2; have HCV := hid ((crvB_iff G).1 hck).1
      clear hck hck2
      obtain ⟨P, hP⟩ : ∃ y, kvV l at_ = y := ⟨_, rfl⟩
      obtain ⟨Q, hQ⟩ : ∃ y, kvV G at_ = y := ⟨_, rfl⟩
      have HPQ := hid (show ((0 ≤ B ∧ at_ ≤ B) ∨ (A ≤ 1099511627776 ∧ A ≤ at_)) → P = Q by
        intro h
        rw [← hP, ← hQ, show kvV l at_ = ofK l at_ from if_pos HK.out, show kvV G at_ = ofK G at_ from if_pos HCK.out]
        exact HLOC.out HCV.out h)
      have HP := hid hP; have HQ := hid hQ
      clear hP hQ
      go_wp2_with fail
      refine (met (Value_any l nn HN.out a c at_ y1.w hb (HRL.out y1))).mono ?_
      rintro e _ ⟨rfl, y2, rfl⟩
      rw [HK.out, HP.out]
      go_wp2_with fail
      refine (met (Value_any G n8 HN8.out a8 c8 at_ y2.w (by omega) (HR9.out y2))).mono ?_
      rintro e _ ⟨rfl, y3, rfl⟩
      rw [HCK.out, HQ.out]
      rcases i1 : decide (0 ≤ B) with _ | _
      · rcases i3 : decide (A ≤ 1099511627776) with _ | _
        · go_wp2_with fail
          exact bodyPost_ret (v := .bool true) (by simp [results, Try.results22, go_sem]) rfl ⟨rfl, b_then hw2 y3.w_below⟩
        · rcases i4 : decide (A ≤ at_) with _ | _
          · go_wp2_with fail
            exact bodyPost_ret (v := .bool true) (by simp [results, Try.results22, go_sem]) rfl ⟨rfl, b_then hw2 y3.w_below⟩
          · obtain rfl := HPQ.out (.inr ⟨of_decide_eq_true i3, of_decide_eq_true i4⟩)
            have ePP : (P == P) = true := beq_self_eq_true _
            go_wp2_with fail
            exact bodyPost_ret (v := .bool true) (by simp [results, Try.results22, go_sem]) rfl ⟨rfl, b_then hw2 y3.w_below⟩
      · rcases i2 : decide (at_ ≤ B) with _ | _
        · rcases i3 : decide (A ≤ 1099511627776) with _ | _
          · go_wp2_with fail
            exact bodyPost_ret (v := .bool true) (by simp [results, Try.results22, go_sem]) rfl ⟨rfl, b_then hw2 y3.w_below⟩
          · rcases i4 : decide (A ≤ at_) with _ | _
            · go_wp2_with fail
              exact bodyPost_ret (v := .bool true) (by simp [results, Try.results22, go_sem]) rfl ⟨rfl, b_then hw2 y3.w_below⟩
            · obtain rfl := HPQ.out (.inr ⟨of_decide_eq_true i3, of_decide_eq_true i4⟩)
              have ePP : (P == P) = true := beq_self_eq_true _
              go_wp2_with fail
              exact bodyPost_ret (v := .bool true) (by simp [results, Try.results22, go_sem]) rfl ⟨rfl, b_then hw2 y3.w_below⟩
        · obtain rfl := HPQ.out (.inl ⟨of_decide_eq_true i1, of_decide_eq_true i2⟩)
          have ePP : (P == P) = true := beq_self_eq_true _
          go_wp2_with fail
          exact bodyPost_ret (v := .bool true) (by simp [results, Try.results22, go_sem]) rfl ⟨rfl, b_then hw2 y3.w_below⟩
end Go.Proofs.Ytbppajenihjfhaa
namespace Go.Proofs.Ytbppajenihjfhaa.Cvl22
open Go.ChangeShapes Go.WideShapes Go.ChangeAt Go.RowKit Go.Joins

theorem own : ownKnob Try.prog.godebug = none := by kernel_rfl
theorem laidOut : laidOutB Try.prog = true := by kernel_rfl

set_option maxRecDepth 100000 in
theorem lifted (os : Os) (started : os.Started) (H : Type) (enc : TypeId × Value → H) :
    ReturnsInHanded {} Try.checked os 22 .any (Rows.curvesLocalSpec.pre6 enc Try.prog Try.f22 Rows.curvesLocalRow.domain false) (Rows.curvesLocalSpec.post enc Try.prog Try.f22 false true false false) := by
  refine returnsInHanded_of_change (C := Try.checked) own started (by kernel_rfl) Try.func22
    (ChangeSpec.witness6 (enc := enc) (C := Try.checked) false ⟨#[], #[.slice none 0 0, .agg #[.int .i64 0, .int .i64 0, .int .i64 0, .int .i64 0, .int .i64 0], .int .i64 0], []⟩ 8 (by kernel_rfl) (by kernel_rfl) (by kernel_rfl) (by kernel_rfl)) ?_
  intro W base args ds gs before hval0 hW hcnd _
  have hval : ∀ (j : Nat) t v, Try.f22.params[j]? = some t → args[j]? = some v → Value.okWide Try.prog W .any base t v := hval0
  have hW' := hW
  obtain ⟨p, q, hA0, hV, rfl, hfz, hnd⟩ := hW
  have hA : DataW.TrodAll enc Try.prog W 0 (fun _ => true) true Try.f22.params.toList args.toList ds p := hA0
  rw [Try.params22] at hA hval
  obtain ⟨v0, vs0, d0, ds0, p0, q0, hargs, rfl, rfl, h0, r0⟩ := trodAll_cons hA
  obtain ⟨v1, vs1, d1, ds1, p1, q1, rfl, rfl, rfl, h1, r1⟩ := trodAll_cons r0
  obtain ⟨v2, vs2, d2, ds2, p2, q2, rfl, rfl, rfl, h2, r2⟩ := trodAll_cons r1
  obtain ⟨rfl, rfl, rfl⟩ := trodAll_nil r2
  obtain rfl : args = #[v0, v1, v2] := by cases args; simp_all
  obtain ⟨rfl, rfl⟩ := trodVars_none hV
  have k0 := h0
  have lt0 : ∀ x ∈ p0, x.block < W.heap.size := by obtain ⟨m, hm⟩ := k0; exact DataW.trod_lt m _ _ _ hm
  obtain ⟨xa0, xn0, xc0, rfl⟩ := okWide_slice Try.underlying36 (hval 0 36 v0 rfl rfl)
  obtain ⟨m0, hm0⟩ := h0
  obtain ⟨a0, n0, c0, e0, lc0, mc0, fz0, ⟨l0, ln0, rd0⟩⟩ := open_kns hm0
  cases e0
  have nb0 := Nat.le_trans lc0 (max_len mc0)
  have k1 := h1
  have lt1 : ∀ x ∈ p1, x.block < W.heap.size := by obtain ⟨m, hm⟩ := k1; exact DataW.trod_lt m _ _ _ hm
  obtain ⟨t1, rfl⟩ := open_knv (hval 1 71 v1 rfl rfl) h1
  obtain ⟨a2, rfl, rfl, rfl, w2⟩ := open_int Try.underlying3 (hval 2 3 v2 rfl rfl) h2
  clear hA0 hval0
  refine (cvLoc_walk l0 xn0 ln0 xa0 xc0 t1 a2 nb0 W rd0).mono fun e W' ⟨he, bel⟩ => ?_
  subst he
  exact ⟨_, rfl, _, _, _, [], _, [], hW', trodAll_mk1 (shut_bool Try.underlying4 _), (trodAll_cons_mk (Below.trod laidOut (by kernel_rfl) (of_decide_eq_true (by kernel_rfl)) k0 bel lt0) (trodAll_cons_mk (Below.trod laidOut (by kernel_rfl) (of_decide_eq_true (by kernel_rfl)) k1 bel lt1) (trodAll_cons_mk (shut_int Try.underlying3 w2) trodAll_mk0))), rfl, bel.frame _, fun h => by cases h⟩

theorem over : Rows.curvesLocalRow.holds Try.pinned (OpenSpec.ofChange Rows.curvesLocalSpec) :=
  OpenClaim.holds_of_wide 22 Try.f22 rfl rfl rfl rfl rfl rfl rfl ⟨rfl, rfl, rfl, rfl, rfl⟩ rfl rfl rfl rfl rfl (by kernel_rfl) Try.func22 (by show joinedFacts Try.prog _ _ _ _ = true; unfold joinedFacts; rw [may0, lift0, make0]; kernel_rfl)
    (of_decide_eq_true (by kernel_rfl)) (by unfold Func.isWrapper; first | (rw [if_pos (by decide +kernel)]; kernel_rfl) | (rw [if_neg (by decide +kernel)]; exact ⟨rfl, rfl⟩))
    (fun os started H enc _ => lifted os started H enc)
end Go.Proofs.Ytbppajenihjfhaa.Cvl22
namespace Go.Proofs.Ytbppajenihjfhaa
/-- The statement. -/
theorem curvesLocal_holds : Rows.CurvesLocalSaid := Cvl22.over
end Go.Proofs.Ytbppajenihjfhaa
