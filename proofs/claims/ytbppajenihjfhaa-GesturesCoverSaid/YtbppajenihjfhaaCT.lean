/- The reference's Resolve. -/
import Derived.Test.YtbppajenihjfhaaCQ
import Derived.Test.YtbppajenihjfhaaJ
import Derived.IntWalk
namespace Go.Proofs.Ytbppajenihjfhaa
open Go.RowKit
open Go.Lib (hid)

theorem own_cut {w : World} {base : Nat} {e : TypeId} {size n g cap : Nat} {xs : List Value} (h : w.ownsRow base e size (.slice (some ⟨g, 0, none⟩) (n + 1) cap) (n + 1) xs) : w.ownsRow base e size (.slice (some ⟨g, 0, none⟩) n cap) n (xs.take (n * size)) := by
  obtain ⟨hl, h2⟩ := h
  rcases h2 with ⟨hv, hn⟩ | ⟨g', cap', cur, hv, hg, hh, hn, hm, hs, ht⟩
  · cases hn
  · cases hv
    refine ⟨by rw [List.length_take, hl, Nat.min_eq_left (by rw [Nat.succ_mul]; omega)], .inr ⟨g, cap, cur, rfl, hg, hh, by omega, hm, hs, ?_⟩⟩
    rw [← ht, List.take_take, Nat.min_eq_left (by rw [Nat.succ_mul]; omega)]
def RRL (m : List Tp) (l : List Kn) (nn : Nat) (V : World) (v i : Value) (wr : World) : Prop := ∃ (j : Nat) (z : After V), j ≤ nn ∧ i = .int .i64 j ∧ wr = z.w ∧ Hid (z.w.ownsRow V.heap.size 71 5 v (rout m l j).length ((rout m l j).flatMap Kn.c)) ∧ Hid (rsE m l j = 0)
set_option maxRecDepth 100000 in
set_option maxHeartbeats 4000000 in
theorem rResolve_any (m : List Tp) (mn : Nat) (hmn : m.length = mn) (ma : Option Addr) (mc : Nat) (l : List Kn) (nn : Nat) (hnn : l.length = nn) (a : Option Addr) (c : Nat) (w : World) (hm : mn ≤ 9223372036854775807) (hn : nn ≤ 9223372036854775807)
    (hrm : Rd w ma (m.flatMap Tp.c)) (hr : Rd w a (l.flatMap Kn.c)) :
    Calls Try.prog 56 #[.slice ma mn mc, .slice a nn c] w fun e w' => ∃ v, e = .returned (.tuple #[v, .int .i64 (resE m l)]) ∧ KsIs w' v (resV m l) ∧ Below w.heap.size w w' := by
  have HMN := hid hmn; have HMR := hid (after_rd hrm); have HN := hid hnn; have HR := hid (after_rd hr)
  clear hmn hrm hnn hr
  obtain ⟨i0, hi, hz0, hz1, hz2⟩ := info_parts info71
  go_enter Try.func56, Try.ntmps56
  go_wp2_with fail
  refine (met0 (rtcheck_any m mn HMN.out ma mc w hm (HMR.out (After.here w)))).mono ?_
  rintro e _ ⟨rfl, u1, rfl⟩
  by_cases ht : chkT m = 0
  case neg =>
    have hk := chkT_no ht
    rw [hk]
    have HE := hid (show resE m l = 90 by unfold resE; rw [if_pos ht, hk])
    clear ht hk
    go_wp2_with fail
    exact bodyPost_ret (v := .tuple #[.slice none 0 0, .int .i64 90]) (by simp [results, Try.results56, go_sem]) rfl ⟨_, by rw [HE.out], by rw [resV_no (by rw [HE.out]; first | decide | assumption)]; exact KsIs.nil _, u1.2⟩
  rw [ht]
  have HT := hid ht; clear ht
  go_wp2_with fail
  refine (met (rlane_any l nn HN.out a c u1.w hn (HR.out u1))).mono ?_
  rintro e _ ⟨rfl, u2, rfl⟩
  rcases hv : valB 16777216 l with _ | _
  · have HE := hid (show resE m l = 110 by unfold resE; rw [if_neg (fun h => h HT.out), if_pos hv])
    clear hv
    go_wp2_with fail
    exact bodyPost_ret (v := .tuple #[.slice none 0 0, .int .i64 110]) (by simp [results, Try.results56, go_sem]) rfl ⟨_, by rw [HE.out], by rw [resV_no (by rw [HE.out]; first | decide | assumption)]; exact KsIs.nil _, u2.2⟩
  have HV := hid hv; clear hv
  have hn10 := len_K HV.out
  rw [HN.out] at hn10
  have HO := hid (World.ownsRow_made u2.w #[] 0 (base := u2.w.heap.size) (e := 71) (size := 5) (Nat.le_refl _) (by unfold maxLen; omega) (by simp))
  go_wp2_with fail
  obtain ⟨V, hV⟩ : ∃ V : World, V = u2.w := ⟨_, rfl⟩
  have hwV : Below w.heap.size w V := by rw [hV]; exact u2.2
  have HOV := hid (show (V.alloc (.cells #[] 71)).ownsRow V.heap.size 71 5 (.slice (some ⟨V.heap.size, 0, none⟩) 0 0) 0 [] by rw [hV]; exact HO.out)
  have HRV := hid (upr hwV HR.out)
  have HMV := hid (upr hwV HMR.out)
  rw [← hV]
  clear HO
  go_loopw [7, 8] (fun v i wr => RRL m l nn V v i wr) (fun _ i _ => nn - (intOf i).toNat)
  case atStart => exact ⟨0, After.to (b_alloc (Below.refl _ _) (.cells #[] 71)), Nat.zero_le _, rfl, rfl, hid HOV.out, hid rfl⟩
  case round =>
    clear HOV hV
    obtain ⟨j, z, hj, rfl, rfl, hown, hes⟩ := hrel
    by_cases hlt : j < nn
    · have e1 : decide (j < nn) = true := decide_eq_true hlt
      have hjk : (j : Int) < (nn : Int) := by omega
      have hjl : j < l.length := by rw [HN.out]; exact hlt
      obtain ⟨b, off, rfl, hb⟩ := (HRV.out z).addr (by rw [flat_len Kn.c 5 Kn.c5]; omega)
      obtain ⟨⟨xk, xv, xs, xa, xb⟩, hx⟩ : ∃ t, kn l j = t := ⟨_, rfl⟩
      have x0 : ∀ v : After V, v.w.cell? ⟨b, off + j * 5, none⟩ = some (.int .i64 xk) := kn_cell HRV.out (j := j) (hjl) 0 (by decide) (by rw [hx]; rfl) rfl
      have x1 : ∀ v : After V, v.w.cell? ⟨b, off + j * 5 + 1, none⟩ = some (.int .i64 xv) := kn_cell HRV.out (j := j) (hjl) 1 (by decide) (by rw [hx]; rfl) (by omega)
      have x2 : ∀ v : After V, v.w.cell? ⟨b, off + j * 5 + 2, none⟩ = some (.int .i64 xs) := kn_cell HRV.out (j := j) (hjl) 2 (by decide) (by rw [hx]; rfl) (by omega)
      have x3 : ∀ v : After V, v.w.cell? ⟨b, off + j * 5 + 3, none⟩ = some (.int .i64 xa) := kn_cell HRV.out (j := j) (hjl) 3 (by decide) (by rw [hx]; rfl) (by omega)
      have x4 : ∀ v : After V, v.w.cell? ⟨b, off + j * 5 + 4, none⟩ = some (.int .i64 xb) := kn_cell HRV.out (j := j) (hjl) 4 (by decide) (by rw [hx]; rfl) (by omega)
      have Hx := hid hx; clear hx
      have c0 := x0 z
      go_wp2_with fail
      refine (rSample_any m mn HMN.out ma mc xk hm z.w (HMV.out z)).mono ?_
      rintro e w9 ⟨rfl, hB9⟩
      have HO9 := hid (own_after hown.out hB9)
      obtain ⟨z9, rfl⟩ : ∃ y9 : After V, w9 = y9.w := ⟨z.on hB9, rfl⟩
      obtain ⟨S, hS⟩ : ∃ S, smV m xk = S := ⟨_, rfl⟩
      rw [hS]
      have HS := hid hS; clear hS c0 hB9
      by_cases he : smE m xk = 0
      case neg =>
        have HE1 := hid (show resE m l = smE m xk by
          have h1 : rsE m l (j + 1) = smE m xk := by rw [rsE, if_pos hes.out, Hx.out]
          have h2 : rsE m l l.length = smE m xk := by rw [rsE_up (by rw [h1]; exact he) l.length (by rw [HN.out]; omega), h1]
          unfold resE
          rw [if_neg (fun h => h HT.out), if_neg (by rw [HV.out]; decide), h2, if_pos he])
        have HNE := hid he
        have d1 : (smE m xk != 0) = true := by simpa using he
        obtain ⟨E, hE⟩ : ∃ E, smE m xk = E := ⟨_, rfl⟩
        rw [hE] at d1 HE1 HNE
        rw [hE]
        clear he hE
        go_wp2_with fail
        exact bodyPost_ret (v := .tuple #[.slice none 0 0, .int .i64 E]) (by simp [results, Try.results56, go_sem]) rfl ⟨_, by rw [HE1.out], by rw [resV_no (by rw [HE1.out]; exact HNE.out)]; exact KsIs.nil _, b_then hwV z9.w_below⟩
      rw [he]
      have HE1 := hid (show rsE m l (j + 1) = 0 by rw [rsE, if_pos hes.out, Hx.out]; exact he)
      clear he
      have p0 := x0 z9
      have p1 := x1 z9
      have p2 := x2 z9
      have p3 := x3 z9
      have p4 := x4 z9
      go_upto_region 15 with (fail)
      obtain ⟨zz, hzz⟩ : ∃ y9 : After V, y9.w = z9.w.alloc (.cells #[.int .i64 S, .int .i64 xv, .int .i64 xs, .int .i64 xa, .int .i64 xb] 71) := ⟨z9.on (b_alloc (Below.refl _ _) _), rfl⟩
      have q0 : zz.w.cell? ⟨z9.w.heap.size, 0, none⟩ = some (.int .i64 S) := by rw [hzz]; exact bn rfl rfl
      have q1 : zz.w.cell? ⟨z9.w.heap.size, 1, none⟩ = some (.int .i64 xv) := by rw [hzz]; exact bn rfl rfl
      have q2 : zz.w.cell? ⟨z9.w.heap.size, 2, none⟩ = some (.int .i64 xs) := by rw [hzz]; exact bn rfl rfl
      have q3 : zz.w.cell? ⟨z9.w.heap.size, 3, none⟩ = some (.int .i64 xa) := by rw [hzz]; exact bn rfl rfl
      have q4 : zz.w.cell? ⟨z9.w.heap.size, 4, none⟩ = some (.int .i64 xb) := by rw [hzz]; exact bn rfl rfl
      have HOZ := hid (own_eq (own_after HO9.out (b_alloc (Below.refl _ _) (.cells #[.int .i64 S, .int .i64 xv, .int .i64 xs, .int .i64 xa, .int .i64 xb] 71))) hzz)
      rw [← hzz]
      have hrl := rout_len m l j
      obtain ⟨nj, hnj⟩ : ∃ n, (rout m l j).length = n := ⟨_, rfl⟩
      rw [hnj] at HOZ hrl
      have HNJ := hid hnj
      clear hzz HO9 hnj p0 p1 p2 p3 p4 x0 x1 x2 x3 x4
      rcases Nat.eq_zero_or_pos nj with rfl | hp
      · have hrn := hid (show rout m l (j + 1) = rout m l j ++ [mv m (kn l j)] by rw [rout, if_neg (fun h => by rw [HNJ.out] at h; exact absurd h.1 (by decide))])
        obtain ⟨a8, c8, rfl, -, -, -, -⟩ := own_slice HOZ.out
        go_wp2_with (at_builtin; refine wpList_append_rd _ rfl (.tmp 65) (.tmp 67) 36 rfl V.heap.size 71 i0 (.agg #[.int .i64 0, .int .i64 0, .int .i64 0, .int .i64 0, .int .i64 0]) 5 40 und36 hi hz0 hz1 hz2 rfl (by decide) _ _ _ rfl (own_after HOZ.out (b_alloc (Below.refl _ _) _)) (some ⟨zz.w.heap.size, 0, none⟩) 1 1 (mv m (kn l j)).c rfl rfl (rd_new _ _ _ (by rw [Hx.out, mv, HS.out]; rfl)) (mv m (kn l j)).one (by unfold maxLen; omega) (by omega) (by have := zz.w_below.size; simp; omega) ?_; intro v' w1 hown' hgrow)
        have HO1 := hid hown'
        obtain ⟨z1, rfl⟩ : ∃ y9 : After V, w1 = y9.w := ⟨After.to (Below.trans (b_alloc zz.w_below _) (own_below (own_after HOZ.out (b_alloc (Below.refl _ _) _)) hgrow (by have := zz.w_below.size; simp; omega))), rfl⟩
        clear hown' hgrow
        go_roundw
        case rel => exact ⟨j + 1, z1, by omega, by go_num, rfl, hid (by rw [hrn.out, List.length_append, HNJ.out, List.flatMap_append, List.flatMap_cons, List.flatMap_nil, List.append_nil]; exact HO1.out), HE1⟩
        case measure => first | (simp [intOf]; done) | (simp [intOf]; omega)
      · obtain ⟨p, rfl⟩ : ∃ p, nj = p + 1 := ⟨nj - 1, by omega⟩
        have HOZ2 := HOZ.out
        rcases HOZ2.2 with ⟨_, h0⟩ | ⟨g, cap, cur, rfl, hbg, hh, hnc, hm8, hs8, ht8⟩
        · omega
        have hrd : Rd zz.w (some ⟨g, 0, none⟩) ((rout m l j).flatMap Kn.c) := Rd.own HOZ.out
        obtain ⟨lk, hlk⟩ : ∃ k, (kn (rout m l j) p).k = k := ⟨_, rfl⟩
        have r0 : zz.w.cell? ⟨g, p * 5, none⟩ = some (.int .i64 lk) := kn_cell (after_rd hrd) (j := p) (by rw [HNJ.out]; omega) 0 (by decide) (by rw [← hlk]; rfl) (by omega) (After.here zz.w)
        have HLK := hid hlk
        have n1 : (0 : Int) < (p : Int) + 1 := by omega
        have n2 : IntKind.i64.wrap (p : Int) = (p : Int) := IntWalk.i64_in _ (by omega)
        have n3 : (p : Int) < (p : Int) + 1 := by omega
        have n4 : (p : Int) ≤ (cap : Int) := by omega
        have n5 : p ≤ cap := by omega
        have hcut := hid (own_cut HOZ.out)
        clear HOZ2 hh hm8 hs8 ht8 hrd hlk
        rcases hq : (lk == S) with _ | _
        · have hrn := hid (show rout m l (j + 1) = rout m l j ++ [mv m (kn l j)] by rw [rout, if_neg (fun h => by have h2 := h.2; rw [HNJ.out, Nat.add_sub_cancel, HLK.out, Hx.out, HS.out] at h2; simp [h2] at hq)])
          go_wp2_with (at_builtin; refine wpList_append_rd _ rfl (.tmp 65) (.tmp 67) 36 rfl V.heap.size 71 i0 (.agg #[.int .i64 0, .int .i64 0, .int .i64 0, .int .i64 0, .int .i64 0]) 5 40 und36 hi hz0 hz1 hz2 rfl (by decide) _ _ _ rfl (own_after HOZ.out (b_alloc (Below.refl _ _) _)) (some ⟨zz.w.heap.size, 0, none⟩) 1 1 (mv m (kn l j)).c rfl rfl (rd_new _ _ _ (by rw [Hx.out, mv, HS.out]; rfl)) (mv m (kn l j)).one (by unfold maxLen; omega) (by omega) (by have := zz.w_below.size; simp; omega) ?_; intro v' w1 hown' hgrow)
          have HO1 := hid hown'
          obtain ⟨z1, rfl⟩ : ∃ y9 : After V, w1 = y9.w := ⟨After.to (Below.trans (b_alloc zz.w_below _) (own_below (own_after HOZ.out (b_alloc (Below.refl _ _) _)) hgrow (by have := zz.w_below.size; simp; omega))), rfl⟩
          clear hown' hgrow
          clear r0 n1 n2 n3 n4 n5
          go_roundw
          case rel => exact ⟨j + 1, z1, by omega, by go_num, rfl, hid (by rw [hrn.out, List.length_append, HNJ.out, List.flatMap_append, List.flatMap_cons, List.flatMap_nil, List.append_nil]; exact HO1.out), HE1⟩
          case measure => first | (simp [intOf]; done) | (simp [intOf]; omega)
        · have hrn := hid (show rout m l (j + 1) = (rout m l j).take p ++ [mv m (kn l j)] by rw [rout, if_pos ⟨by rw [HNJ.out]; omega, by rw [HNJ.out, Nat.add_sub_cancel, HLK.out, Hx.out, HS.out]; simpa using hq⟩, HNJ.out, Nat.add_sub_cancel])
          go_wp2_with (at_builtin; refine wpList_append_rd _ rfl (.tmp 65) (.tmp 67) 36 rfl V.heap.size 71 i0 (.agg #[.int .i64 0, .int .i64 0, .int .i64 0, .int .i64 0, .int .i64 0]) 5 40 und36 hi hz0 hz1 hz2 rfl (by decide) _ _ _ rfl (own_after hcut.out (b_alloc (Below.refl _ _) _)) (some ⟨zz.w.heap.size, 0, none⟩) 1 1 (mv m (kn l j)).c rfl rfl (rd_new _ _ _ (by rw [Hx.out, mv, HS.out]; rfl)) (mv m (kn l j)).one (by unfold maxLen; omega) (by omega) (by have := zz.w_below.size; simp; omega) ?_; intro v' w1 hown' hgrow)
          have HO1 := hid hown'
          obtain ⟨z1, rfl⟩ : ∃ y9 : After V, w1 = y9.w := ⟨After.to (Below.trans (b_alloc zz.w_below _) (own_below (own_after hcut.out (b_alloc (Below.refl _ _) _)) hgrow (by have := zz.w_below.size; simp; omega))), rfl⟩
          clear hown' hgrow
          clear r0 n1 n2 n3 n4 n5
          go_roundw
          case rel => exact ⟨j + 1, z1, by omega, by go_num, rfl, hid (by rw [hrn.out, List.length_append, List.length_take, HNJ.out, Nat.min_eq_left (by omega), List.flatMap_append, List.flatMap_cons, List.flatMap_nil, List.append_nil, ← flat_takek Kn.c 5 Kn.c5]; exact HO1.out), HE1⟩
          case measure => first | (simp [intOf]; done) | (simp [intOf]; omega)
    · have e1 : decide (j < nn) = false := decide_eq_false hlt
      obtain rfl : j = nn := by omega
      have HE0 := hid (show rsE m l l.length = 0 by rw [HN.out]; exact hes.out)
      have hro := rout_all m l
      rw [HN.out] at hro
      have hown2 := hown.out
      rw [hro] at hown2
      have hlr := resL_len m l
      rw [HN.out] at hlr
      obtain ⟨n8, hn8⟩ : ∃ n, (resL m l).length = n := ⟨_, rfl⟩
      rw [hn8] at hown2 hlr
      obtain ⟨a8, c8, rfl, hc8, hz8, hR8, -⟩ := own_slice hown2
      have HR8 := hid hR8; have HN8 := hid hn8; have HC8 := hid hc8
      have hb8 : n8 ≤ 9223372036854775807 := by omega
      clear hown2 hn8 hR8 hz8 hc8 hro
      go_wp2_with fail
      refine (rkcheck_any (resL m l) n8 HN8.out a8 c8 z.w hb8 HR8.out).mono ?_
      rintro e w7 ⟨rfl, hB7⟩
      have HB7 := hid (b_then (b_then hwV z.w_below) hB7); have HR7 := hid (HR8.out.below hB7)
      clear hB7
      by_cases hck : chkK (resL m l) = 0
      · rw [hck]
        have HE := hid (show resE m l = 0 by rw [resE_last HT.out HV.out HE0.out]; exact hck)
        clear hck
        go_wp2_with fail
        exact bodyPost_ret (v := .tuple #[.slice a8 n8 c8, .int .i64 0]) (by simp [results, Try.results56, go_sem]) rfl ⟨_, by rw [HE.out], by rw [resV_ok HE.out]; exact ⟨a8, c8, by rw [HN8.out], HR7.out, by rw [HN8.out]; exact HC8.out⟩, HB7.out⟩
      · have hk := chkK_no (fun h => hck (chkK_ok h))
        rw [hk]
        have HE := hid (show resE m l = 110 by rw [resE_last HT.out HV.out HE0.out]; exact hk)
        clear hck hk
        go_wp2_with fail
        exact bodyPost_ret (v := .tuple #[.slice none 0 0, .int .i64 110]) (by simp [results, Try.results56, go_sem]) rfl ⟨_, by rw [HE.out], by rw [resV_no (by rw [HE.out]; first | decide | assumption)]; exact KsIs.nil _, HB7.out⟩
end Go.Proofs.Ytbppajenihjfhaa
