/- tempo.Check. -/
import Derived.Test.YtbppajenihjfhaaB
namespace Go.Proofs.Ytbppajenihjfhaa
open Go.RowKit
open Go.Lib (hid)

def TL (m : List Tp) (n : Nat) (w : World) (i : Value) (wr : World) : Prop := ∃ (j : Nat) (z : After w), j ≤ n ∧ i = .int .i64 j ∧ wr = z.w ∧ Hid (Pre m j)

set_option maxRecDepth 100000 in
set_option maxHeartbeats 4000000 in
theorem tcheck_any (m : List Tp) (nn : Nat) (hnn : m.length = nn) (a : Option Addr) (c : Nat) (w : World) (hn : nn ≤ 9223372036854775807) (hr : Rd w a (m.flatMap Tp.c)) :
    Calls Try.prog 39 #[.slice a nn c] w fun e w' => e = .returned (.int .i64 (chkT m)) ∧ Below w.heap.size w w' := by
  have HR := hid hr; clear hr
  have HN := hid hnn; clear hnn
  go_enter Try.func39, Try.ntmps39
  rcases Nat.eq_zero_or_pos nn with rfl | hpos
  · go_wp2_with fail
    exact bodyPost_ret (v := .int .i64 90) (by simp [results, Try.results39, go_sem]) rfl ⟨by rw [chkT_90 (fun h => by have := ((good_iff m).1 h).1; rw [HN.out] at this; omega)], Below.refl _ _⟩
  obtain ⟨q, rfl⟩ : ∃ q, nn = q + 1 := ⟨nn - 1, by omega⟩
  have e0 : ((q : Int) + 1 == 0) = false := beq_eq_false_iff_ne.2 (by omega)
  rcases g1 : decide (64 < (q : Int) + 1) with _ | _
  case true =>
    go_wp2_with fail
    exact bodyPost_ret (v := .int .i64 90) (by simp [results, Try.results39, go_sem]) rfl ⟨by rw [chkT_90 (fun h => by have := ((good_iff m).1 h).2.1; rw [HN.out] at this; simp at g1; omega)], Below.refl _ _⟩
  obtain ⟨b, off, rfl, hb⟩ := HR.out.addr (by rw [flat_len Tp.c 4 Tp.c4, HN.out]; omega)
  have R0 := hid (after_rd HR.out)
  have ck : w.cell? ⟨b, off, none⟩ = some (.int .i64 (tp m 0).k) := tp_cell R0.out (j := 0) (by rw [HN.out]; omega) 0 (by decide) rfl (by omega) (After.here w)
  have cr : w.cell? ⟨b, off + q * 4 + 3, none⟩ = some (.bool (tp m q).r) := tp_cell R0.out (j := q) (by rw [HN.out]; omega) 3 (by decide) rfl (by omega) (After.here w)
  obtain ⟨k0, hk0⟩ : ∃ x, (tp m 0).k = x := ⟨_, rfl⟩
  obtain ⟨rq, hrq⟩ : ∃ x, (tp m q).r = x := ⟨_, rfl⟩
  rw [hk0] at ck
  rw [hrq] at cr
  have HK0 := hid hk0; have HRQ := hid hrq; clear hk0 hrq
  rcases g2 : (k0 != 0) with _ | _
  case true =>
    go_wp2_with fail
    exact bodyPost_ret (v := .int .i64 90) (by simp [results, Try.results39, go_sem]) rfl ⟨by rw [chkT_90 (fun h => by have := ((good_iff m).1 h).2.2.2.1; rw [HK0.out] at this; simp [this] at g2)], Below.refl _ _⟩
  cases rq
  case true =>
    go_wp2_with fail
    exact bodyPost_ret (v := .int .i64 90) (by simp [results, Try.results39, go_sem]) rfl ⟨by rw [chkT_90 (fun h => by have := ((good_iff m).1 h).2.2.1; rw [HN.out, Nat.add_sub_cancel, HRQ.out] at this; cases this)], Below.refl _ _⟩
  have HP0 := hid (show Pre m 0 from ⟨by rw [HK0.out]; simpa using g2, fun i h => absurd h (by omega)⟩)
  go_wp2_with fail
  have h64 : q < 64 := by simp at g1; omega
  clear g1 g2 e0 ck cr
  go_loopw [31] (fun i wr => TL m (q + 1) w i wr) (fun i _ => q + 1 - (intOf i).toNat)
  case atStart => exact ⟨0, After.here w, by omega, rfl, rfl, HP0⟩
  case round =>
    obtain ⟨j, z, hj, rfl, rfl, hp⟩ := hrel
    by_cases hlt' : j < q + 1
    case neg =>
      have d1 : decide ((j : Int) < (q : Int) + 1) = false := decide_eq_false (by omega)
      go_wp2_with fail
      exact bodyPost_ret (v := .int .i64 0) (by simp [results, Try.results39, go_sem]) rfl ⟨by rw [chkT_ok ((good_iff m).2 ⟨by rw [HN.out]; omega, by rw [HN.out]; omega, by rw [HN.out, Nat.add_sub_cancel]; exact HRQ.out, by rw [HN.out, show q + 1 = j by omega]; exact hp.out⟩)], z.2⟩
    have hlt : j < m.length := by rw [HN.out]; exact hlt'
    have d1 : decide ((j : Int) < (q : Int) + 1) = true := decide_eq_true (by omega)
    have RQ := hid (fun v : After z.w => HR.out.below (b_then z.2 v.2))
    obtain ⟨⟨k, n, d, r⟩, ht⟩ : ∃ t, tp m j = t := ⟨_, rfl⟩
    have c0 : z.w.cell? ⟨b, off + j * 4, none⟩ = some (.int .i64 k) := tp_cell RQ.out (j := j) hlt 0 (by decide) (by rw [ht]; rfl) rfl (After.here z.w)
    have c1 : z.w.cell? ⟨b, off + j * 4 + 1, none⟩ = some (.int .i64 n) := tp_cell RQ.out (j := j) hlt 1 (by decide) (by rw [ht]; rfl) (by omega) (After.here z.w)
    have c2 : z.w.cell? ⟨b, off + j * 4 + 2, none⟩ = some (.int .i64 d) := tp_cell RQ.out (j := j) hlt 2 (by decide) (by rw [ht]; rfl) (by omega) (After.here z.w)
    have c3 : z.w.cell? ⟨b, off + j * 4 + 3, none⟩ = some (.bool r) := tp_cell RQ.out (j := j) hlt 3 (by decide) (by rw [ht]; rfl) (by omega) (After.here z.w)
    have HT := hid ht; clear ht
    rcases h1 : decide (16777216 < k) with _ | _
    · skip
      rcases h2 : decide (n < 1) with _ | _
      · skip
        rcases h3 : decide (1048576 < n) with _ | _
        · skip
          rcases h4 : decide (d < 1) with _ | _
          · skip
            rcases h5 : decide (256 < d) with _ | _
            · skip
              have HP := hid (show ptOk (tp m j) = true by rw [HT.out]; simp [ptOk, h1, h2, h3, h4, h5])
              go_upto_region 8 with fail
              obtain ⟨V, hV⟩ : ∃ V, V = z.w.alloc (.cells #[.int .i64 k, .int .i64 n, .int .i64 d, .bool r] 53) := ⟨_, rfl⟩
              have hBV : Below w.heap.size w V := by rw [hV]; exact b_alloc z.2 _
              have x0 : ∀ v : After V, v.w.cell? ⟨z.w.heap.size, 0, none⟩ = some (.int .i64 k) := new_cell hV rfl rfl
              rw [← hV]
              obtain ⟨u, hu⟩ : ∃ u : After V, u.w = V := ⟨After.here V, rfl⟩
              rw [← hu]
              clear hu hV h1 h2 h3 h4 h5
              rcases Nat.eq_zero_or_pos j with rfl | hpos
              · refine wp_region_since (by kernel_rfl) (by kernel_rfl) ?_
                repeat (go_big_quiet_step (fail))
                refine wpQuiet_nil ?_
                intro u7
                go_wp2_with fail
                go_roundw
                case rel => exact ⟨1, ⟨u7.w, b_then hBV u7.2⟩, by omega, by go_num, rfl, hid (hp.out.next HP.out (fun h => absurd h (by omega)))⟩
                case measure => simp [intOf]
              · obtain ⟨i, rfl⟩ : ∃ i, j = i + 1 := ⟨j - 1, by omega⟩
                have RQ := hid (fun v : After V => HR.out.below (b_then hBV v.2))
                obtain ⟨⟨pk, pn, pd, pr⟩, hs⟩ : ∃ t, tp m i = t := ⟨_, rfl⟩
                have y0 : ∀ v : After V, v.w.cell? ⟨b, off + i * 4, none⟩ = some (.int .i64 pk) := tp_cell RQ.out (j := i) (by omega) 0 (by decide) (by rw [hs]; rfl) rfl
                have y3 : ∀ v : After V, v.w.cell? ⟨b, off + i * 4 + 3, none⟩ = some (.bool pr) := tp_cell RQ.out (j := i) (by omega) 3 (by decide) (by rw [hs]; rfl) (by omega)
                have hk0 := hp.out.nonneg i (by omega)
                rw [hs] at hk0
                have hk1 := ((ptOk_iff _).1 HP.out).1
                rw [HT.out] at hk1
                have HS := hid hs; clear hs
                have hk0 : 0 ≤ pk := hk0
                have hk1 : k ≤ 16777216 := hk1
                rcases g1 : decide (k ≤ pk) with _ | _
                · have g1' : pk < k := by simpa using g1
                  rcases pr with _ | _
                  · refine wp_region_since (by kernel_rfl) (by kernel_rfl) ?_
                    repeat (go_big_quiet_step (fail))
                    refine wpQuiet_nil ?_
                    intro u7
                    go_wp2_with fail
                    go_roundw
                    case rel => exact ⟨i + 1 + 1, ⟨u7.w, b_then hBV u7.2⟩, by omega, by go_num, rfl, hid (hp.out.next HP.out (fun _ => by rw [Nat.add_sub_cancel, HS.out, HT.out]; simp [stOk, g1]))⟩
                    case measure => simp [intOf]; omega
                  · rcases g2 : decide (65536 < k - pk) with _ | _
                    · refine wp_region_since (by kernel_rfl) (by kernel_rfl) ?_
                      repeat (go_big_quiet_step (fail))
                      refine wpQuiet_nil ?_
                      intro u7
                      go_wp2_with fail
                      go_roundw
                      case rel => exact ⟨i + 1 + 1, ⟨u7.w, b_then hBV u7.2⟩, by omega, by go_num, rfl, hid (hp.out.next HP.out (fun _ => by rw [Nat.add_sub_cancel, HS.out, HT.out]; simp [stOk, g1, g2]))⟩
                      case measure => simp [intOf]; omega
                    · refine wp_region_since (by kernel_rfl) (by kernel_rfl) ?_
                      repeat (go_big_quiet_step (fail))
                      refine wpQuiet_nil ?_
                      intro u7
                      go_wp2_with fail
                      exact bodyPost_ret (v := .int .i64 90) (by simp [results, Try.results39, go_sem]) rfl ⟨by rw [not_good_st hlt (by omega) (by rw [Nat.add_sub_cancel, HS.out, HT.out]; simp [stOk, g1, g2])], b_then hBV u7.2⟩
                · refine wp_region_since (by kernel_rfl) (by kernel_rfl) ?_
                  repeat (go_big_quiet_step (fail))
                  refine wpQuiet_nil ?_
                  intro u7
                  go_wp2_with fail
                  exact bodyPost_ret (v := .int .i64 90) (by simp [results, Try.results39, go_sem]) rfl ⟨by rw [not_good_st hlt (by omega) (by rw [Nat.add_sub_cancel, HS.out, HT.out]; simp [stOk, g1])], b_then hBV u7.2⟩
            · skip
              go_wp2_with fail
              exact bodyPost_ret (v := .int .i64 90) (by simp [results, Try.results39, go_sem]) rfl ⟨by rw [not_good_pt (by omega) (by rw [HT.out]; simp [ptOk, h1, h2, h3, h4, h5])], b_alloc z.2 _⟩
          · skip
            go_wp2_with fail
            exact bodyPost_ret (v := .int .i64 90) (by simp [results, Try.results39, go_sem]) rfl ⟨by rw [not_good_pt (by omega) (by rw [HT.out]; simp [ptOk, h1, h2, h3, h4])], b_alloc z.2 _⟩
        · skip
          go_wp2_with fail
          exact bodyPost_ret (v := .int .i64 90) (by simp [results, Try.results39, go_sem]) rfl ⟨by rw [not_good_pt (by omega) (by rw [HT.out]; simp [ptOk, h1, h2, h3])], b_alloc z.2 _⟩
      · skip
        go_wp2_with fail
        exact bodyPost_ret (v := .int .i64 90) (by simp [results, Try.results39, go_sem]) rfl ⟨by rw [not_good_pt (by omega) (by rw [HT.out]; simp [ptOk, h1, h2])], b_alloc z.2 _⟩
    · skip
      go_wp2_with fail
      exact bodyPost_ret (v := .int .i64 90) (by simp [results, Try.results39, go_sem]) rfl ⟨by rw [not_good_pt (by omega) (by rw [HT.out]; simp [ptOk, h1])], b_alloc z.2 _⟩
end Go.Proofs.Ytbppajenihjfhaa
