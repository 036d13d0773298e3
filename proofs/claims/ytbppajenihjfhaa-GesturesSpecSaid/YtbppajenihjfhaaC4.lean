/- curves.Check. -/
import Derived.Test.YtbppajenihjfhaaC3
import Derived.IntWalk
namespace Go.Proofs.Ytbppajenihjfhaa
open Go.RowKit
open Go.Lib (hid)

def KL (l : List Kn) (n : Nat) (V : World) (i : Value) (wr : World) : Prop := ∃ (j : Nat) (z : After V), j ≤ n ∧ i = .int .i64 j ∧ wr = z.w ∧ Hid (∀ i, i < j → i + 1 < l.length → segOk l i = true)

set_option maxRecDepth 100000 in
set_option maxHeartbeats 4000000 in
theorem kcheck_any (l : List Kn) (nn : Nat) (hnn : l.length = nn) (a : Option Addr) (c : Nat) (w : World) (hn : nn ≤ 9223372036854775807) (hr : Rd w a (l.flatMap Kn.c)) :
    Calls Try.prog 50 #[.slice a nn c] w fun e w' => e = .returned (.int .i64 (chkK l)) ∧ Below w.heap.size w w' := by
  have HR := hid (after_rd hr); clear hr
  have HN := hid hnn; clear hnn
  go_enter Try.func50, Try.ntmps50
  go_wp2_with fail
  refine (met0 (valid_any l nn HN.out a c 1099511627776 w hn (HR.out (After.here w)))).mono ?_
  rintro e _ ⟨rfl, u1, rfl⟩
  rcases hv : valB 1099511627776 l with _ | _
  · have hc := chkK_no (l := l) (fun h => by have := ((crvB_iff l).1 h).1; rw [hv] at this; cases this)
    have HC := hid hc; clear hc hv
    go_wp2_with fail
    exact bodyPost_ret (v := .int .i64 110) (by simp [results, Try.results50, go_sem]) rfl ⟨by rw [HC.out], u1.2⟩
  have HV := hid hv; clear hv
  go_wp2_with fail
  have hl1024 := len_K HV.out
  rw [HN.out] at hl1024
  go_loopw [9] (fun i wr => KL l nn w i wr) (fun i _ => nn - (intOf i).toNat)
  case atStart => exact ⟨0, u1, by omega, rfl, rfl, hid (fun i hi => absurd hi (by omega))⟩
  case round =>
    obtain ⟨j, z, hj, rfl, rfl, hp⟩ := hrel
    by_cases hlt' : j < nn
    case neg =>
      have d1 : decide ((j : Int) < (nn : Int)) = false := decide_eq_false (by omega)
      have d1' : decide (j < nn) = false := decide_eq_false (by omega)
      go_wp2_with fail
      exact bodyPost_ret (v := .int .i64 0) (by simp [results, Try.results50, go_sem]) rfl ⟨by rw [chkK_ok ((crvB_iff l).2 ⟨HV.out, fun i hi => hp.out i (by rw [HN.out] at hi; omega) hi⟩)], z.2⟩
    have hlt : j < l.length := by rw [HN.out]; exact hlt'
    have d1 : decide ((j : Int) < (nn : Int)) = true := decide_eq_true (by omega)
    have d1' : decide (j < nn) = true := decide_eq_true (by omega)
    have hjj : (j : Int) < (nn : Int) := by omega
    obtain ⟨b, off, rfl, hb⟩ := (HR.out z).addr (by rw [flat_len Kn.c 5 Kn.c5]; omega)
    have bx := kn_at HV.out hlt
    obtain ⟨⟨xk, xv, xs, xa, xb⟩, hx⟩ : ∃ t, kn l j = t := ⟨_, rfl⟩
    have x0 : ∀ v : After w, v.w.cell? ⟨b, off + j * 5, none⟩ = some (.int .i64 xk) := kn_cell HR.out (j := j) (hlt) 0 (by decide) (by rw [hx]; rfl) rfl
    have x2 : ∀ v : After w, v.w.cell? ⟨b, off + j * 5 + 2, none⟩ = some (.int .i64 xs) := kn_cell HR.out (j := j) (hlt) 2 (by decide) (by rw [hx]; rfl) (by omega)
    rw [hx] at bx; dsimp only at bx
    have Hx := hid hx; clear hx
    have w1 : IntKind.i64.wrap ((j : Int) + 1) = (j : Int) + 1 := IntWalk.i64_in _ (by omega)
    go_wp2_with fail
    rcases hs : (xs != 1) with _ | _
    · have hsg := hid (show segOk l j = true by rw [segOk_iff]; intro h; rw [Hx.out] at h; exact absurd (by simpa using hs) h)
      refine wp_region_since (by kernel_rfl) (by kernel_rfl) ?_
      repeat (go_big_quiet_step (fail))
      refine wpQuiet_nil ?_
      intro u9
      go_wp2_with fail
      clear w1
      go_roundw
      case rel => exact ⟨j + 1, u9, by omega, by go_num, rfl, hid (fun i hi hl => by
        rcases Nat.lt_succ_iff_lt_or_eq.1 hi with h | rfl
        · exact hp.out i h hl
        · exact hsg.out)⟩
      case measure => first | (simp [intOf]; done) | (simp [intOf]; omega)
    · by_cases hm : j + 1 < nn
      · have d2 : decide ((j : Int) + 1 < (nn : Int)) = true := decide_eq_true (by omega)
        have d2' : decide (j + 1 < nn) = true := decide_eq_true hm
        have n1 : (0 : Int) ≤ (j : Int) + 1 := by omega
        have n2 : ((j : Int) + 1).toNat = j + 1 := by omega
        have n3 : (j : Int) + 1 < (nn : Int) := by omega
        have bq := kn_at HV.out (show j + 1 < l.length by rw [HN.out]; exact hm)
        obtain ⟨⟨qk, qv, qs, qa, qb⟩, hq⟩ : ∃ t, kn l (j + 1) = t := ⟨_, rfl⟩
        have q0 : ∀ v : After w, v.w.cell? ⟨b, off + (j + 1) * 5, none⟩ = some (.int .i64 qk) := kn_cell HR.out (j := (j + 1)) (by rw [HN.out]; exact hm) 0 (by decide) (by rw [hq]; rfl) rfl
        rw [hq] at bq; dsimp only at bq
        have Hq := hid hq; clear hq
        have w2 : IntKind.i64.wrap (qk - xk) = qk - xk := IntWalk.i64_in _ (by omega)
        rcases hd : decide (16777216 < qk - xk) with _ | _
        · have hsg := hid (show segOk l j = true by rw [segOk_iff]; intro _; rw [Hx.out, Hq.out]; simpa using hd)
          clear bx bq
          refine wp_region_since (by kernel_rfl) (by kernel_rfl) ?_
          repeat (go_big_quiet_step (fail))
          refine wpQuiet_nil ?_
          intro u9
          go_wp2_with fail
          clear w1 w2 n1 n2 n3
          go_roundw
          case rel => exact ⟨j + 1, u9, by omega, by go_num, rfl, hid (fun i hi hl => by
            rcases Nat.lt_succ_iff_lt_or_eq.1 hi with h | rfl
            · exact hp.out i h hl
            · exact hsg.out)⟩
          case measure => first | (simp [intOf]; done) | (simp [intOf]; omega)
        · have hc := chkK_no (l := l) (fun h => by
            have h1 := (segOk_iff l j).1 (((crvB_iff l).1 h).2 j (by rw [HN.out]; exact hm))
            rw [Hx.out, Hq.out] at h1
            have h2 := h1 (by simpa using hs)
            simp at hd h2
            omega)
          have HC := hid hc; clear hc bx bq
          refine wp_region_since (by kernel_rfl) (by kernel_rfl) ?_
          repeat (go_big_quiet_step (fail))
          refine wpQuiet_nil ?_
          intro u9
          go_wp2_with fail
          exact bodyPost_ret (v := .int .i64 110) (by simp [results, Try.results50, go_sem]) rfl ⟨by rw [HC.out], u9.2⟩
      · have d2 : decide ((j : Int) + 1 < (nn : Int)) = false := decide_eq_false (by omega)
        have d2' : decide (j + 1 < nn) = false := decide_eq_false hm
        clear bx
        refine wp_region_since (by kernel_rfl) (by kernel_rfl) ?_
        repeat (go_big_quiet_step (fail))
        refine wpQuiet_nil ?_
        intro u9
        go_wp2_with fail
        clear w1
        go_roundw
        case rel => exact ⟨j + 1, u9, by omega, by go_num, rfl, hid (fun i hi hl => by
          rcases Nat.lt_succ_iff_lt_or_eq.1 hi with h | rfl
          · exact hp.out i h hl
          · exact (absurd hl (by rw [HN.out]; exact hm)))⟩
        case measure => first | (simp [intOf]; done) | (simp [intOf]; omega)
end Go.Proofs.Ytbppajenihjfhaa
