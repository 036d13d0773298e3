/- Contracts over package rational: the deferred function, Check, need. -/
import Derived.Test.YtfcibldknamekaaB
namespace Go.Proofs.Ytfcibldknamekaa
open Go.RowKit
open Go.Lib (hid)

theorem caught_panicking (r e : Nat) (a b c : Value) (u : TypeId) (pv : Value) (older : List PanicEntry) (w : World) (hr0 : w.cell? ⟨r, 0, none⟩ = some a) (hr1 : w.cell? ⟨r, 1, none⟩ = some b) (he : w.cell? ⟨e, 0, none⟩ = some c)
    (fr0 : w.frozen? ⟨r, 0, none⟩ = false) (fr1 : w.frozen? ⟨r, 1, none⟩ = false) (fe : w.frozen? ⟨e, 0, none⟩ = false) (hne : r ≠ e) :
    CallsD Try.prog 25 #[.pointer (some ⟨r, 0, none⟩), .pointer (some ⟨e, 0, none⟩)] (.panicking ({ v := .iface u pv, recovered := false } :: older)) w fun x u' w' =>
      x = .returned (.tuple #[]) ∧ u' = .panicking ({ v := .iface u pv, recovered := true } :: older) ∧ ((w.setCell ⟨r, 0, none⟩ (.int .i64 0)).setCell ⟨r, 1, none⟩ (.int .i64 0)).setCell ⟨e, 0, none⟩ (.int .i64 70) = w' := by
  refine callsD_of_wpS Try.func25 rfl fun c₀ cs hu => ?_
  apply wpS_seq
  apply wpS_region
  simp [wpOpsS, go_sem, recoverD, hu, Try.ntmps25, Exit.thenS]
  refine wpS_of_wp ?_
  go_wp2
  exact ⟨rfl, _, rfl, _, results_none rfl _ _ _, rfl, rfl, rfl⟩

theorem caught_idle (r e : Nat) (w : World) :
    CallsD Try.prog 25 #[.pointer (some ⟨r, 0, none⟩), .pointer (some ⟨e, 0, none⟩)] .returning w fun x u' w' => x = .returned (.tuple #[]) ∧ u' = .returning ∧ w = w' := by
  refine callsD_of_wpS Try.func25 rfl fun c₀ cs hu => ?_
  apply wpS_seq
  apply wpS_region
  simp [wpOpsS, go_sem, recoverD, hu, Try.ntmps25, Exit.thenS]
  refine wpS_of_wp ?_
  go_wp2
  refine ⟨rfl, .returning, ?_, _, results_none rfl _ _ _, rfl, rfl, rfl⟩
  cases c₀
  simp_all

/-- What Check answers. -/
def chk (N D : Int) : Int := if Vld N D then 0 else 70

theorem chk_ok {N D : Int} (h : Vld N D) : chk N D = 0 := if_pos h
theorem chk_no {N D : Int} (h : ¬ Vld N D) : chk N D = 70 := if_neg h

set_option maxHeartbeats 400000 in
theorem Check_any (N D : Int) (w : World) : Calls Try.prog 13 #[.agg #[.int .i64 N, .int .i64 D]] w fun e w' => e = .returned (.int .i64 (chk N D)) ∧ Below w.heap.size w w' := by
  by_cases c1 : 1 ≤ D
  · by_cases c2 : D ≤ 2147483647
    · by_cases c3 : -2147483647 ≤ N
      · by_cases c4 : N ≤ 2147483647
        · by_cases c5 : (Int.gcd N D : Int) = 1
          · have hv := hid (chk_ok (N := N) (D := D) ⟨c1, c2, c3, c4, c5⟩)
            have C5 := hid c5; clear c5
            go_enter Try.func13, Try.ntmps13
            go_wp2_with fail
            refine (divisor_any _ N D _ (by omega) (by omega) (by simp [go_sem]) (by simp [go_sem])).mono ?_
            rintro e w1 ⟨rfl, m, rfl⟩
            rw [C5.out]
            go_wp2_with fail
            go_ret
            exact ⟨by rw [hv.out]; rfl, (by repeat (first | exact Below.refl _ _ | assumption | refine Below.setCell ?_ (by simp) _ | refine below_drewN ?_ _ | refine Below.drew ?_ | refine Below.alloc ?_ (by simp) _))⟩
          · have hv := hid (chk_no (N := N) (D := D) (fun h => c5 h.2.2.2.2))
            generalize hG : (Int.gcd N D : Int) = G at c5
            have HG := hid hG; clear hG
            have hb : (G != 1) = true := bne_iff_ne.2 c5
            clear c5
            go_enter Try.func13, Try.ntmps13
            go_wp2_with fail
            refine (divisor_any _ N D _ (by omega) (by omega) (by simp [go_sem]) (by simp [go_sem])).mono ?_
            rintro e w1 ⟨rfl, m, rfl⟩
            rw [HG.out]
            go_wp2_with fail
            go_ret
            exact ⟨by rw [hv.out]; rfl, (by repeat (first | exact Below.refl _ _ | assumption | refine Below.setCell ?_ (by simp) _ | refine below_drewN ?_ _ | refine Below.drew ?_ | refine Below.alloc ?_ (by simp) _))⟩
        · have hv := hid (chk_no (N := N) (D := D) (fun h => c4 h.2.2.2.1))
          go_enter Try.func13, Try.ntmps13
          go_wp2_with fail
          go_ret
          exact ⟨by rw [hv.out]; rfl, (by repeat (first | exact Below.refl _ _ | assumption | refine Below.setCell ?_ (by simp) _ | refine below_drewN ?_ _ | refine Below.drew ?_ | refine Below.alloc ?_ (by simp) _))⟩
      · have hv := hid (chk_no (N := N) (D := D) (fun h => c3 h.2.2.1))
        go_enter Try.func13, Try.ntmps13
        go_wp2_with fail
        go_ret
        exact ⟨by rw [hv.out]; rfl, (by repeat (first | exact Below.refl _ _ | assumption | refine Below.setCell ?_ (by simp) _ | refine below_drewN ?_ _ | refine Below.drew ?_ | refine Below.alloc ?_ (by simp) _))⟩
    · have hv := hid (chk_no (N := N) (D := D) (fun h => c2 h.2.1))
      go_enter Try.func13, Try.ntmps13
      go_wp2_with fail
      go_ret
      exact ⟨by rw [hv.out]; rfl, (by repeat (first | exact Below.refl _ _ | assumption | refine Below.setCell ?_ (by simp) _ | refine below_drewN ?_ _ | refine Below.drew ?_ | refine Below.alloc ?_ (by simp) _))⟩
  · have hv := hid (chk_no (N := N) (D := D) (fun h => c1 h.1))
    go_enter Try.func13, Try.ntmps13
    go_wp2_with fail
    go_ret
    exact ⟨by rw [hv.out]; rfl, (by repeat (first | exact Below.refl _ _ | assumption | refine Below.setCell ?_ (by simp) _ | refine below_drewN ?_ _ | refine Below.drew ?_ | refine Below.alloc ?_ (by simp) _))⟩

end Go.Proofs.Ytfcibldknamekaa
