/- Contracts of the leaves of package rational and of its reference. -/
import Derived.Test.YtfcibldknamekaaProg
import Derived.WalkKit
import Derived.WalkLawsBesides
import Derived.WalkSpells
import Derived.Deep.QuietTactic
import Derived.BigQuiet
import Derived.Lib.Hide
namespace Go.Proofs.Ytfcibldknamekaa
open Go.RowKit
open Go.Lib (hid)

theorem gcd_step (k n : Int) : Int.gcd n (k % n) = Int.gcd k n := by
  have h : k % n + n * (k / n) = k := Int.emod_add_mul_ediv k n
  rw [Int.gcd_comm n (k % n)]
  have h2 := Int.gcd_add_mul_left_left n (k % n) (k / n)
  rw [h] at h2
  exact h2.symm

theorem gcd_zero' (k : Int) (h : 0 ≤ k) : (Int.gcd k 0 : Int) = k := by simp; omega

/-- The greatest common divisor of the first i of two numbers. -/
def part (n d : Int) : Nat → Int
  | 0 => 0
  | 1 => Int.gcd n 0
  | _ => Int.gcd n d

def elt (n d : Int) (i : Nat) : Int := if i = 0 then n else d

theorem part_nonneg (n d : Int) (i : Nat) : 0 ≤ part n d i := by unfold part; split <;> omega

theorem part_step (n d : Int) (i : Nat) (h : i < 2) : ((Int.gcd (part n d i) (elt n d i).natAbs : Nat) : Int) = part n d (i + 1) := by
  match i, h with
  | 0, _ => simp [part, elt]
  | 1, _ => simp [part, elt, Int.gcd]

theorem part_le (n d : Int) (i : Nat) (h0 : -9223372036854775807 ≤ n ∧ n ≤ 9223372036854775807) (h1 : -9223372036854775807 ≤ d ∧ d ≤ 9223372036854775807) : part n d i ≤ 9223372036854775807 := by
  unfold part
  split
  · omega
  · simp; omega
  · by_cases hz : n = 0
    · subst hz; simp; omega
    · have := Int.gcd_le_natAbs_left d hz
      omega

set_option maxHeartbeats 400000 in
/-- divisor of two numbers: their greatest common divisor. -/
theorem divisor_any (b : Nat) (n d : Int) (w : World) (h0 : -9223372036854775807 ≤ n ∧ n ≤ 9223372036854775807) (h1 : -9223372036854775807 ≤ d ∧ d ≤ 9223372036854775807)
    (hc0 : w.cell? ⟨b, 0, none⟩ = some (.int .i64 n)) (hc1 : w.cell? ⟨b, 1, none⟩ = some (.int .i64 d)) :
    Calls Try.prog 28 #[.slice (some ⟨b, 0, none⟩) 2 2] w fun e w' => e = .returned (.int .i64 (Int.gcd n d)) ∧ ∃ m, w' = w.drewN m := by
  go_enter Try.func28, Try.ntmps28
  go_wp2
  have E : Hid (∀ i : Nat, i < 2 → w.cell? ⟨b, i, none⟩ = some (.int .i64 (elt n d i))) := fun i hi => by
    match i, hi with
    | 0, _ => exact hc0
    | 1, _ => exact hc1
  clear hc0 hc1
  go_loopw [3, 8] (fun k i wr => ∃ j m : Nat, j ≤ 2 ∧ i = .int .i64 j ∧ k = .int .i64 (part n d j) ∧ wr = w.drewN m) (fun _ i _ => 2 - (intOf i).toNat)
  case atStart => exact ⟨0, 0, by omega, rfl, rfl, rfl⟩
  case round =>
    obtain ⟨j, m, hj, rfl, rfl, rfl⟩ := hrel
    by_cases hlt : j < 2
    · have hc := E.out j hlt
      have hb : -9223372036854775807 ≤ elt n d j ∧ elt n d j ≤ 9223372036854775807 := by unfold elt; split <;> assumption
      have hps := hid (part_step n d j hlt)
      have hpn := part_nonneg n d j
      have hpl := part_le n d j h0 h1
      have hpl' := part_le n d (j + 1) h0 h1
      generalize elt n d j = x at hc hb hps
      generalize hG : part n d (j + 1) = G at hps hpl'
      have HG := hid hG
      clear hG
      generalize part n d j = k0 at hps hpn hpl ⊢
      go_wp2
      all_goals
        go_loopw [3, 5] (fun k z wr => ∃ (p q : Int) (m : Nat), 0 ≤ p ∧ p ≤ 9223372036854775807 ∧ 0 ≤ q ∧ q ≤ 9223372036854775807 ∧ k = .int .i64 p ∧ z = .int .i64 q ∧ Hid ((Int.gcd p q : Int) = G) ∧ wr = w.drewN m) (fun _ z _ => (intOf z).toNat)
        case atStart =>
          refine ⟨_, _, m, ?_, ?_, ?_, ?_, rfl, rfl, ?_, rfl⟩
          all_goals first | omega | (have hp' := hps.out; clear hps; simp only [Int.gcd, Int.natAbs_natCast, Int.natAbs_neg] at hp' ⊢; exact hp')
        case round =>
          obtain ⟨p, q, m, hp0, hp1, hq0, hq1, rfl, rfl, hG, rfl⟩ := hrel
          by_cases hlt : 0 < q
          · have hmod := Int.emod_lt_of_pos p hlt
            have hmod0 := Int.emod_nonneg p (show q ≠ 0 by omega)
            go_wp2
            go_quiet (fail)
            go_wp2
            go_roundw
            case rel => exact ⟨q, p % q, _, by omega, by omega, by omega, by omega, rfl, rfl, by have := hG.out; rw [← gcd_step] at this; exact this, by simp; rfl⟩
            case measure => simp [intOf]; omega
          · obtain rfl : q = 0 := by omega
            have hpG : Hid (p = G) := by have := hG.out; rw [gcd_zero' p hp0] at this; exact this
            go_wp2
            go_roundw
            case rel => exact ⟨j + 1, m, by omega, by go_num, by rw [HG.out, hpG.out], rfl⟩
            case measure => simp [intOf]; omega
    · obtain rfl : j = 2 := by omega
      go_wp2
      go_ret
      exact ⟨rfl, _, rfl⟩
end Go.Proofs.Ytfcibldknamekaa
