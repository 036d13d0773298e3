/- The chapter's examples. -/
import Derived.Test.YtfcibldknamekaaJ
import Derived.Test.YtfcibldknamekaaQ
namespace Go.Proofs.Ytfcibldknamekaa
open Go.RowKit
open Go.Lib (hid)

/-- A number that lies in a block of its own. -/
def RatAt (W : World) (b : Nat) (N D : Int) : Prop := b < W.heap.size ∧ W.cell? ⟨b, 0, none⟩ = some (.int .i64 N) ∧ W.cell? ⟨b, 1, none⟩ = some (.int .i64 D)
theorem RatAt.below {W w' : World} {b : Nat} {N D : Int} (h : RatAt W b N D) (hb : Below W.heap.size W w') : RatAt w' b N D :=
  ⟨Nat.lt_of_lt_of_le h.1 hb.size, (hb.cell (p := ⟨b, 0, none⟩) h.1).trans h.2.1, (hb.cell (p := ⟨b, 1, none⟩) h.1).trans h.2.2⟩
theorem RatAt.alloc {W : World} {b : Nat} {N D : Int} (h : RatAt W b N D) (o : Obj) : RatAt (W.alloc o) b N D :=
  h.below ((Below.refl _ _).alloc (Nat.le_refl _) o)
theorem RatAt.new (W : World) (N D : Int) (t : TypeId) : RatAt (W.alloc (.cells #[.int .i64 N, .int .i64 D] t)) W.heap.size N D :=
  ⟨by simp, by simp [go_sem], by simp [go_sem]⟩

theorem k1 : makeR 6 (-4) = (-3, 2, 0) := by decide +kernel
theorem k2 : makeR 1 0 = (0, 0, 1) := by decide +kernel
theorem k3 : makeR 0 (-7) = (0, 1, 0) := by decide +kernel
theorem k4 : makeR 1 2147483648 = (0, 0, 70) := by decide +kernel
theorem k5 : makeR 2147483648 2 = (1073741824, 1, 0) := by decide +kernel
theorem k6 : calR 1 2 1 3 (Rat.divInt (1 * 3 + 1 * 2) (2 * 3)) = (5, 6, 0) := by decide +kernel
theorem k7 : invR (-3) 2 = (-2, 3, 0) := by decide +kernel
theorem k8 : invR 0 1 = (0, 0, 1) := by decide +kernel
theorem k9 : floorR (-3) 2 = (-2, 0) := by decide +kernel
theorem k10 : lessR (-3) 2 0 1 = (true, 0) := by decide +kernel
theorem k11 : chk 2 4 = 70 := by decide +kernel
theorem k12 : chk (-3) 2 = 0 := by decide +kernel

set_option maxHeartbeats 4000000 in
set_option maxRecDepth 100000 in
/-- The chapter's examples hold. -/
theorem sane_any (w : World) : Calls Try.prog 10 #[] w fun e w' => e = .returned (.bool true) ∧ Below w.heap.size w w' := by
  go_enter Try.func10, Try.ntmps10
  go_wp2_with fail
  refine (Make_any _ _ _).mono ?_
  rintro e w1 ⟨rfl, hB1⟩
  rw [k1]; dsimp only [ratV]
  have g1 : Below w.heap.size w w1 := (by repeat (first | exact Below.refl _ _ | assumption | refine b_then ?_ (by assumption) | refine b_alloc ?_ _ | refine b_drewN ?_ _ | refine b_drew ?_ | refine b_set ?_ (by omega) _ | refine b_set ?_ (by simp) _))
  clear hB1
  have ra := RatAt.new w1 (-3) (2) 23
  go_wp2_with fail
  refine (Make_any _ _ _).mono ?_
  rintro e w2 ⟨rfl, hB2⟩
  rw [k2]; dsimp only [ratV]
  replace ra := ra.below hB2
  have g2 : Below w.heap.size w w2 := (by repeat (first | exact Below.refl _ _ | assumption | refine b_then ?_ (by assumption) | refine b_alloc ?_ _ | refine b_drewN ?_ _ | refine b_drew ?_ | refine b_set ?_ (by omega) _ | refine b_set ?_ (by simp) _))
  clear hB2 g1
  have r2 := RatAt.new w2 (0) (0) 23
  replace ra := ra.alloc (.cells #[.int .i64 (0), .int .i64 (0)] 23)
  go_wp2_with fail
  refine (Make_any _ _ _).mono ?_
  rintro e w3 ⟨rfl, hB3⟩
  rw [k3]; dsimp only [ratV]
  replace ra := ra.below hB3
  replace r2 := r2.below hB3
  have g3 : Below w.heap.size w w3 := (by repeat (first | exact Below.refl _ _ | assumption | refine b_then ?_ (by assumption) | refine b_alloc ?_ _ | refine b_drewN ?_ _ | refine b_drew ?_ | refine b_set ?_ (by omega) _ | refine b_set ?_ (by simp) _))
  clear hB3 g2
  have rz := RatAt.new w3 (0) (1) 23
  replace ra := ra.alloc (.cells #[.int .i64 (0), .int .i64 (1)] 23)
  replace r2 := r2.alloc (.cells #[.int .i64 (0), .int .i64 (1)] 23)
  go_wp2_with fail
  refine (Make_any _ _ _).mono ?_
  rintro e w4 ⟨rfl, hB4⟩
  rw [k4]; dsimp only [ratV]
  replace ra := ra.below hB4
  replace r2 := r2.below hB4
  replace rz := rz.below hB4
  have g4 : Below w.heap.size w w4 := (by repeat (first | exact Below.refl _ _ | assumption | refine b_then ?_ (by assumption) | refine b_alloc ?_ _ | refine b_drewN ?_ _ | refine b_drew ?_ | refine b_set ?_ (by omega) _ | refine b_set ?_ (by simp) _))
  clear hB4 g3
  have r4 := RatAt.new w4 (0) (0) 23
  replace ra := ra.alloc (.cells #[.int .i64 (0), .int .i64 (0)] 23)
  replace r2 := r2.alloc (.cells #[.int .i64 (0), .int .i64 (0)] 23)
  replace rz := rz.alloc (.cells #[.int .i64 (0), .int .i64 (0)] 23)
  go_wp2_with fail
  refine (Make_any _ _ _).mono ?_
  rintro e w5 ⟨rfl, hB5⟩
  rw [k5]; dsimp only [ratV]
  replace ra := ra.below hB5
  replace r2 := r2.below hB5
  replace rz := rz.below hB5
  replace r4 := r4.below hB5
  have g5 : Below w.heap.size w w5 := (by repeat (first | exact Below.refl _ _ | assumption | refine b_then ?_ (by assumption) | refine b_alloc ?_ _ | refine b_drewN ?_ _ | refine b_drew ?_ | refine b_set ?_ (by omega) _ | refine b_set ?_ (by simp) _))
  clear hB5 g4
  have rh := RatAt.new w5 (1073741824) (1) 23
  replace ra := ra.alloc (.cells #[.int .i64 (1073741824), .int .i64 (1)] 23)
  replace r2 := r2.alloc (.cells #[.int .i64 (1073741824), .int .i64 (1)] 23)
  replace rz := rz.alloc (.cells #[.int .i64 (1073741824), .int .i64 (1)] 23)
  replace r4 := r4.alloc (.cells #[.int .i64 (1073741824), .int .i64 (1)] 23)
  go_wp2_with fail
  refine (Add_any _ _ _ _ _).mono ?_
  rintro e w6 ⟨rfl, hB6⟩
  rw [k6]; dsimp only [ratV]
  replace ra := ra.below hB6
  replace r2 := r2.below hB6
  replace rz := rz.below hB6
  replace r4 := r4.below hB6
  replace rh := rh.below hB6
  have g6 : Below w.heap.size w w6 := (by repeat (first | exact Below.refl _ _ | assumption | refine b_then ?_ (by assumption) | refine b_alloc ?_ _ | refine b_drewN ?_ _ | refine b_drew ?_ | refine b_set ?_ (by omega) _ | refine b_set ?_ (by simp) _))
  clear hB6 g5
  have rs := RatAt.new w6 (5) (6) 23
  replace ra := ra.alloc (.cells #[.int .i64 (5), .int .i64 (6)] 23)
  replace r2 := r2.alloc (.cells #[.int .i64 (5), .int .i64 (6)] 23)
  replace rz := rz.alloc (.cells #[.int .i64 (5), .int .i64 (6)] 23)
  replace r4 := r4.alloc (.cells #[.int .i64 (5), .int .i64 (6)] 23)
  replace rh := rh.alloc (.cells #[.int .i64 (5), .int .i64 (6)] 23)
  have ral := ra.1
  have ra0 := ra.2.1
  have ra1 := ra.2.2
  go_wp2_with fail
  refine (Inverse_any _ _ _).mono ?_
  rintro e w7 ⟨rfl, hB7⟩
  rw [k7]; dsimp only [ratV]
  clear ral ra0 ra1
  replace ra := ra.below hB7
  replace r2 := r2.below hB7
  replace rz := rz.below hB7
  replace r4 := r4.below hB7
  replace rh := rh.below hB7
  replace rs := rs.below hB7
  have g7 : Below w.heap.size w w7 := (by repeat (first | exact Below.refl _ _ | assumption | refine b_then ?_ (by assumption) | refine b_alloc ?_ _ | refine b_drewN ?_ _ | refine b_drew ?_ | refine b_set ?_ (by omega) _ | refine b_set ?_ (by simp) _))
  clear hB7 g6
  have rb := RatAt.new w7 (-2) (3) 23
  replace ra := ra.alloc (.cells #[.int .i64 (-2), .int .i64 (3)] 23)
  replace r2 := r2.alloc (.cells #[.int .i64 (-2), .int .i64 (3)] 23)
  replace rz := rz.alloc (.cells #[.int .i64 (-2), .int .i64 (3)] 23)
  replace r4 := r4.alloc (.cells #[.int .i64 (-2), .int .i64 (3)] 23)
  replace rh := rh.alloc (.cells #[.int .i64 (-2), .int .i64 (3)] 23)
  replace rs := rs.alloc (.cells #[.int .i64 (-2), .int .i64 (3)] 23)
  have rzl := rz.1
  have rz0 := rz.2.1
  have rz1 := rz.2.2
  go_wp2_with fail
  refine (Inverse_any _ _ _).mono ?_
  rintro e w8 ⟨rfl, hB8⟩
  rw [k8]; dsimp only [ratV]
  clear rzl rz0 rz1
  replace ra := ra.below hB8
  replace r2 := r2.below hB8
  replace rz := rz.below hB8
  replace r4 := r4.below hB8
  replace rh := rh.below hB8
  replace rs := rs.below hB8
  replace rb := rb.below hB8
  have g8 : Below w.heap.size w w8 := (by repeat (first | exact Below.refl _ _ | assumption | refine b_then ?_ (by assumption) | refine b_alloc ?_ _ | refine b_drewN ?_ _ | refine b_drew ?_ | refine b_set ?_ (by omega) _ | refine b_set ?_ (by simp) _))
  clear hB8 g7
  have r8 := RatAt.new w8 (0) (0) 23
  replace ra := ra.alloc (.cells #[.int .i64 (0), .int .i64 (0)] 23)
  replace r2 := r2.alloc (.cells #[.int .i64 (0), .int .i64 (0)] 23)
  replace rz := rz.alloc (.cells #[.int .i64 (0), .int .i64 (0)] 23)
  replace r4 := r4.alloc (.cells #[.int .i64 (0), .int .i64 (0)] 23)
  replace rh := rh.alloc (.cells #[.int .i64 (0), .int .i64 (0)] 23)
  replace rs := rs.alloc (.cells #[.int .i64 (0), .int .i64 (0)] 23)
  replace rb := rb.alloc (.cells #[.int .i64 (0), .int .i64 (0)] 23)
  have ral := ra.1
  have ra0 := ra.2.1
  have ra1 := ra.2.2
  go_wp2_with fail
  refine (Floor_any _ _ _).mono ?_
  rintro e w9 ⟨rfl, hB9⟩
  rw [k9]; dsimp only []
  clear ral ra0 ra1
  replace ra := ra.below hB9
  replace r2 := r2.below hB9
  replace rz := rz.below hB9
  replace r4 := r4.below hB9
  replace rh := rh.below hB9
  replace rs := rs.below hB9
  replace rb := rb.below hB9
  replace r8 := r8.below hB9
  have g9 : Below w.heap.size w w9 := (by repeat (first | exact Below.refl _ _ | assumption | refine b_then ?_ (by assumption) | refine b_alloc ?_ _ | refine b_drewN ?_ _ | refine b_drew ?_ | refine b_set ?_ (by omega) _ | refine b_set ?_ (by simp) _))
  clear hB9 g8
  have ral := ra.1
  have ra0 := ra.2.1
  have ra1 := ra.2.2
  have rzl := rz.1
  have rz0 := rz.2.1
  have rz1 := rz.2.2
  go_wp2_with fail
  refine (Less_any _ _ _ _ _).mono ?_
  rintro e w10 ⟨rfl, hB10⟩
  rw [k10]; dsimp only []
  clear ral ra0 ra1
  clear rzl rz0 rz1
  replace ra := ra.below hB10
  replace r2 := r2.below hB10
  replace rz := rz.below hB10
  replace r4 := r4.below hB10
  replace rh := rh.below hB10
  replace rs := rs.below hB10
  replace rb := rb.below hB10
  replace r8 := r8.below hB10
  have g10 : Below w.heap.size w w10 := (by repeat (first | exact Below.refl _ _ | assumption | refine b_then ?_ (by assumption) | refine b_alloc ?_ _ | refine b_drewN ?_ _ | refine b_drew ?_ | refine b_set ?_ (by omega) _ | refine b_set ?_ (by simp) _))
  clear hB10 g9
  have ral := ra.1
  have ra0 := ra.2.1
  have ra1 := ra.2.2
  have r2l := r2.1
  have r20 := r2.2.1
  have r21 := r2.2.2
  have rzl := rz.1
  have rz0 := rz.2.1
  have rz1 := rz.2.2
  have r4l := r4.1
  have r40 := r4.2.1
  have r41 := r4.2.2
  have rhl := rh.1
  have rh0 := rh.2.1
  have rh1 := rh.2.2
  have rsl := rs.1
  have rs0 := rs.2.1
  have rs1 := rs.2.2
  have rbl := rb.1
  have rb0 := rb.2.1
  have rb1 := rb.2.2
  have r8l := r8.1
  have r80 := r8.2.1
  have r81 := r8.2.2
  clear r2 rz r4 rh rs rb r8
  go_wp2_with fail
  refine (Check_any _ _ _).mono ?_
  rintro e w11 ⟨rfl, hB11⟩
  rw [k11]
  clear ral ra0 ra1 r2l r20 r21 rzl rz0 rz1 r4l r40 r41 rhl rh0 rh1 rsl rs0 rs1 rbl rb0 rb1 r8l r80 r81
  replace ra := ra.below hB11
  have ral := ra.1
  have ra0 := ra.2.1
  have ra1 := ra.2.2
  have g11 : Below w.heap.size w w11 := (by repeat (first | exact Below.refl _ _ | assumption | refine b_then ?_ (by assumption) | refine b_alloc ?_ _ | refine b_drewN ?_ _ | refine b_drew ?_ | refine b_set ?_ (by omega) _ | refine b_set ?_ (by simp) _))
  clear hB11 g10 ra
  go_wp2_with fail
  refine (Check_any _ _ _).mono ?_
  rintro e w12 ⟨rfl, hB12⟩
  rw [k12]
  go_wp2_with fail
  go_ret
  exact ⟨by simp, (by repeat (first | exact Below.refl _ _ | assumption | refine b_then ?_ (by assumption) | refine b_alloc ?_ _ | refine b_drewN ?_ _ | refine b_drew ?_ | refine b_set ?_ (by omega) _ | refine b_set ?_ (by simp) _))⟩
end Go.Proofs.Ytfcibldknamekaa
