/- For all numbers: Less is a strict order of the valid ones; sums keep it, products with a positive number do. No condition. -/
import Derived.Test.YtfcibldknamekaaK
import Derived.Test.YtfcibldknamekaaP
import Derived.Test.YtfcibldknamekaaRows
import Derived.ProofKit
import Derived.OpenShut
import Derived.Lib.SmallJoins
import Derived.ChangeOld
import Derived.Deep.DeepCutAuto
namespace Go.Proofs.Ytfcibldknamekaa
open Go.RowKit
open Go.Lib (hid)

set_option maxHeartbeats 2000000 in
set_option maxRecDepth 100000 in
theorem ord_no (a1 a2 b1 b2 c1 c2 : Int) (y z v : Bool) (f g h i : Int) (hne : (f = 70 ∧ y = false) ∨ (f = 0 ∧ h = 70 ∧ v = false))
    (H1 : Hid (lessR a1 a2 b1 b2 = (y, f))) (H2 : Hid (lessR b1 b2 a1 a2 = (z, g))) (H3 : Hid (lessR b1 b2 c1 c2 = (v, h))) (x : Bool) (H4 : Hid (lessR a1 a2 c1 c2 = (x, i))) (w : World) :
    Calls Try.prog 9 #[.agg #[.int .i64 a1, .int .i64 a2], .agg #[.int .i64 b1, .int .i64 b2], .agg #[.int .i64 c1, .int .i64 c2]] w fun e w' => e = .returned (.bool true) ∧ Below w.heap.size w w' := by
  rcases hne with ⟨rfl, rfl⟩ | ⟨rfl, rfl, rfl⟩
  · go_enter Try.func9, Try.ntmps9
    have ra := ((RatAt.new w a1 a2 23).alloc (.cells #[.int .i64 b1, .int .i64 b2] 23)).alloc (.cells #[.int .i64 c1, .int .i64 c2] 23)
    have rb := (RatAt.new (w.alloc (.cells #[.int .i64 a1, .int .i64 a2] 23)) b1 b2 23).alloc (.cells #[.int .i64 c1, .int .i64 c2] 23)
    have rc := RatAt.new ((w.alloc (.cells #[.int .i64 a1, .int .i64 a2] 23)).alloc (.cells #[.int .i64 b1, .int .i64 b2] 23)) c1 c2 23
    rw [World.size_alloc] at rb
    rw [World.size_alloc, World.size_alloc] at rc
    go_wp2_with fail
    refine (sane_any _).mono ?_
    rintro e w1 ⟨rfl, hB1⟩
    dsimp only []
    replace ra := ra.below hB1
    replace rb := rb.below hB1
    replace rc := rc.below hB1
    have g1 : Below w.heap.size w w1 := (by repeat (first | exact Below.refl _ _ | assumption | refine b_then ?_ (by assumption) | refine b_alloc ?_ _ | refine b_drewN ?_ _ | refine b_drew ?_ | refine b_set ?_ (by omega) _ | refine b_set ?_ (by simp) _))
    clear hB1
    have ral := ra.1
    have ra0 := ra.2.1
    have ra1 := ra.2.2
    have rbl := rb.1
    have rb0 := rb.2.1
    have rb1 := rb.2.2
    go_wp2_with fail
    refine (Less_any a1 a2 b1 b2 _).mono ?_
    rintro e w2 ⟨rfl, hB2⟩
    rw [H1.out]
    dsimp only []
    clear ral ra0 ra1 rbl rb0 rb1
    replace ra := ra.below hB2
    replace rb := rb.below hB2
    replace rc := rc.below hB2
    have g2 : Below w.heap.size w w2 := (by repeat (first | exact Below.refl _ _ | assumption | refine b_then ?_ (by assumption) | refine b_alloc ?_ _ | refine b_drewN ?_ _ | refine b_drew ?_ | refine b_set ?_ (by omega) _ | refine b_set ?_ (by simp) _))
    clear hB2 g1
    have ral := ra.1
    have ra0 := ra.2.1
    have ra1 := ra.2.2
    have rbl := rb.1
    have rb0 := rb.2.1
    have rb1 := rb.2.2
    go_wp2_with fail
    refine (Less_any b1 b2 a1 a2 _).mono ?_
    rintro e w3 ⟨rfl, hB3⟩
    rw [H2.out]
    dsimp only []
    clear ral ra0 ra1 rbl rb0 rb1
    replace ra := ra.below hB3
    replace rb := rb.below hB3
    replace rc := rc.below hB3
    have g3 : Below w.heap.size w w3 := (by repeat (first | exact Below.refl _ _ | assumption | refine b_then ?_ (by assumption) | refine b_alloc ?_ _ | refine b_drewN ?_ _ | refine b_drew ?_ | refine b_set ?_ (by omega) _ | refine b_set ?_ (by simp) _))
    clear hB3 g2
    have rbl := rb.1
    have rb0 := rb.2.1
    have rb1 := rb.2.2
    have rcl := rc.1
    have rc0 := rc.2.1
    have rc1 := rc.2.2
    go_wp2_with fail
    refine (Less_any b1 b2 c1 c2 _).mono ?_
    rintro e w4 ⟨rfl, hB4⟩
    rw [H3.out]
    dsimp only []
    clear rbl rb0 rb1 rcl rc0 rc1
    replace ra := ra.below hB4
    replace rb := rb.below hB4
    replace rc := rc.below hB4
    have g4 : Below w.heap.size w w4 := (by repeat (first | exact Below.refl _ _ | assumption | refine b_then ?_ (by assumption) | refine b_alloc ?_ _ | refine b_drewN ?_ _ | refine b_drew ?_ | refine b_set ?_ (by omega) _ | refine b_set ?_ (by simp) _))
    clear hB4 g3
    have ral := ra.1
    have ra0 := ra.2.1
    have ra1 := ra.2.2
    have rcl := rc.1
    have rc0 := rc.2.1
    have rc1 := rc.2.2
    go_wp2_with fail
    refine (Less_any a1 a2 c1 c2 _).mono ?_
    rintro e w5 ⟨rfl, hB5⟩
    rw [H4.out]
    dsimp only []
    clear ral ra0 ra1 rcl rc0 rc1
    replace ra := ra.below hB5
    replace rb := rb.below hB5
    replace rc := rc.below hB5
    have g5 : Below w.heap.size w w5 := (by repeat (first | exact Below.refl _ _ | assumption | refine b_then ?_ (by assumption) | refine b_alloc ?_ _ | refine b_drewN ?_ _ | refine b_drew ?_ | refine b_set ?_ (by omega) _ | refine b_set ?_ (by simp) _))
    clear hB5 g4
    go_wp2_with fail
    go_ret
    exact ⟨by simp, (by repeat (first | exact Below.refl _ _ | assumption | refine b_then ?_ (by assumption) | refine b_alloc ?_ _ | refine b_drewN ?_ _ | refine b_drew ?_ | refine b_set ?_ (by omega) _ | refine b_set ?_ (by simp) _))⟩
  · go_enter Try.func9, Try.ntmps9
    have ra := ((RatAt.new w a1 a2 23).alloc (.cells #[.int .i64 b1, .int .i64 b2] 23)).alloc (.cells #[.int .i64 c1, .int .i64 c2] 23)
    have rb := (RatAt.new (w.alloc (.cells #[.int .i64 a1, .int .i64 a2] 23)) b1 b2 23).alloc (.cells #[.int .i64 c1, .int .i64 c2] 23)
    have rc := RatAt.new ((w.alloc (.cells #[.int .i64 a1, .int .i64 a2] 23)).alloc (.cells #[.int .i64 b1, .int .i64 b2] 23)) c1 c2 23
    rw [World.size_alloc] at rb
    rw [World.size_alloc, World.size_alloc] at rc
    go_wp2_with fail
    refine (sane_any _).mono ?_
    rintro e w1 ⟨rfl, hB1⟩
    dsimp only []
    replace ra := ra.below hB1
    replace rb := rb.below hB1
    replace rc := rc.below hB1
    have g1 : Below w.heap.size w w1 := (by repeat (first | exact Below.refl _ _ | assumption | refine b_then ?_ (by assumption) | refine b_alloc ?_ _ | refine b_drewN ?_ _ | refine b_drew ?_ | refine b_set ?_ (by omega) _ | refine b_set ?_ (by simp) _))
    clear hB1
    have ral := ra.1
    have ra0 := ra.2.1
    have ra1 := ra.2.2
    have rbl := rb.1
    have rb0 := rb.2.1
    have rb1 := rb.2.2
    go_wp2_with fail
    refine (Less_any a1 a2 b1 b2 _).mono ?_
    rintro e w2 ⟨rfl, hB2⟩
    rw [H1.out]
    dsimp only []
    clear ral ra0 ra1 rbl rb0 rb1
    replace ra := ra.below hB2
    replace rb := rb.below hB2
    replace rc := rc.below hB2
    have g2 : Below w.heap.size w w2 := (by repeat (first | exact Below.refl _ _ | assumption | refine b_then ?_ (by assumption) | refine b_alloc ?_ _ | refine b_drewN ?_ _ | refine b_drew ?_ | refine b_set ?_ (by omega) _ | refine b_set ?_ (by simp) _))
    clear hB2 g1
    have ral := ra.1
    have ra0 := ra.2.1
    have ra1 := ra.2.2
    have rbl := rb.1
    have rb0 := rb.2.1
    have rb1 := rb.2.2
    go_wp2_with fail
    refine (Less_any b1 b2 a1 a2 _).mono ?_
    rintro e w3 ⟨rfl, hB3⟩
    rw [H2.out]
    dsimp only []
    clear ral ra0 ra1 rbl rb0 rb1
    replace ra := ra.below hB3
    replace rb := rb.below hB3
    replace rc := rc.below hB3
    have g3 : Below w.heap.size w w3 := (by repeat (first | exact Below.refl _ _ | assumption | refine b_then ?_ (by assumption) | refine b_alloc ?_ _ | refine b_drewN ?_ _ | refine b_drew ?_ | refine b_set ?_ (by omega) _ | refine b_set ?_ (by simp) _))
    clear hB3 g2
    have rbl := rb.1
    have rb0 := rb.2.1
    have rb1 := rb.2.2
    have rcl := rc.1
    have rc0 := rc.2.1
    have rc1 := rc.2.2
    go_wp2_with fail
    refine (Less_any b1 b2 c1 c2 _).mono ?_
    rintro e w4 ⟨rfl, hB4⟩
    rw [H3.out]
    dsimp only []
    clear rbl rb0 rb1 rcl rc0 rc1
    replace ra := ra.below hB4
    replace rb := rb.below hB4
    replace rc := rc.below hB4
    have g4 : Below w.heap.size w w4 := (by repeat (first | exact Below.refl _ _ | assumption | refine b_then ?_ (by assumption) | refine b_alloc ?_ _ | refine b_drewN ?_ _ | refine b_drew ?_ | refine b_set ?_ (by omega) _ | refine b_set ?_ (by simp) _))
    clear hB4 g3
    have ral := ra.1
    have ra0 := ra.2.1
    have ra1 := ra.2.2
    have rcl := rc.1
    have rc0 := rc.2.1
    have rc1 := rc.2.2
    go_wp2_with fail
    refine (Less_any a1 a2 c1 c2 _).mono ?_
    rintro e w5 ⟨rfl, hB5⟩
    rw [H4.out]
    dsimp only []
    clear ral ra0 ra1 rcl rc0 rc1
    replace ra := ra.below hB5
    replace rb := rb.below hB5
    replace rc := rc.below hB5
    have g5 : Below w.heap.size w w5 := (by repeat (first | exact Below.refl _ _ | assumption | refine b_then ?_ (by assumption) | refine b_alloc ?_ _ | refine b_drewN ?_ _ | refine b_drew ?_ | refine b_set ?_ (by omega) _ | refine b_set ?_ (by simp) _))
    clear hB5 g4
    cases y
    all_goals
      go_wp2_with fail
      go_ret
      exact ⟨by simp, (by repeat (first | exact Below.refl _ _ | assumption | refine b_then ?_ (by assumption) | refine b_alloc ?_ _ | refine b_drewN ?_ _ | refine b_drew ?_ | refine b_set ?_ (by omega) _ | refine b_set ?_ (by simp) _))⟩

set_option maxHeartbeats 8000000 in
set_option maxRecDepth 100000 in
theorem ord_yes (a1 a2 b1 b2 c1 c2 : Int) (t u v x : Bool)
    (hcase : (t = true ∧ u = false ∧ (v = false ∨ v = true ∧ x = true) ∧ ¬ a1 = b1) ∨ (t = true ∧ u = false ∧ (v = false ∨ v = true ∧ x = true) ∧ a1 = b1 ∧ ¬ a2 = b2) ∨ (t = false ∧ u = true ∧ ¬ a1 = b1) ∨ (t = false ∧ u = true ∧ a1 = b1 ∧ ¬ a2 = b2) ∨ (t = false ∧ u = false ∧ a1 = b1 ∧ a2 = b2))
    (H1 : Hid (lessR a1 a2 b1 b2 = (t, 0))) (H2 : Hid (lessR b1 b2 a1 a2 = (u, 0))) (H3 : Hid (lessR b1 b2 c1 c2 = (v, 0))) (H4 : Hid (lessR a1 a2 c1 c2 = (x, 0)))
    (x1 y1 z1 x2 y2 z2 x3 y3 z3 x4 y4 z4 : Int) (S1 : Hid (addR a1 a2 c1 c2 = (x1, y1, z1))) (S2 : Hid (addR b1 b2 c1 c2 = (x2, y2, z2))) (P1 : Hid (mulR a1 a2 c1 c2 = (x3, y3, z3))) (P2 : Hid (mulR b1 b2 c1 c2 = (x4, y4, z4)))
    (SL : Hid (z1 = 0 → z2 = 0 → lessR x1 y1 x2 y2 = (t, 0))) (PL : Hid (z3 = 0 → z4 = 0 → 0 < c1 → lessR x3 y3 x4 y4 = (t, 0))) (w : World) :
    Calls Try.prog 9 #[.agg #[.int .i64 a1, .int .i64 a2], .agg #[.int .i64 b1, .int .i64 b2], .agg #[.int .i64 c1, .int .i64 c2]] w fun e w' => e = .returned (.bool true) ∧ Below w.heap.size w w' := by
  unfold addR at S1 S2
  unfold mulR at P1 P2
  have HC := hid hcase
  clear hcase
  go_enter Try.func9, Try.ntmps9
  have ra := ((RatAt.new w a1 a2 23).alloc (.cells #[.int .i64 b1, .int .i64 b2] 23)).alloc (.cells #[.int .i64 c1, .int .i64 c2] 23)
  have rb := (RatAt.new (w.alloc (.cells #[.int .i64 a1, .int .i64 a2] 23)) b1 b2 23).alloc (.cells #[.int .i64 c1, .int .i64 c2] 23)
  have rc := RatAt.new ((w.alloc (.cells #[.int .i64 a1, .int .i64 a2] 23)).alloc (.cells #[.int .i64 b1, .int .i64 b2] 23)) c1 c2 23
  rw [World.size_alloc] at rb
  rw [World.size_alloc, World.size_alloc] at rc
  go_wp2_with fail
  refine (sane_any _).mono ?_
  rintro e w1 ⟨rfl, hB1⟩
  dsimp only []
  replace ra := ra.below hB1
  replace rb := rb.below hB1
  replace rc := rc.below hB1
  have g1 : Below w.heap.size w w1 := (by repeat (first | exact Below.refl _ _ | assumption | refine b_then ?_ (by assumption) | refine b_alloc ?_ _ | refine b_drewN ?_ _ | refine b_drew ?_ | refine b_set ?_ (by omega) _ | refine b_set ?_ (by simp) _))
  clear hB1
  have ral := ra.1
  have ra0 := ra.2.1
  have ra1 := ra.2.2
  have rbl := rb.1
  have rb0 := rb.2.1
  have rb1 := rb.2.2
  go_wp2_with fail
  refine (Less_any a1 a2 b1 b2 _).mono ?_
  rintro e w2 ⟨rfl, hB2⟩
  rw [H1.out]
  dsimp only []
  clear ral ra0 ra1 rbl rb0 rb1
  replace ra := ra.below hB2
  replace rb := rb.below hB2
  replace rc := rc.below hB2
  have g2 : Below w.heap.size w w2 := (by repeat (first | exact Below.refl _ _ | assumption | refine b_then ?_ (by assumption) | refine b_alloc ?_ _ | refine b_drewN ?_ _ | refine b_drew ?_ | refine b_set ?_ (by omega) _ | refine b_set ?_ (by simp) _))
  clear hB2 g1
  have ral := ra.1
  have ra0 := ra.2.1
  have ra1 := ra.2.2
  have rbl := rb.1
  have rb0 := rb.2.1
  have rb1 := rb.2.2
  go_wp2_with fail
  refine (Less_any b1 b2 a1 a2 _).mono ?_
  rintro e w3 ⟨rfl, hB3⟩
  rw [H2.out]
  dsimp only []
  clear ral ra0 ra1 rbl rb0 rb1
  replace ra := ra.below hB3
  replace rb := rb.below hB3
  replace rc := rc.below hB3
  have g3 : Below w.heap.size w w3 := (by repeat (first | exact Below.refl _ _ | assumption | refine b_then ?_ (by assumption) | refine b_alloc ?_ _ | refine b_drewN ?_ _ | refine b_drew ?_ | refine b_set ?_ (by omega) _ | refine b_set ?_ (by simp) _))
  clear hB3 g2
  have rbl := rb.1
  have rb0 := rb.2.1
  have rb1 := rb.2.2
  have rcl := rc.1
  have rc0 := rc.2.1
  have rc1 := rc.2.2
  go_wp2_with fail
  refine (Less_any b1 b2 c1 c2 _).mono ?_
  rintro e w4 ⟨rfl, hB4⟩
  rw [H3.out]
  dsimp only []
  clear rbl rb0 rb1 rcl rc0 rc1
  replace ra := ra.below hB4
  replace rb := rb.below hB4
  replace rc := rc.below hB4
  have g4 : Below w.heap.size w w4 := (by repeat (first | exact Below.refl _ _ | assumption | refine b_then ?_ (by assumption) | refine b_alloc ?_ _ | refine b_drewN ?_ _ | refine b_drew ?_ | refine b_set ?_ (by omega) _ | refine b_set ?_ (by simp) _))
  clear hB4 g3
  have ral := ra.1
  have ra0 := ra.2.1
  have ra1 := ra.2.2
  have rcl := rc.1
  have rc0 := rc.2.1
  have rc1 := rc.2.2
  go_wp2_with fail
  refine (Less_any a1 a2 c1 c2 _).mono ?_
  rintro e w5 ⟨rfl, hB5⟩
  rw [H4.out]
  dsimp only []
  clear ral ra0 ra1 rcl rc0 rc1
  replace ra := ra.below hB5
  replace rb := rb.below hB5
  replace rc := rc.below hB5
  have g5 : Below w.heap.size w w5 := (by repeat (first | exact Below.refl _ _ | assumption | refine b_then ?_ (by assumption) | refine b_alloc ?_ _ | refine b_drewN ?_ _ | refine b_drew ?_ | refine b_set ?_ (by omega) _ | refine b_set ?_ (by simp) _))
  clear hB5 g4
  have ral := ra.1
  have ra0 := ra.2.1
  have ra1 := ra.2.2
  have rbl := rb.1
  have rb0 := rb.2.1
  have rb1 := rb.2.2
  have rcl := rc.1
  have rc0 := rc.2.1
  have rc1 := rc.2.2
  go_upto_region 9 with (fail)
  go_cut [94] (fun s wx => s = .bool false ∧ wx = w5)
  case first =>
    rcases HC.out with ⟨rfl, rfl, rfl | ⟨rfl, rfl⟩, h⟩ | ⟨rfl, rfl, rfl | ⟨rfl, rfl⟩, rfl, h⟩ | ⟨rfl, rfl, h⟩ | ⟨rfl, rfl, rfl, h⟩ | ⟨rfl, rfl, rfl, rfl⟩
    all_goals
      clear HC
      go_wp2_with fail
      go_meet
      case rel => first | exact ⟨rfl, rfl⟩ | ((repeat apply Exists.intro); exact ⟨⟨rfl, rfl⟩, rfl⟩)
  case rest =>
    obtain ⟨rfl, rfl⟩ := hcut
    clear ral ra0 ra1 rbl rb0 rb1 rcl rc0 rc1
    have ral := ra.1
    have ra0 := ra.2.1
    have ra1 := ra.2.2
    have rcl := rc.1
    have rc0 := rc.2.1
    have rc1 := rc.2.2
    go_wp2_with fail
    refine (Add_any a1 a2 c1 c2 _).mono ?_
    rintro e w6 ⟨rfl, hB6⟩
    rw [S1.out]
    dsimp only [ratV]
    clear ral ra0 ra1 rcl rc0 rc1
    replace ra := ra.below hB6
    replace rb := rb.below hB6
    replace rc := rc.below hB6
    have g6 : Below w.heap.size w w6 := (by repeat (first | exact Below.refl _ _ | assumption | refine b_then ?_ (by assumption) | refine b_alloc ?_ _ | refine b_drewN ?_ _ | refine b_drew ?_ | refine b_set ?_ (by omega) _ | refine b_set ?_ (by simp) _))
    clear hB6 g5
    have rx := RatAt.new w6 (x1) (y1) 23
    replace ra := ra.alloc (.cells #[.int .i64 (x1), .int .i64 (y1)] 23)
    replace rb := rb.alloc (.cells #[.int .i64 (x1), .int .i64 (y1)] 23)
    replace rc := rc.alloc (.cells #[.int .i64 (x1), .int .i64 (y1)] 23)
    have rbl := rb.1
    have rb0 := rb.2.1
    have rb1 := rb.2.2
    have rcl := rc.1
    have rc0 := rc.2.1
    have rc1 := rc.2.2
    go_wp2_with fail
    refine (Add_any b1 b2 c1 c2 _).mono ?_
    rintro e w7 ⟨rfl, hB7⟩
    rw [S2.out]
    dsimp only [ratV]
    clear rbl rb0 rb1 rcl rc0 rc1
    replace ra := ra.below hB7
    replace rb := rb.below hB7
    replace rc := rc.below hB7
    replace rx := rx.below hB7
    have g7 : Below w.heap.size w w7 := (by repeat (first | exact Below.refl _ _ | assumption | refine b_then ?_ (by assumption) | refine b_alloc ?_ _ | refine b_drewN ?_ _ | refine b_drew ?_ | refine b_set ?_ (by omega) _ | refine b_set ?_ (by simp) _))
    clear hB7 g6
    have ry := RatAt.new w7 (x2) (y2) 23
    replace ra := ra.alloc (.cells #[.int .i64 (x2), .int .i64 (y2)] 23)
    replace rb := rb.alloc (.cells #[.int .i64 (x2), .int .i64 (y2)] 23)
    replace rc := rc.alloc (.cells #[.int .i64 (x2), .int .i64 (y2)] 23)
    replace rx := rx.alloc (.cells #[.int .i64 (x2), .int .i64 (y2)] 23)
    go_upto_region 13 with (fail)
    obtain ⟨W, hW⟩ : ∃ W, w7.alloc (.cells #[.int .i64 x2, .int .i64 y2] 23) = W := ⟨_, rfl⟩
    have gW : Below w.heap.size w (w7.alloc (.cells #[.int .i64 x2, .int .i64 y2] 23)) := (by repeat (first | exact Below.refl _ _ | assumption | refine b_then ?_ (by assumption) | refine b_alloc ?_ _ | refine b_drewN ?_ _ | refine b_drew ?_ | refine b_set ?_ (by omega) _ | refine b_set ?_ (by simp) _))
    rw [hW] at ra rb rc rx ry gW ⊢
    clear hW g7
    obtain ⟨B, hB⟩ : ∃ B : Bool, (z1 == 0 && z2 == 0) = B := ⟨_, rfl⟩
    have HB := hid hB
    clear hB
    go_cut [112] (fun s wx => s = .bool B ∧ wx = W)
    case first =>
      by_cases e1 : z1 = 0
      · by_cases e2 : z2 = 0
        · have hb : B = true := by rw [← HB.out]; simp [e1, e2]
          subst hb; subst e1; subst e2
          go_wp2_with fail
          go_meet
          case rel => first | exact ⟨rfl, rfl⟩ | ((repeat apply Exists.intro); exact ⟨⟨rfl, rfl⟩, rfl⟩)
        · have hb : B = false := by rw [← HB.out]; simp [e2]
          have e2' : (z2 == 0) = false := beq_eq_false_iff_ne.2 e2
          subst hb; subst e1
          go_wp2_with fail
          go_meet
          case rel => first | exact ⟨rfl, rfl⟩ | ((repeat apply Exists.intro); exact ⟨⟨rfl, rfl⟩, rfl⟩)
      · have hb : B = false := by rw [← HB.out]; simp [e1]
        have e1' : (z1 == 0) = false := beq_eq_false_iff_ne.2 e1
        subst hb
        go_wp2_with fail
        go_meet
        case rel => first | exact ⟨rfl, rfl⟩ | ((repeat apply Exists.intro); exact ⟨⟨rfl, rfl⟩, rfl⟩)
    case rest =>
    obtain ⟨rfl, rfl⟩ := hcut
    go_upto_if 112 with (fail)
    go_cut [] (fun wx => RatAt wx w.heap.size a1 a2 ∧ RatAt wx (w.heap.size + 1) b1 b2 ∧ RatAt wx (w.heap.size + 1 + 1) c1 c2 ∧ Below w.heap.size w wx)
    case first =>
      cases B
      · go_wp2_with fail
        go_meet
        case rel => first | exact ⟨ra, rb, rc, gW⟩ | ((repeat apply Exists.intro); exact ⟨⟨ra, rb, rc, gW⟩, rfl⟩)
      · have hz := HB.out
        simp only [Bool.and_eq_true, beq_iff_eq] at hz
        have hl := SL.out hz.1 hz.2
        have SL' := hid hl
        clear hl SL hz HB
        have rxl := rx.1
        have rx0 := rx.2.1
        have rx1 := rx.2.2
        have ryl := ry.1
        have ry0 := ry.2.1
        have ry1 := ry.2.2
        go_wp2_with fail
        refine (Less_any x1 y1 x2 y2 _).mono ?_
        rintro e w8 ⟨rfl, hB8⟩
        rw [SL'.out]
        dsimp only []
        clear rxl rx0 rx1 ryl ry0 ry1
        replace ra := ra.below hB8
        replace rb := rb.below hB8
        replace rc := rc.below hB8
        have g8 : Below w.heap.size w w8 := (by repeat (first | exact Below.refl _ _ | assumption | refine b_then ?_ (by assumption) | refine b_alloc ?_ _ | refine b_drewN ?_ _ | refine b_drew ?_ | refine b_set ?_ (by omega) _ | refine b_set ?_ (by simp) _))
        clear hB8 gW rx ry
        go_wp2_with fail
        go_meet
        case rel => first | exact ⟨ra, rb, rc, g8⟩ | ((repeat apply Exists.intro); exact ⟨⟨ra, rb, rc, g8⟩, rfl⟩)
    case rest =>
      obtain ⟨ra, rb, rc, gc⟩ := hcut
      clear gW rx ry
      have ral := ra.1
      have ra0 := ra.2.1
      have ra1 := ra.2.2
      have rcl := rc.1
      have rc0 := rc.2.1
      have rc1 := rc.2.2
      go_wp2_with fail
      refine (Mul_any a1 a2 c1 c2 _).mono ?_
      rintro e w21 ⟨rfl, hB21⟩
      rw [P1.out]
      dsimp only [ratV]
      clear ral ra0 ra1 rcl rc0 rc1
      replace ra := ra.below hB21
      replace rb := rb.below hB21
      replace rc := rc.below hB21
      have g21 : Below w.heap.size w w21 := (by repeat (first | exact Below.refl _ _ | assumption | refine b_then ?_ (by assumption) | refine b_alloc ?_ _ | refine b_drewN ?_ _ | refine b_drew ?_ | refine b_set ?_ (by omega) _ | refine b_set ?_ (by simp) _))
      clear hB21 gc
      have rp := RatAt.new w21 (x3) (y3) 23
      replace ra := ra.alloc (.cells #[.int .i64 (x3), .int .i64 (y3)] 23)
      replace rb := rb.alloc (.cells #[.int .i64 (x3), .int .i64 (y3)] 23)
      replace rc := rc.alloc (.cells #[.int .i64 (x3), .int .i64 (y3)] 23)
      have rbl := rb.1
      have rb0 := rb.2.1
      have rb1 := rb.2.2
      have rcl := rc.1
      have rc0 := rc.2.1
      have rc1 := rc.2.2
      go_wp2_with fail
      refine (Mul_any b1 b2 c1 c2 _).mono ?_
      rintro e w22 ⟨rfl, hB22⟩
      rw [P2.out]
      dsimp only [ratV]
      clear rbl rb0 rb1 rcl rc0 rc1
      replace ra := ra.below hB22
      replace rb := rb.below hB22
      replace rc := rc.below hB22
      replace rp := rp.below hB22
      have g22 : Below w.heap.size w w22 := (by repeat (first | exact Below.refl _ _ | assumption | refine b_then ?_ (by assumption) | refine b_alloc ?_ _ | refine b_drewN ?_ _ | refine b_drew ?_ | refine b_set ?_ (by omega) _ | refine b_set ?_ (by simp) _))
      clear hB22 g21
      have rq := RatAt.new w22 (x4) (y4) 23
      replace ra := ra.alloc (.cells #[.int .i64 (x4), .int .i64 (y4)] 23)
      replace rb := rb.alloc (.cells #[.int .i64 (x4), .int .i64 (y4)] 23)
      replace rc := rc.alloc (.cells #[.int .i64 (x4), .int .i64 (y4)] 23)
      replace rp := rp.alloc (.cells #[.int .i64 (x4), .int .i64 (y4)] 23)
      by_cases e1 : z3 = 0
      · subst e1
        by_cases e2 : z4 = 0
        · subst e2
          by_cases e3 : 0 < c1
          · have hl := PL.out rfl rfl e3
            have PL' := hid hl
            clear hl PL
            have ral := ra.1
            have ra0 := ra.2.1
            have ra1 := ra.2.2
            have rbl := rb.1
            have rb0 := rb.2.1
            have rb1 := rb.2.2
            have rcl := rc.1
            have rc0 := rc.2.1
            have rc1 := rc.2.2
            have rpl := rp.1
            have rp0 := rp.2.1
            have rp1 := rp.2.2
            have rql := rq.1
            have rq0 := rq.2.1
            have rq1 := rq.2.2
            go_wp2_with fail
            refine (Less_any x3 y3 x4 y4 _).mono ?_
            rintro e w23 ⟨rfl, hB23⟩
            rw [PL'.out]
            dsimp only []
            clear ral ra0 ra1 rbl rb0 rb1 rcl rc0 rc1 rpl rp0 rp1 rql rq0 rq1
            replace ra := ra.below hB23
            replace rb := rb.below hB23
            replace rc := rc.below hB23
            replace rp := rp.below hB23
            replace rq := rq.below hB23
            have g23 : Below w.heap.size w w23 := (by repeat (first | exact Below.refl _ _ | assumption | refine b_then ?_ (by assumption) | refine b_alloc ?_ _ | refine b_drewN ?_ _ | refine b_drew ?_ | refine b_set ?_ (by omega) _ | refine b_set ?_ (by simp) _))
            clear hB23 g22
            go_wp2_with fail
            go_ret
            exact ⟨by simp, (by repeat (first | exact Below.refl _ _ | assumption | refine b_then ?_ (by assumption) | refine b_alloc ?_ _ | refine b_drewN ?_ _ | refine b_drew ?_ | refine b_set ?_ (by omega) _ | refine b_set ?_ (by simp) _))⟩
          · have e3' : c1 ≤ 0 := by omega
            have rcl := rc.1
            have rc0 := rc.2.1
            have rc1 := rc.2.2
            go_wp2_with fail
            go_ret
            exact ⟨by simp, (by repeat (first | exact Below.refl _ _ | assumption | refine b_then ?_ (by assumption) | refine b_alloc ?_ _ | refine b_drewN ?_ _ | refine b_drew ?_ | refine b_set ?_ (by omega) _ | refine b_set ?_ (by simp) _))⟩
        · have e2' : (z4 != 0) = true := bne_iff_ne.2 e2
          go_wp2_with fail
          go_ret
          exact ⟨by simp, (by repeat (first | exact Below.refl _ _ | assumption | refine b_then ?_ (by assumption) | refine b_alloc ?_ _ | refine b_drewN ?_ _ | refine b_drew ?_ | refine b_set ?_ (by omega) _ | refine b_set ?_ (by simp) _))⟩
      · have e1' : (z3 != 0) = true := bne_iff_ne.2 e1
        go_wp2_with fail
        go_ret
        exact ⟨by simp, (by repeat (first | exact Below.refl _ _ | assumption | refine b_then ?_ (by assumption) | refine b_alloc ?_ _ | refine b_drewN ?_ _ | refine b_drew ?_ | refine b_set ?_ (by omega) _ | refine b_set ?_ (by simp) _))⟩

theorem ord_walk (a1 a2 b1 b2 c1 c2 : Int) (w : World) : Calls Try.prog 9 #[.agg #[.int .i64 a1, .int .i64 a2], .agg #[.int .i64 b1, .int .i64 b2], .agg #[.int .i64 c1, .int .i64 c2]] w fun e w' => e = .returned (.bool true) ∧ Below w.heap.size w w' := by
  by_cases hab : Vld a1 a2 ∧ Vld b1 b2
  · by_cases hc : Vld c1 c2
    · obtain ⟨va, vb⟩ := hab
      obtain ⟨x1, y1, z1, S1⟩ : ∃ x y z, addR a1 a2 c1 c2 = (x, y, z) := ⟨_, _, _, rfl⟩
      obtain ⟨x2, y2, z2, S2⟩ : ∃ x y z, addR b1 b2 c1 c2 = (x, y, z) := ⟨_, _, _, rfl⟩
      obtain ⟨x3, y3, z3, P1⟩ : ∃ x y z, mulR a1 a2 c1 c2 = (x, y, z) := ⟨_, _, _, rfl⟩
      obtain ⟨x4, y4, z4, P2⟩ : ∃ x y z, mulR b1 b2 c1 c2 = (x, y, z) := ⟨_, _, _, rfl⟩
      have SL : z1 = 0 → z2 = 0 → lessR x1 y1 x2 y2 = lessR a1 a2 b1 b2 := fun h1 h2 => less_sum (h1 ▸ S1) (h2 ▸ S2)
      have PL : z3 = 0 → z4 = 0 → 0 < c1 → lessR x3 y3 x4 y4 = lessR a1 a2 b1 b2 := fun h1 h2 h3 => less_prod (h1 ▸ P1) (h2 ▸ P2) h3
      have key : ∀ (t u v x : Bool), (hcase : (t = true ∧ u = false ∧ (v = false ∨ v = true ∧ x = true) ∧ ¬ a1 = b1) ∨ (t = true ∧ u = false ∧ (v = false ∨ v = true ∧ x = true) ∧ a1 = b1 ∧ ¬ a2 = b2) ∨ (t = false ∧ u = true ∧ ¬ a1 = b1) ∨ (t = false ∧ u = true ∧ a1 = b1 ∧ ¬ a2 = b2) ∨ (t = false ∧ u = false ∧ a1 = b1 ∧ a2 = b2)) → lessR a1 a2 b1 b2 = (t, 0) → lessR b1 b2 a1 a2 = (u, 0) → lessR b1 b2 c1 c2 = (v, 0) → lessR a1 a2 c1 c2 = (x, 0) →
          Calls Try.prog 9 #[.agg #[.int .i64 a1, .int .i64 a2], .agg #[.int .i64 b1, .int .i64 b2], .agg #[.int .i64 c1, .int .i64 c2]] w fun e w' => e = .returned (.bool true) ∧ Below w.heap.size w w' := fun t u v x hcase h1 h2 h3 h4 =>
        ord_yes a1 a2 b1 b2 c1 c2 t u v x hcase h1 h2 h3 h4 x1 y1 z1 x2 y2 z2 x3 y3 z3 x4 y4 z4 S1 S2 P1 P2 (fun e1 e2 => (SL e1 e2).trans h1) (fun e1 e2 e3 => (PL e1 e2 e3).trans h1) w
      have hbc : ∃ v, lessR b1 b2 c1 c2 = (v, 0) := ⟨_, lessR_ok ⟨vb, hc⟩⟩
      have hac : ∃ x, lessR a1 a2 c1 c2 = (x, 0) := ⟨_, lessR_ok ⟨va, hc⟩⟩
      obtain ⟨v, h3⟩ := hbc
      obtain ⟨x, h4⟩ := hac
      have hne : ¬ Rat.divInt a1 a2 = Rat.divInt b1 b2 → ¬ a1 = b1 ∨ (a1 = b1 ∧ ¬ a2 = b2) := by
        intro hn
        by_cases e1 : a1 = b1
        · refine .inr ⟨e1, fun e2 => hn ?_⟩
          rw [e1, e2]
        · exact .inl e1
      rcases lt_of_three (p := Rat.divInt a1 a2) (q := Rat.divInt b1 b2) with hl | he | hg
      · have h1 := lessR_true va vb hl
        have h2 := lessR_false vb va (lt_asymm' hl)
        have hvx : v = false ∨ v = true ∧ x = true := by
          by_cases hq : Rat.divInt b1 b2 < Rat.divInt c1 c2
          · have e3 := lessR_true vb hc hq
            have e4 := lessR_true va hc (lt_trans' hl hq)
            rw [h3] at e3
            rw [h4] at e4
            simp only [Prod.mk.injEq] at e3 e4
            exact .inr ⟨e3.1, e4.1⟩
          · have e3 := lessR_false vb hc hq
            rw [h3] at e3
            simp only [Prod.mk.injEq] at e3
            exact .inl e3.1
        rcases hne (fun h => Rat.lt_irrefl (h ▸ hl)) with h | h
        · exact key true false v x (.inl ⟨rfl, rfl, hvx, h⟩) h1 h2 h3 h4
        · exact key true false v x (.inr (.inl ⟨rfl, rfl, hvx, h⟩)) h1 h2 h3 h4
      · have h1 := lessR_false va vb (fun h => Rat.lt_irrefl (he ▸ h))
        have h2 := lessR_false vb va (fun h => Rat.lt_irrefl (he ▸ h))
        exact key false false v x (.inr (.inr (.inr (.inr ⟨rfl, rfl, (eq_iff va vb).2 he⟩)))) h1 h2 h3 h4
      · have h1 := lessR_false va vb (lt_asymm' hg)
        have h2 := lessR_true vb va hg
        rcases hne (fun h => Rat.lt_irrefl (h ▸ hg)) with h | h
        · exact key false true v x (.inr (.inr (.inl ⟨rfl, rfl, h⟩))) h1 h2 h3 h4
        · exact key false true v x (.inr (.inr (.inr (.inl ⟨rfl, rfl, h⟩)))) h1 h2 h3 h4
    · exact ord_no a1 a2 b1 b2 c1 c2 _ _ _ _ _ _ _ (.inr ⟨rfl, rfl, rfl⟩) (lessR_ok hab) rfl (lessR_no (fun h => hc h.2)) _ rfl w
  · exact ord_no a1 a2 b1 b2 c1 c2 _ _ _ _ _ _ _ (.inl ⟨rfl, rfl⟩) (lessR_no hab) rfl rfl _ rfl w

end Go.Proofs.Ytfcibldknamekaa
namespace Go.Proofs.Ytfcibldknamekaa.Order
open Go.ChangeShapes Go.WideShapes Go.ChangeAt Go.RowKit Go.Joins

theorem own : ownKnob Try.prog.godebug = none := by kernel_rfl
theorem laidOut : laidOutB Try.prog = true := by kernel_rfl
theorem cells23 : Try.prog.cellsOf 23 = 2 := by kernel_rfl

set_option maxRecDepth 100000 in
theorem lifted (os : Os) (started : os.Started) (H : Type) (enc : TypeId × Value → H) :
    ReturnsInHanded {} Try.checked os 9 .any (Rows.rationalOrderSpec.pre6 enc Try.prog Try.f9 Rows.rationalOrderRow.domain false) (Rows.rationalOrderSpec.post enc Try.prog Try.f9 false true false false) := by
  refine returnsInHanded_of_change (C := Try.checked) own started (by kernel_rfl) Try.func9
    (ChangeSpec.witness6 (enc := enc) (C := Try.checked) false ⟨#[], #[.agg #[.int .i64 0, .int .i64 0], .agg #[.int .i64 0, .int .i64 0], .agg #[.int .i64 0, .int .i64 0]], []⟩ 8 (by kernel_rfl) (by kernel_rfl) (by kernel_rfl) (by kernel_rfl)) ?_
  intro W base args ds gs before hval0 hW hcnd _
  have hval : ∀ (j : Nat) t v, Try.f9.params[j]? = some t → args[j]? = some v → Value.okWide Try.prog W .any base t v := hval0
  have hW' := hW
  obtain ⟨p, q, hA0, hV, rfl, hfz, hnd⟩ := hW
  have hA : DataW.TrodAll enc Try.prog W 0 (fun _ => true) true Try.f9.params.toList args.toList ds p := hA0
  rw [Try.params9] at hA hval
  obtain ⟨v0, vs0, d0, ds0, p0, q0, hargs, rfl, rfl, h0, r0⟩ := trodAll_cons hA
  obtain ⟨v1, vs1, d1, ds1, p1, q1, rfl, rfl, rfl, h1, r1⟩ := trodAll_cons r0
  obtain ⟨v2, vs2, d2, ds2, p2, q2, rfl, rfl, rfl, h2, r2⟩ := trodAll_cons r1
  obtain ⟨rfl, rfl, rfl⟩ := trodAll_nil r2
  obtain rfl : args = #[v0, v1, v2] := by cases args; simp_all
  obtain ⟨rfl, rfl⟩ := trodVars_none hV
  have k0 := h0
  have lt0 : ∀ x ∈ p0, x.block < W.heap.size := by obtain ⟨m, hm⟩ := k0; exact DataW.trod_lt m _ _ _ hm
  obtain ⟨c0_0, c0_1, y0_0, y0_1, m0, rfl, rfl, rfl, hy0_0, hy0_1⟩ := open_agg2 Try.underlying23 (by kernel_rfl) cells23 (hval 0 23 v0 rfl rfl) h0
  obtain ⟨b0_0, e0_0, rfl, _⟩ := DataW.trod_int Try.underlying3 hy0_0
  simp at e0_0
  subst e0_0
  obtain ⟨b0_1, e0_1, rfl, _⟩ := DataW.trod_int Try.underlying3 hy0_1
  simp at e0_1
  subst e0_1
  have k1 := h1
  have lt1 : ∀ x ∈ p1, x.block < W.heap.size := by obtain ⟨m, hm⟩ := k1; exact DataW.trod_lt m _ _ _ hm
  obtain ⟨c1_0, c1_1, y1_0, y1_1, m1, rfl, rfl, rfl, hy1_0, hy1_1⟩ := open_agg2 Try.underlying23 (by kernel_rfl) cells23 (hval 1 23 v1 rfl rfl) h1
  obtain ⟨b1_0, e1_0, rfl, _⟩ := DataW.trod_int Try.underlying3 hy1_0
  simp at e1_0
  subst e1_0
  obtain ⟨b1_1, e1_1, rfl, _⟩ := DataW.trod_int Try.underlying3 hy1_1
  simp at e1_1
  subst e1_1
  have k2 := h2
  have lt2 : ∀ x ∈ p2, x.block < W.heap.size := by obtain ⟨m, hm⟩ := k2; exact DataW.trod_lt m _ _ _ hm
  obtain ⟨c2_0, c2_1, y2_0, y2_1, m2, rfl, rfl, rfl, hy2_0, hy2_1⟩ := open_agg2 Try.underlying23 (by kernel_rfl) cells23 (hval 2 23 v2 rfl rfl) h2
  obtain ⟨b2_0, e2_0, rfl, _⟩ := DataW.trod_int Try.underlying3 hy2_0
  simp at e2_0
  subst e2_0
  obtain ⟨b2_1, e2_1, rfl, _⟩ := DataW.trod_int Try.underlying3 hy2_1
  simp at e2_1
  subst e2_1
  clear hA0 hval0
  refine (ord_walk b0_0 b0_1 b1_0 b1_1 b2_0 b2_1 W).mono fun e W' ⟨he, bel⟩ => ?_
  subst he
  exact ⟨_, rfl, _, _, _, [], _, [], hW', trodAll_mk1 (shut_bool Try.underlying4 _), (trodAll_cons_mk (Below.trod laidOut (by kernel_rfl) (of_decide_eq_true (by kernel_rfl)) k0 bel lt0) (trodAll_cons_mk (Below.trod laidOut (by kernel_rfl) (of_decide_eq_true (by kernel_rfl)) k1 bel lt1) (trodAll_cons_mk (Below.trod laidOut (by kernel_rfl) (of_decide_eq_true (by kernel_rfl)) k2 bel lt2) trodAll_mk0))), rfl, bel.frame _, fun h => by cases h⟩

theorem over : Rows.rationalOrderRow.holds Try.pinned (OpenSpec.ofChange Rows.rationalOrderSpec) :=
  OpenClaim.holds_of_wide 9 Try.f9 rfl rfl rfl rfl rfl rfl rfl ⟨rfl, rfl, rfl, rfl, rfl⟩ rfl rfl rfl rfl rfl (by kernel_rfl) Try.func9 (by kernel_rfl)
    (of_decide_eq_true (by kernel_rfl)) (by unfold Func.isWrapper; first | (rw [if_pos (by decide +kernel)]; kernel_rfl) | (rw [if_neg (by decide +kernel)]; exact ⟨rfl, rfl⟩))
    (fun os started H enc _ => lifted os started H enc)
end Go.Proofs.Ytfcibldknamekaa.Order
namespace Go.Proofs.Ytfcibldknamekaa
/-- The statement. -/
theorem order_holds : Rows.RationalOrderSaid := Order.over
end Go.Proofs.Ytfcibldknamekaa
