/- For all numbers: sums and products do not depend on the order of their arguments, nor, where all fit, on the order in which three are added or multiplied; a product with a sum is the sum of the products. No condition. -/
import Derived.Test.YtfcibldknamekaaK
import Derived.Test.YtfcibldknamekaaP
import Derived.Test.YtfcibldknamekaaRows
import Derived.ProofKit
import Derived.OpenShut
import Derived.Lib.SmallJoins
import Derived.ChangeOld
import Derived.Deep.DeepCutAuto
namespace Go.Proofs.Ytfcibldknamekaa
open Go.RowKit
open Go.Lib (hid)

set_option maxHeartbeats 16000000 in
set_option maxRecDepth 100000 in
theorem field_core (a1 a2 b1 b2 c1 c2 : Int) (x1 y1 z1 x2 y2 z2 x3 y3 z3 x4 y4 z4 x5 y5 z5 x6 y6 z6 x7 y7 z7 x8 y8 z8 : Int)
    (A1 : Hid (addR a1 a2 b1 b2 = (x1, y1, z1))) (A1' : Hid (addR b1 b2 a1 a2 = (x1, y1, z1))) (M1 : Hid (mulR a1 a2 b1 b2 = (x2, y2, z2))) (M1' : Hid (mulR b1 b2 a1 a2 = (x2, y2, z2)))
    (A2 : Hid (addR b1 b2 c1 c2 = (x3, y3, z3))) (M2 : Hid (mulR b1 b2 c1 c2 = (x4, y4, z4))) (M3 : Hid (mulR a1 a2 c1 c2 = (x5, y5, z5)))
    (LA : Hid (z1 = 0 → z3 = 0 → addR x1 y1 c1 c2 = (x6, y6, z6) ∧ addR a1 a2 x3 y3 = (x6, y6, z6)))
    (LM : Hid (z2 = 0 → z4 = 0 → mulR x2 y2 c1 c2 = (x7, y7, z7) ∧ mulR a1 a2 x4 y4 = (x7, y7, z7)))
    (LD : Hid (z3 = 0 → z2 = 0 → z5 = 0 → mulR a1 a2 x3 y3 = (x8, y8, z8) ∧ addR x2 y2 x5 y5 = (x8, y8, z8))) (w : World) :
    Calls Try.prog 7 #[.agg #[.int .i64 a1, .int .i64 a2], .agg #[.int .i64 b1, .int .i64 b2], .agg #[.int .i64 c1, .int .i64 c2]] w fun e w' => e = .returned (.bool true) ∧ Below w.heap.size w w' := by
  unfold addR at A1 A1' A2 LA LD
  unfold mulR at M1 M1' M2 M3 LM LD
  go_enter Try.func7, Try.ntmps7
  have ra := ((RatAt.new w a1 a2 23).alloc (.cells #[.int .i64 b1, .int .i64 b2] 23)).alloc (.cells #[.int .i64 c1, .int .i64 c2] 23)
  have rb := (RatAt.new (w.alloc (.cells #[.int .i64 a1, .int .i64 a2] 23)) b1 b2 23).alloc (.cells #[.int .i64 c1, .int .i64 c2] 23)
  have rc := RatAt.new ((w.alloc (.cells #[.int .i64 a1, .int .i64 a2] 23)).alloc (.cells #[.int .i64 b1, .int .i64 b2] 23)) c1 c2 23
  rw [World.size_alloc] at rb
  rw [World.size_alloc, World.size_alloc] at rc
  go_wp2_with fail
  refine (sane_any _).mono ?_
  rintro e w1 ⟨rfl, hB1⟩
  dsimp only []
  replace ra := ra.below hB1
  replace rb := rb.below hB1
  replace rc := rc.below hB1
  have g1 : Below w.heap.size w w1 := (by repeat (first | exact Below.refl _ _ | assumption | refine b_then ?_ (by assumption) | refine b_alloc ?_ _ | refine b_drewN ?_ _ | refine b_drew ?_ | refine b_set ?_ (by omega) _ | refine b_set ?_ (by simp) _))
  clear hB1
  have ral := ra.1
  have ra0 := ra.2.1
  have ra1 := ra.2.2
  have rbl := rb.1
  have rb0 := rb.2.1
  have rb1 := rb.2.2
  go_wp2_with fail
  refine (Add_any a1 a2 b1 b2 _).mono ?_
  rintro e w2 ⟨rfl, hB2⟩
  rw [A1.out]
  dsimp only [ratV]
  clear ral ra0 ra1 rbl rb0 rb1
  replace ra := ra.below hB2
  replace rb := rb.below hB2
  replace rc := rc.below hB2
  have g2 : Below w.heap.size w w2 := (by repeat (first | exact Below.refl _ _ | assumption | refine b_then ?_ (by assumption) | refine b_alloc ?_ _ | refine b_drewN ?_ _ | refine b_drew ?_ | refine b_set ?_ (by omega) _ | refine b_set ?_ (by simp) _))
  clear hB2 g1
  have rab := RatAt.new w2 (x1) (y1) 23
  replace ra := ra.alloc (.cells #[.int .i64 (x1), .int .i64 (y1)] 23)
  replace rb := rb.alloc (.cells #[.int .i64 (x1), .int .i64 (y1)] 23)
  replace rc := rc.alloc (.cells #[.int .i64 (x1), .int .i64 (y1)] 23)
  have ral := ra.1
  have ra0 := ra.2.1
  have ra1 := ra.2.2
  have rbl := rb.1
  have rb0 := rb.2.1
  have rb1 := rb.2.2
  go_wp2_with fail
  refine (Add_any b1 b2 a1 a2 _).mono ?_
  rintro e w3 ⟨rfl, hB3⟩
  rw [A1'.out]
  dsimp only [ratV]
  clear ral ra0 ra1 rbl rb0 rb1
  replace ra := ra.below hB3
  replace rb := rb.below hB3
  replace rc := rc.below hB3
  replace rab := rab.below hB3
  have g3 : Below w.heap.size w w3 := (by repeat (first | exact Below.refl _ _ | assumption | refine b_then ?_ (by assumption) | refine b_alloc ?_ _ | refine b_drewN ?_ _ | refine b_drew ?_ | refine b_set ?_ (by omega) _ | refine b_set ?_ (by simp) _))
  clear hB3 g2
  have rba := RatAt.new w3 (x1) (y1) 23
  replace ra := ra.alloc (.cells #[.int .i64 (x1), .int .i64 (y1)] 23)
  replace rb := rb.alloc (.cells #[.int .i64 (x1), .int .i64 (y1)] 23)
  replace rc := rc.alloc (.cells #[.int .i64 (x1), .int .i64 (y1)] 23)
  replace rab := rab.alloc (.cells #[.int .i64 (x1), .int .i64 (y1)] 23)
  have ral := ra.1
  have ra0 := ra.2.1
  have ra1 := ra.2.2
  have rbl := rb.1
  have rb0 := rb.2.1
  have rb1 := rb.2.2
  go_wp2_with fail
  refine (Mul_any a1 a2 b1 b2 _).mono ?_
  rintro e w4 ⟨rfl, hB4⟩
  rw [M1.out]
  dsimp only [ratV]
  clear ral ra0 ra1 rbl rb0 rb1
  replace ra := ra.below hB4
  replace rb := rb.below hB4
  replace rc := rc.below hB4
  replace rab := rab.below hB4
  replace rba := rba.below hB4
  have g4 : Below w.heap.size w w4 := (by repeat (first | exact Below.refl _ _ | assumption | refine b_then ?_ (by assumption) | refine b_alloc ?_ _ | refine b_drewN ?_ _ | refine b_drew ?_ | refine b_set ?_ (by omega) _ | refine b_set ?_ (by simp) _))
  clear hB4 g3
  have rp := RatAt.new w4 (x2) (y2) 23
  replace ra := ra.alloc (.cells #[.int .i64 (x2), .int .i64 (y2)] 23)
  replace rb := rb.alloc (.cells #[.int .i64 (x2), .int .i64 (y2)] 23)
  replace rc := rc.alloc (.cells #[.int .i64 (x2), .int .i64 (y2)] 23)
  replace rab := rab.alloc (.cells #[.int .i64 (x2), .int .i64 (y2)] 23)
  replace rba := rba.alloc (.cells #[.int .i64 (x2), .int .i64 (y2)] 23)
  have ral := ra.1
  have ra0 := ra.2.1
  have ra1 := ra.2.2
  have rbl := rb.1
  have rb0 := rb.2.1
  have rb1 := rb.2.2
  go_wp2_with fail
  refine (Mul_any b1 b2 a1 a2 _).mono ?_
  rintro e w5 ⟨rfl, hB5⟩
  rw [M1'.out]
  dsimp only [ratV]
  clear ral ra0 ra1 rbl rb0 rb1
  replace ra := ra.below hB5
  replace rb := rb.below hB5
  replace rc := rc.below hB5
  replace rab := rab.below hB5
  replace rba := rba.below hB5
  replace rp := rp.below hB5
  have g5 : Below w.heap.size w w5 := (by repeat (first | exact Below.refl _ _ | assumption | refine b_then ?_ (by assumption) | refine b_alloc ?_ _ | refine b_drewN ?_ _ | refine b_drew ?_ | refine b_set ?_ (by omega) _ | refine b_set ?_ (by simp) _))
  clear hB5 g4
  have rq := RatAt.new w5 (x2) (y2) 23
  replace ra := ra.alloc (.cells #[.int .i64 (x2), .int .i64 (y2)] 23)
  replace rb := rb.alloc (.cells #[.int .i64 (x2), .int .i64 (y2)] 23)
  replace rc := rc.alloc (.cells #[.int .i64 (x2), .int .i64 (y2)] 23)
  replace rab := rab.alloc (.cells #[.int .i64 (x2), .int .i64 (y2)] 23)
  replace rba := rba.alloc (.cells #[.int .i64 (x2), .int .i64 (y2)] 23)
  replace rp := rp.alloc (.cells #[.int .i64 (x2), .int .i64 (y2)] 23)
  have ral := ra.1
  have ra0 := ra.2.1
  have ra1 := ra.2.2
  have rbl := rb.1
  have rb0 := rb.2.1
  have rb1 := rb.2.2
  have rcl := rc.1
  have rc0 := rc.2.1
  have rc1 := rc.2.2
  have rabl := rab.1
  have rab0 := rab.2.1
  have rab1 := rab.2.2
  have rbal := rba.1
  have rba0 := rba.2.1
  have rba1 := rba.2.2
  have rpl := rp.1
  have rp0 := rp.2.1
  have rp1 := rp.2.2
  have rql := rq.1
  have rq0 := rq.2.1
  have rq1 := rq.2.2
  go_wp2_with fail
  refine (Add_any b1 b2 c1 c2 _).mono ?_
  rintro e w6 ⟨rfl, hB6⟩
  rw [A2.out]
  dsimp only [ratV]
  clear ral ra0 ra1 rbl rb0 rb1 rcl rc0 rc1 rabl rab0 rab1 rbal rba0 rba1 rpl rp0 rp1 rql rq0 rq1
  replace ra := ra.below hB6
  replace rb := rb.below hB6
  replace rc := rc.below hB6
  replace rab := rab.below hB6
  replace rba := rba.below hB6
  replace rp := rp.below hB6
  replace rq := rq.below hB6
  have g6 : Below w.heap.size w w6 := (by repeat (first | exact Below.refl _ _ | assumption | refine b_then ?_ (by assumption) | refine b_alloc ?_ _ | refine b_drewN ?_ _ | refine b_drew ?_ | refine b_set ?_ (by omega) _ | refine b_set ?_ (by simp) _))
  clear hB6 g5
  have rbc := RatAt.new w6 (x3) (y3) 23
  replace ra := ra.alloc (.cells #[.int .i64 (x3), .int .i64 (y3)] 23)
  replace rb := rb.alloc (.cells #[.int .i64 (x3), .int .i64 (y3)] 23)
  replace rc := rc.alloc (.cells #[.int .i64 (x3), .int .i64 (y3)] 23)
  replace rab := rab.alloc (.cells #[.int .i64 (x3), .int .i64 (y3)] 23)
  replace rba := rba.alloc (.cells #[.int .i64 (x3), .int .i64 (y3)] 23)
  replace rp := rp.alloc (.cells #[.int .i64 (x3), .int .i64 (y3)] 23)
  replace rq := rq.alloc (.cells #[.int .i64 (x3), .int .i64 (y3)] 23)
  clear rba rq
  have rbl := rb.1
  have rb0 := rb.2.1
  have rb1 := rb.2.2
  have rcl := rc.1
  have rc0 := rc.2.1
  have rc1 := rc.2.2
  go_wp2_with fail
  refine (Mul_any b1 b2 c1 c2 _).mono ?_
  rintro e w7 ⟨rfl, hB7⟩
  rw [M2.out]
  dsimp only [ratV]
  clear rbl rb0 rb1 rcl rc0 rc1
  replace ra := ra.below hB7
  replace rb := rb.below hB7
  replace rc := rc.below hB7
  replace rab := rab.below hB7
  replace rp := rp.below hB7
  replace rbc := rbc.below hB7
  have g7 : Below w.heap.size w w7 := (by repeat (first | exact Below.refl _ _ | assumption | refine b_then ?_ (by assumption) | refine b_alloc ?_ _ | refine b_drewN ?_ _ | refine b_drew ?_ | refine b_set ?_ (by omega) _ | refine b_set ?_ (by simp) _))
  clear hB7 g6
  have rr := RatAt.new w7 (x4) (y4) 23
  replace ra := ra.alloc (.cells #[.int .i64 (x4), .int .i64 (y4)] 23)
  replace rb := rb.alloc (.cells #[.int .i64 (x4), .int .i64 (y4)] 23)
  replace rc := rc.alloc (.cells #[.int .i64 (x4), .int .i64 (y4)] 23)
  replace rab := rab.alloc (.cells #[.int .i64 (x4), .int .i64 (y4)] 23)
  replace rp := rp.alloc (.cells #[.int .i64 (x4), .int .i64 (y4)] 23)
  replace rbc := rbc.alloc (.cells #[.int .i64 (x4), .int .i64 (y4)] 23)
  have ral := ra.1
  have ra0 := ra.2.1
  have ra1 := ra.2.2
  have rcl := rc.1
  have rc0 := rc.2.1
  have rc1 := rc.2.2
  go_wp2_with fail
  refine (Mul_any a1 a2 c1 c2 _).mono ?_
  rintro e w8 ⟨rfl, hB8⟩
  rw [M3.out]
  dsimp only [ratV]
  clear ral ra0 ra1 rcl rc0 rc1
  replace ra := ra.below hB8
  replace rb := rb.below hB8
  replace rc := rc.below hB8
  replace rab := rab.below hB8
  replace rp := rp.below hB8
  replace rbc := rbc.below hB8
  replace rr := rr.below hB8
  have g8 : Below w.heap.size w w8 := (by repeat (first | exact Below.refl _ _ | assumption | refine b_then ?_ (by assumption) | refine b_alloc ?_ _ | refine b_drewN ?_ _ | refine b_drew ?_ | refine b_set ?_ (by omega) _ | refine b_set ?_ (by simp) _))
  clear hB8 g7
  have rac := RatAt.new w8 (x5) (y5) 23
  replace ra := ra.alloc (.cells #[.int .i64 (x5), .int .i64 (y5)] 23)
  replace rb := rb.alloc (.cells #[.int .i64 (x5), .int .i64 (y5)] 23)
  replace rc := rc.alloc (.cells #[.int .i64 (x5), .int .i64 (y5)] 23)
  replace rab := rab.alloc (.cells #[.int .i64 (x5), .int .i64 (y5)] 23)
  replace rp := rp.alloc (.cells #[.int .i64 (x5), .int .i64 (y5)] 23)
  replace rbc := rbc.alloc (.cells #[.int .i64 (x5), .int .i64 (y5)] 23)
  replace rr := rr.alloc (.cells #[.int .i64 (x5), .int .i64 (y5)] 23)
  go_upto_region 12 with (fail)
  obtain ⟨W0, hW⟩ : ∃ W0, w8.alloc (.cells #[.int .i64 x5, .int .i64 y5] 23) = W0 := ⟨_, rfl⟩
  have gW : Below w.heap.size w (w8.alloc (.cells #[.int .i64 x5, .int .i64 y5] 23)) := (by repeat (first | exact Below.refl _ _ | assumption | refine b_then ?_ (by assumption) | refine b_alloc ?_ _ | refine b_drewN ?_ _ | refine b_drew ?_ | refine b_set ?_ (by omega) _ | refine b_set ?_ (by simp) _))
  rw [hW] at ra rb rc rab rp rbc rr rac gW ⊢
  clear hW g8
  obtain ⟨B100, hB⟩ : ∃ B : Bool, (z1 == 0 && z3 == 0) = B := ⟨_, rfl⟩
  have HB100 := hid hB
  clear hB
  go_cut [100] (fun s wx => s = .bool B100 ∧ wx = W0)
  case first =>
    by_cases e1 : z1 = 0
    · by_cases e2 : z3 = 0
      · have hb : B100 = true := by rw [← HB100.out]; simp [e1, e2]
        have e1' : (z1 == 0) = true := beq_iff_eq.2 e1
        have e2' : (z3 == 0) = true := beq_iff_eq.2 e2
        clear e1 e2 HB100
        subst hb
        go_wp2_with fail
        go_meet
        case rel => first | exact ⟨rfl, rfl⟩ | ((repeat apply Exists.intro); exact ⟨⟨rfl, rfl⟩, rfl⟩)
      · have hb : B100 = false := by rw [← HB100.out]; simp [e2]
        have e1' : (z1 == 0) = true := beq_iff_eq.2 e1
        have e2' : (z3 == 0) = false := beq_eq_false_iff_ne.2 e2
        clear e1 e2 HB100
        subst hb
        go_wp2_with fail
        go_meet
        case rel => first | exact ⟨rfl, rfl⟩ | ((repeat apply Exists.intro); exact ⟨⟨rfl, rfl⟩, rfl⟩)
    · have hb : B100 = false := by rw [← HB100.out]; simp [e1]
      have e1' : (z1 == 0) = false := beq_eq_false_iff_ne.2 e1
      clear e1 HB100
      subst hb
      go_wp2_with fail
      go_meet
      case rel => first | exact ⟨rfl, rfl⟩ | ((repeat apply Exists.intro); exact ⟨⟨rfl, rfl⟩, rfl⟩)
  case rest =>
  obtain ⟨rfl, rfl⟩ := hcut
  go_upto_if 100 with (fail)
  go_cut [] (fun wx => RatAt wx w.heap.size a1 a2 ∧ RatAt wx (w.heap.size + 1) b1 b2 ∧ RatAt wx (w.heap.size + 1 + 1) c1 c2 ∧ RatAt wx w2.heap.size x1 y1 ∧ RatAt wx w4.heap.size x2 y2 ∧ RatAt wx w6.heap.size x3 y3 ∧ RatAt wx w7.heap.size x4 y4 ∧ RatAt wx w8.heap.size x5 y5 ∧ Below w.heap.size w wx)
  case first =>
    cases B100
    · go_wp2_with fail
      go_meet
      case rel => first | exact ⟨ra, rb, rc, rab, rp, rbc, rr, rac, gW⟩ | ((repeat apply Exists.intro); exact ⟨⟨ra, rb, rc, rab, rp, rbc, rr, rac, gW⟩, rfl⟩)
    · have hz := HB100.out
      simp only [Bool.and_eq_true, beq_iff_eq] at hz
      have hl := LA.out hz.1 hz.2
      have L' := hid hl
      clear hl hz HB100
      have rabl := rab.1
      have rab0 := rab.2.1
      have rab1 := rab.2.2
      have rcl := rc.1
      have rc0 := rc.2.1
      have rc1 := rc.2.2
      go_wp2_with fail
      refine (Add_any x1 y1 c1 c2 _).mono ?_
      rintro e w21 ⟨rfl, hB21⟩
      rw [L'.out.1]
      dsimp only [ratV]
      clear rabl rab0 rab1 rcl rc0 rc1
      replace ra := ra.below hB21
      replace rb := rb.below hB21
      replace rc := rc.below hB21
      replace rab := rab.below hB21
      replace rp := rp.below hB21
      replace rbc := rbc.below hB21
      replace rr := rr.below hB21
      replace rac := rac.below hB21
      have g21 : Below w.heap.size w w21 := (by repeat (first | exact Below.refl _ _ | assumption | refine b_then ?_ (by assumption) | refine b_alloc ?_ _ | refine b_drewN ?_ _ | refine b_drew ?_ | refine b_set ?_ (by omega) _ | refine b_set ?_ (by simp) _))
      clear hB21 gW
      have rx := RatAt.new w21 (x6) (y6) 23
      replace ra := ra.alloc (.cells #[.int .i64 (x6), .int .i64 (y6)] 23)
      replace rb := rb.alloc (.cells #[.int .i64 (x6), .int .i64 (y6)] 23)
      replace rc := rc.alloc (.cells #[.int .i64 (x6), .int .i64 (y6)] 23)
      replace rab := rab.alloc (.cells #[.int .i64 (x6), .int .i64 (y6)] 23)
      replace rp := rp.alloc (.cells #[.int .i64 (x6), .int .i64 (y6)] 23)
      replace rbc := rbc.alloc (.cells #[.int .i64 (x6), .int .i64 (y6)] 23)
      replace rr := rr.alloc (.cells #[.int .i64 (x6), .int .i64 (y6)] 23)
      replace rac := rac.alloc (.cells #[.int .i64 (x6), .int .i64 (y6)] 23)
      have ral := ra.1
      have ra0 := ra.2.1
      have ra1 := ra.2.2
      have rbcl := rbc.1
      have rbc0 := rbc.2.1
      have rbc1 := rbc.2.2
      go_wp2_with fail
      refine (Add_any a1 a2 x3 y3 _).mono ?_
      rintro e w22 ⟨rfl, hB22⟩
      rw [L'.out.2]
      dsimp only [ratV]
      clear ral ra0 ra1 rbcl rbc0 rbc1
      replace ra := ra.below hB22
      replace rb := rb.below hB22
      replace rc := rc.below hB22
      replace rab := rab.below hB22
      replace rp := rp.below hB22
      replace rbc := rbc.below hB22
      replace rr := rr.below hB22
      replace rac := rac.below hB22
      replace rx := rx.below hB22
      have g22 : Below w.heap.size w w22 := (by repeat (first | exact Below.refl _ _ | assumption | refine b_then ?_ (by assumption) | refine b_alloc ?_ _ | refine b_drewN ?_ _ | refine b_drew ?_ | refine b_set ?_ (by omega) _ | refine b_set ?_ (by simp) _))
      clear hB22 g21
      have ry := RatAt.new w22 (x6) (y6) 23
      replace ra := ra.alloc (.cells #[.int .i64 (x6), .int .i64 (y6)] 23)
      replace rb := rb.alloc (.cells #[.int .i64 (x6), .int .i64 (y6)] 23)
      replace rc := rc.alloc (.cells #[.int .i64 (x6), .int .i64 (y6)] 23)
      replace rab := rab.alloc (.cells #[.int .i64 (x6), .int .i64 (y6)] 23)
      replace rp := rp.alloc (.cells #[.int .i64 (x6), .int .i64 (y6)] 23)
      replace rbc := rbc.alloc (.cells #[.int .i64 (x6), .int .i64 (y6)] 23)
      replace rr := rr.alloc (.cells #[.int .i64 (x6), .int .i64 (y6)] 23)
      replace rac := rac.alloc (.cells #[.int .i64 (x6), .int .i64 (y6)] 23)
      replace rx := rx.alloc (.cells #[.int .i64 (x6), .int .i64 (y6)] 23)
      have rxl := rx.1
      have rx0 := rx.2.1
      have rx1 := rx.2.2
      have ryl := ry.1
      have ry0 := ry.2.1
      have ry1 := ry.2.2
      have gz : Below w.heap.size w (w22.alloc (.cells #[.int .i64 x6, .int .i64 y6] 23)) := (by repeat (first | exact Below.refl _ _ | assumption | refine b_then ?_ (by assumption) | refine b_alloc ?_ _ | refine b_drewN ?_ _ | refine b_drew ?_ | refine b_set ?_ (by omega) _ | refine b_set ?_ (by simp) _))
      go_wp2_with fail
      go_meet
      case rel => first | exact ⟨ra, rb, rc, rab, rp, rbc, rr, rac, gz⟩ | ((repeat apply Exists.intro); exact ⟨⟨ra, rb, rc, rab, rp, rbc, rr, rac, gz⟩, rfl⟩)
  case rest =>
  clear ra rb rc rab rp rbc rr rac
  obtain ⟨ra, rb, rc, rab, rp, rbc, rr, rac, gc⟩ := hcut
  clear gW
  obtain ⟨V0, rfl⟩ : ∃ V0 : World, V0 = wc := ⟨_, rfl⟩
  go_upto_region 17 with (fail)
  obtain ⟨B126, hB⟩ : ∃ B : Bool, (z2 == 0 && z4 == 0) = B := ⟨_, rfl⟩
  have HB126 := hid hB
  clear hB
  go_cut [126] (fun s wx => s = .bool B126 ∧ wx = V0)
  case first =>
    by_cases e1 : z2 = 0
    · by_cases e2 : z4 = 0
      · have hb : B126 = true := by rw [← HB126.out]; simp [e1, e2]
        have e1' : (z2 == 0) = true := beq_iff_eq.2 e1
        have e2' : (z4 == 0) = true := beq_iff_eq.2 e2
        clear e1 e2 HB126
        subst hb
        go_wp2_with fail
        go_meet
        case rel => first | exact ⟨rfl, rfl⟩ | ((repeat apply Exists.intro); exact ⟨⟨rfl, rfl⟩, rfl⟩)
      · have hb : B126 = false := by rw [← HB126.out]; simp [e2]
        have e1' : (z2 == 0) = true := beq_iff_eq.2 e1
        have e2' : (z4 == 0) = false := beq_eq_false_iff_ne.2 e2
        clear e1 e2 HB126
        subst hb
        go_wp2_with fail
        go_meet
        case rel => first | exact ⟨rfl, rfl⟩ | ((repeat apply Exists.intro); exact ⟨⟨rfl, rfl⟩, rfl⟩)
    · have hb : B126 = false := by rw [← HB126.out]; simp [e1]
      have e1' : (z2 == 0) = false := beq_eq_false_iff_ne.2 e1
      clear e1 HB126
      subst hb
      go_wp2_with fail
      go_meet
      case rel => first | exact ⟨rfl, rfl⟩ | ((repeat apply Exists.intro); exact ⟨⟨rfl, rfl⟩, rfl⟩)
  case rest =>
  obtain ⟨rfl, rfl⟩ := hcut
  go_upto_if 126 with (fail)
  go_cut [] (fun wx => RatAt wx w.heap.size a1 a2 ∧ RatAt wx (w.heap.size + 1) b1 b2 ∧ RatAt wx (w.heap.size + 1 + 1) c1 c2 ∧ RatAt wx w2.heap.size x1 y1 ∧ RatAt wx w4.heap.size x2 y2 ∧ RatAt wx w6.heap.size x3 y3 ∧ RatAt wx w7.heap.size x4 y4 ∧ RatAt wx w8.heap.size x5 y5 ∧ Below w.heap.size w wx)
  case first =>
    cases B126
    · go_wp2_with fail
      go_meet
      case rel => first | exact ⟨ra, rb, rc, rab, rp, rbc, rr, rac, gc⟩ | ((repeat apply Exists.intro); exact ⟨⟨ra, rb, rc, rab, rp, rbc, rr, rac, gc⟩, rfl⟩)
    · have hz := HB126.out
      simp only [Bool.and_eq_true, beq_iff_eq] at hz
      have hl := LM.out hz.1 hz.2
      have L' := hid hl
      clear hl hz HB126
      have rpl := rp.1
      have rp0 := rp.2.1
      have rp1 := rp.2.2
      have rcl := rc.1
      have rc0 := rc.2.1
      have rc1 := rc.2.2
      go_wp2_with fail
      refine (Mul_any x2 y2 c1 c2 _).mono ?_
      rintro e w31 ⟨rfl, hB31⟩
      rw [L'.out.1]
      dsimp only [ratV]
      clear rpl rp0 rp1 rcl rc0 rc1
      replace ra := ra.below hB31
      replace rb := rb.below hB31
      replace rc := rc.below hB31
      replace rab := rab.below hB31
      replace rp := rp.below hB31
      replace rbc := rbc.below hB31
      replace rr := rr.below hB31
      replace rac := rac.below hB31
      have g31 : Below w.heap.size w w31 := (by repeat (first | exact Below.refl _ _ | assumption | refine b_then ?_ (by assumption) | refine b_alloc ?_ _ | refine b_drewN ?_ _ | refine b_drew ?_ | refine b_set ?_ (by omega) _ | refine b_set ?_ (by simp) _))
      clear hB31 gc
      have rx := RatAt.new w31 (x7) (y7) 23
      replace ra := ra.alloc (.cells #[.int .i64 (x7), .int .i64 (y7)] 23)
      replace rb := rb.alloc (.cells #[.int .i64 (x7), .int .i64 (y7)] 23)
      replace rc := rc.alloc (.cells #[.int .i64 (x7), .int .i64 (y7)] 23)
      replace rab := rab.alloc (.cells #[.int .i64 (x7), .int .i64 (y7)] 23)
      replace rp := rp.alloc (.cells #[.int .i64 (x7), .int .i64 (y7)] 23)
      replace rbc := rbc.alloc (.cells #[.int .i64 (x7), .int .i64 (y7)] 23)
      replace rr := rr.alloc (.cells #[.int .i64 (x7), .int .i64 (y7)] 23)
      replace rac := rac.alloc (.cells #[.int .i64 (x7), .int .i64 (y7)] 23)
      have ral := ra.1
      have ra0 := ra.2.1
      have ra1 := ra.2.2
      have rrl := rr.1
      have rr0 := rr.2.1
      have rr1 := rr.2.2
      go_wp2_with fail
      refine (Mul_any a1 a2 x4 y4 _).mono ?_
      rintro e w32 ⟨rfl, hB32⟩
      rw [L'.out.2]
      dsimp only [ratV]
      clear ral ra0 ra1 rrl rr0 rr1
      replace ra := ra.below hB32
      replace rb := rb.below hB32
      replace rc := rc.below hB32
      replace rab := rab.below hB32
      replace rp := rp.below hB32
      replace rbc := rbc.below hB32
      replace rr := rr.below hB32
      replace rac := rac.below hB32
      replace rx := rx.below hB32
      have g32 : Below w.heap.size w w32 := (by repeat (first | exact Below.refl _ _ | assumption | refine b_then ?_ (by assumption) | refine b_alloc ?_ _ | refine b_drewN ?_ _ | refine b_drew ?_ | refine b_set ?_ (by omega) _ | refine b_set ?_ (by simp) _))
      clear hB32 g31
      have ry := RatAt.new w32 (x7) (y7) 23
      replace ra := ra.alloc (.cells #[.int .i64 (x7), .int .i64 (y7)] 23)
      replace rb := rb.alloc (.cells #[.int .i64 (x7), .int .i64 (y7)] 23)
      replace rc := rc.alloc (.cells #[.int .i64 (x7), .int .i64 (y7)] 23)
      replace rab := rab.alloc (.cells #[.int .i64 (x7), .int .i64 (y7)] 23)
      replace rp := rp.alloc (.cells #[.int .i64 (x7), .int .i64 (y7)] 23)
      replace rbc := rbc.alloc (.cells #[.int .i64 (x7), .int .i64 (y7)] 23)
      replace rr := rr.alloc (.cells #[.int .i64 (x7), .int .i64 (y7)] 23)
      replace rac := rac.alloc (.cells #[.int .i64 (x7), .int .i64 (y7)] 23)
      replace rx := rx.alloc (.cells #[.int .i64 (x7), .int .i64 (y7)] 23)
      have rxl := rx.1
      have rx0 := rx.2.1
      have rx1 := rx.2.2
      have ryl := ry.1
      have ry0 := ry.2.1
      have ry1 := ry.2.2
      have gz : Below w.heap.size w (w32.alloc (.cells #[.int .i64 x7, .int .i64 y7] 23)) := (by repeat (first | exact Below.refl _ _ | assumption | refine b_then ?_ (by assumption) | refine b_alloc ?_ _ | refine b_drewN ?_ _ | refine b_drew ?_ | refine b_set ?_ (by omega) _ | refine b_set ?_ (by simp) _))
      go_wp2_with fail
      go_meet
      case rel => first | exact ⟨ra, rb, rc, rab, rp, rbc, rr, rac, gz⟩ | ((repeat apply Exists.intro); exact ⟨⟨ra, rb, rc, rab, rp, rbc, rr, rac, gz⟩, rfl⟩)
  case rest =>
  clear ra rb rc rab rp rbc rr rac
  obtain ⟨ra, rb, rc, rab, rp, rbc, rr, rac, gd⟩ := hcut
  clear gc
  by_cases e1 : z3 = 0
  · by_cases e2 : z2 = 0
    · by_cases e3 : z5 = 0
      · have hl := LD.out e1 e2 e3
        have L' := hid hl
        clear hl LD LA LM
        subst e1; subst e2; subst e3
        have ral := ra.1
        have ra0 := ra.2.1
        have ra1 := ra.2.2
        have rbcl := rbc.1
        have rbc0 := rbc.2.1
        have rbc1 := rbc.2.2
        go_wp2_with fail
        refine (Mul_any a1 a2 x3 y3 _).mono ?_
        rintro e w41 ⟨rfl, hB41⟩
        rw [L'.out.1]
        dsimp only [ratV]
        clear ral ra0 ra1 rbcl rbc0 rbc1
        replace ra := ra.below hB41
        replace rb := rb.below hB41
        replace rc := rc.below hB41
        replace rab := rab.below hB41
        replace rp := rp.below hB41
        replace rbc := rbc.below hB41
        replace rr := rr.below hB41
        replace rac := rac.below hB41
        have g41 : Below w.heap.size w w41 := (by repeat (first | exact Below.refl _ _ | assumption | refine b_then ?_ (by assumption) | refine b_alloc ?_ _ | refine b_drewN ?_ _ | refine b_drew ?_ | refine b_set ?_ (by omega) _ | refine b_set ?_ (by simp) _))
        clear hB41 gd
        have rx := RatAt.new w41 (x8) (y8) 23
        replace ra := ra.alloc (.cells #[.int .i64 (x8), .int .i64 (y8)] 23)
        replace rb := rb.alloc (.cells #[.int .i64 (x8), .int .i64 (y8)] 23)
        replace rc := rc.alloc (.cells #[.int .i64 (x8), .int .i64 (y8)] 23)
        replace rab := rab.alloc (.cells #[.int .i64 (x8), .int .i64 (y8)] 23)
        replace rp := rp.alloc (.cells #[.int .i64 (x8), .int .i64 (y8)] 23)
        replace rbc := rbc.alloc (.cells #[.int .i64 (x8), .int .i64 (y8)] 23)
        replace rr := rr.alloc (.cells #[.int .i64 (x8), .int .i64 (y8)] 23)
        replace rac := rac.alloc (.cells #[.int .i64 (x8), .int .i64 (y8)] 23)
        have rpl := rp.1
        have rp0 := rp.2.1
        have rp1 := rp.2.2
        have racl := rac.1
        have rac0 := rac.2.1
        have rac1 := rac.2.2
        go_wp2_with fail
        refine (Add_any x2 y2 x5 y5 _).mono ?_
        rintro e w42 ⟨rfl, hB42⟩
        rw [L'.out.2]
        dsimp only [ratV]
        clear rpl rp0 rp1 racl rac0 rac1
        replace ra := ra.below hB42
        replace rb := rb.below hB42
        replace rc := rc.below hB42
        replace rab := rab.below hB42
        replace rp := rp.below hB42
        replace rbc := rbc.below hB42
        replace rr := rr.below hB42
        replace rac := rac.below hB42
        replace rx := rx.below hB42
        have g42 : Below w.heap.size w w42 := (by repeat (first | exact Below.refl _ _ | assumption | refine b_then ?_ (by assumption) | refine b_alloc ?_ _ | refine b_drewN ?_ _ | refine b_drew ?_ | refine b_set ?_ (by omega) _ | refine b_set ?_ (by simp) _))
        clear hB42 g41
        have ry := RatAt.new w42 (x8) (y8) 23
        replace ra := ra.alloc (.cells #[.int .i64 (x8), .int .i64 (y8)] 23)
        replace rb := rb.alloc (.cells #[.int .i64 (x8), .int .i64 (y8)] 23)
        replace rc := rc.alloc (.cells #[.int .i64 (x8), .int .i64 (y8)] 23)
        replace rab := rab.alloc (.cells #[.int .i64 (x8), .int .i64 (y8)] 23)
        replace rp := rp.alloc (.cells #[.int .i64 (x8), .int .i64 (y8)] 23)
        replace rbc := rbc.alloc (.cells #[.int .i64 (x8), .int .i64 (y8)] 23)
        replace rr := rr.alloc (.cells #[.int .i64 (x8), .int .i64 (y8)] 23)
        replace rac := rac.alloc (.cells #[.int .i64 (x8), .int .i64 (y8)] 23)
        replace rx := rx.alloc (.cells #[.int .i64 (x8), .int .i64 (y8)] 23)
        have rxl := rx.1
        have rx0 := rx.2.1
        have rx1 := rx.2.2
        have ryl := ry.1
        have ry0 := ry.2.1
        have ry1 := ry.2.2
        go_wp2_with fail
        go_ret
        exact ⟨by simp, (by repeat (first | exact Below.refl _ _ | assumption | refine b_then ?_ (by assumption) | refine b_alloc ?_ _ | refine b_drewN ?_ _ | refine b_drew ?_ | refine b_set ?_ (by omega) _ | refine b_set ?_ (by simp) _))⟩
      · have e1' : (z3 != 0) = false := by simp [e1]
        have e2' : (z2 != 0) = false := by simp [e2]
        have e3' : (z5 != 0) = true := bne_iff_ne.2 e3
        clear e1 e2 e3
        go_wp2_with fail
        go_ret
        exact ⟨by simp, (by repeat (first | exact Below.refl _ _ | assumption | refine b_then ?_ (by assumption) | refine b_alloc ?_ _ | refine b_drewN ?_ _ | refine b_drew ?_ | refine b_set ?_ (by omega) _ | refine b_set ?_ (by simp) _))⟩
    · have e1' : (z3 != 0) = false := by simp [e1]
      have e2' : (z2 != 0) = true := bne_iff_ne.2 e2
      clear e1 e2
      go_wp2_with fail
      go_ret
      exact ⟨by simp, (by repeat (first | exact Below.refl _ _ | assumption | refine b_then ?_ (by assumption) | refine b_alloc ?_ _ | refine b_drewN ?_ _ | refine b_drew ?_ | refine b_set ?_ (by omega) _ | refine b_set ?_ (by simp) _))⟩
  · have e1' : (z3 != 0) = true := bne_iff_ne.2 e1
    clear e1
    go_wp2_with fail
    go_ret
    exact ⟨by simp, (by repeat (first | exact Below.refl _ _ | assumption | refine b_then ?_ (by assumption) | refine b_alloc ?_ _ | refine b_drewN ?_ _ | refine b_drew ?_ | refine b_set ?_ (by omega) _ | refine b_set ?_ (by simp) _))⟩

theorem field_walk (a1 a2 b1 b2 c1 c2 : Int) (w : World) : Calls Try.prog 7 #[.agg #[.int .i64 a1, .int .i64 a2], .agg #[.int .i64 b1, .int .i64 b2], .agg #[.int .i64 c1, .int .i64 c2]] w fun e w' => e = .returned (.bool true) ∧ Below w.heap.size w w' := by
  obtain ⟨x1, y1, z1, A1⟩ : ∃ x y z, addR a1 a2 b1 b2 = (x, y, z) := ⟨_, _, _, rfl⟩
  obtain ⟨x2, y2, z2, M1⟩ : ∃ x y z, mulR a1 a2 b1 b2 = (x, y, z) := ⟨_, _, _, rfl⟩
  obtain ⟨x3, y3, z3, A2⟩ : ∃ x y z, addR b1 b2 c1 c2 = (x, y, z) := ⟨_, _, _, rfl⟩
  obtain ⟨x4, y4, z4, M2⟩ : ∃ x y z, mulR b1 b2 c1 c2 = (x, y, z) := ⟨_, _, _, rfl⟩
  obtain ⟨x5, y5, z5, M3⟩ : ∃ x y z, mulR a1 a2 c1 c2 = (x, y, z) := ⟨_, _, _, rfl⟩
  obtain ⟨x6, y6, z6, A3⟩ : ∃ x y z, addR a1 a2 x3 y3 = (x, y, z) := ⟨_, _, _, rfl⟩
  obtain ⟨x7, y7, z7, M4⟩ : ∃ x y z, mulR a1 a2 x4 y4 = (x, y, z) := ⟨_, _, _, rfl⟩
  obtain ⟨x8, y8, z8, M5⟩ : ∃ x y z, mulR a1 a2 x3 y3 = (x, y, z) := ⟨_, _, _, rfl⟩
  exact field_core a1 a2 b1 b2 c1 c2 x1 y1 z1 x2 y2 z2 x3 y3 z3 x4 y4 z4 x5 y5 z5 x6 y6 z6 x7 y7 z7 x8 y8 z8 A1 ((addR_comm _ _ _ _).trans A1) M1 ((mulR_comm _ _ _ _).trans M1) A2 M2 M3
    (fun e1 e3 => ⟨(add_assoc_law A1 A2 e1 e3).trans A3, A3⟩) (fun e2 e4 => ⟨(mul_assoc_law M1 M2 e2 e4).trans M4, M4⟩) (fun e3 e2 e5 => ⟨M5, (distrib_law A2 M1 M3 e3 e2 e5).symm.trans M5⟩) w

end Go.Proofs.Ytfcibldknamekaa
namespace Go.Proofs.Ytfcibldknamekaa.Field
open Go.ChangeShapes Go.WideShapes Go.ChangeAt Go.RowKit Go.Joins

theorem own : ownKnob Try.prog.godebug = none := by kernel_rfl
theorem laidOut : laidOutB Try.prog = true := by kernel_rfl
theorem cells23 : Try.prog.cellsOf 23 = 2 := by kernel_rfl

set_option maxRecDepth 100000 in
theorem lifted (os : Os) (started : os.Started) (H : Type) (enc : TypeId × Value → H) :
    ReturnsInHanded {} Try.checked os 7 .any (Rows.rationalFieldSpec.pre6 enc Try.prog Try.f7 Rows.rationalFieldRow.domain false) (Rows.rationalFieldSpec.post enc Try.prog Try.f7 false true false false) := by
  refine returnsInHanded_of_change (C := Try.checked) own started (by kernel_rfl) Try.func7
    (ChangeSpec.witness6 (enc := enc) (C := Try.checked) false ⟨#[], #[.agg #[.int .i64 0, .int .i64 0], .agg #[.int .i64 0, .int .i64 0], .agg #[.int .i64 0, .int .i64 0]], []⟩ 8 (by kernel_rfl) (by kernel_rfl) (by kernel_rfl) (by kernel_rfl)) ?_
  intro W base args ds gs before hval0 hW hcnd _
  have hval : ∀ (j : Nat) t v, Try.f7.params[j]? = some t → args[j]? = some v → Value.okWide Try.prog W .any base t v := hval0
  have hW' := hW
  obtain ⟨p, q, hA0, hV, rfl, hfz, hnd⟩ := hW
  have hA : DataW.TrodAll enc Try.prog W 0 (fun _ => true) true Try.f7.params.toList args.toList ds p := hA0
  rw [Try.params7] at hA hval
  obtain ⟨v0, vs0, d0, ds0, p0, q0, hargs, rfl, rfl, h0, r0⟩ := trodAll_cons hA
  obtain ⟨v1, vs1, d1, ds1, p1, q1, rfl, rfl, rfl, h1, r1⟩ := trodAll_cons r0
  obtain ⟨v2, vs2, d2, ds2, p2, q2, rfl, rfl, rfl, h2, r2⟩ := trodAll_cons r1
  obtain ⟨rfl, rfl, rfl⟩ := trodAll_nil r2
  obtain rfl : args = #[v0, v1, v2] := by cases args; simp_all
  obtain ⟨rfl, rfl⟩ := trodVars_none hV
  have k0 := h0
  have lt0 : ∀ x ∈ p0, x.block < W.heap.size := by obtain ⟨m, hm⟩ := k0; exact DataW.trod_lt m _ _ _ hm
  obtain ⟨c0_0, c0_1, y0_0, y0_1, m0, rfl, rfl, rfl, hy0_0, hy0_1⟩ := open_agg2 Try.underlying23 (by kernel_rfl) cells23 (hval 0 23 v0 rfl rfl) h0
  obtain ⟨b0_0, e0_0, rfl, _⟩ := DataW.trod_int Try.underlying3 hy0_0
  simp at e0_0
  subst e0_0
  obtain ⟨b0_1, e0_1, rfl, _⟩ := DataW.trod_int Try.underlying3 hy0_1
  simp at e0_1
  subst e0_1
  have k1 := h1
  have lt1 : ∀ x ∈ p1, x.block < W.heap.size := by obtain ⟨m, hm⟩ := k1; exact DataW.trod_lt m _ _ _ hm
  obtain ⟨c1_0, c1_1, y1_0, y1_1, m1, rfl, rfl, rfl, hy1_0, hy1_1⟩ := open_agg2 Try.underlying23 (by kernel_rfl) cells23 (hval 1 23 v1 rfl rfl) h1
  obtain ⟨b1_0, e1_0, rfl, _⟩ := DataW.trod_int Try.underlying3 hy1_0
  simp at e1_0
  subst e1_0
  obtain ⟨b1_1, e1_1, rfl, _⟩ := DataW.trod_int Try.underlying3 hy1_1
  simp at e1_1
  subst e1_1
  have k2 := h2
  have lt2 : ∀ x ∈ p2, x.block < W.heap.size := by obtain ⟨m, hm⟩ := k2; exact DataW.trod_lt m _ _ _ hm
  obtain ⟨c2_0, c2_1, y2_0, y2_1, m2, rfl, rfl, rfl, hy2_0, hy2_1⟩ := open_agg2 Try.underlying23 (by kernel_rfl) cells23 (hval 2 23 v2 rfl rfl) h2
  obtain ⟨b2_0, e2_0, rfl, _⟩ := DataW.trod_int Try.underlying3 hy2_0
  simp at e2_0
  subst e2_0
  obtain ⟨b2_1, e2_1, rfl, _⟩ := DataW.trod_int Try.underlying3 hy2_1
  simp at e2_1
  subst e2_1
  clear hA0 hval0
  refine (field_walk b0_0 b0_1 b1_0 b1_1 b2_0 b2_1 W).mono fun e W' ⟨he, bel⟩ => ?_
  subst he
  exact ⟨_, rfl, _, _, _, [], _, [], hW', trodAll_mk1 (shut_bool Try.underlying4 _), (trodAll_cons_mk (Below.trod laidOut (by kernel_rfl) (of_decide_eq_true (by kernel_rfl)) k0 bel lt0) (trodAll_cons_mk (Below.trod laidOut (by kernel_rfl) (of_decide_eq_true (by kernel_rfl)) k1 bel lt1) (trodAll_cons_mk (Below.trod laidOut (by kernel_rfl) (of_decide_eq_true (by kernel_rfl)) k2 bel lt2) trodAll_mk0))), rfl, bel.frame _, fun h => by cases h⟩

theorem over : Rows.rationalFieldRow.holds Try.pinned (OpenSpec.ofChange Rows.rationalFieldSpec) :=
  OpenClaim.holds_of_wide 7 Try.f7 rfl rfl rfl rfl rfl rfl rfl ⟨rfl, rfl, rfl, rfl, rfl⟩ rfl rfl rfl rfl rfl (by kernel_rfl) Try.func7 (by kernel_rfl)
    (of_decide_eq_true (by kernel_rfl)) (by unfold Func.isWrapper; first | (rw [if_pos (by decide +kernel)]; kernel_rfl) | (rw [if_neg (by decide +kernel)]; exact ⟨rfl, rfl⟩))
    (fun os started H enc _ => lifted os started H enc)
end Go.Proofs.Ytfcibldknamekaa.Field
namespace Go.Proofs.Ytfcibldknamekaa
/-- The statement. -/
theorem field_holds : Rows.RationalFieldSaid := Field.over
end Go.Proofs.Ytfcibldknamekaa
