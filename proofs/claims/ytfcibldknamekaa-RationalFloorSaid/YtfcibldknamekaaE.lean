/- Contracts over package rational: Make, Add, Mul, Inverse, Less, Floor. -/
import Derived.Test.YtfcibldknamekaaD
namespace Go.Proofs.Ytfcibldknamekaa
open Go.RowKit
open Go.Lib (hid)

/-- What a calculation with the value q answers. -/
def res (ok : Prop) [Decidable ok] (q : Rat) : Int × Int × Int := if ok ∧ Fits q then (q.num, q.den, 0) else (0, 0, 70)

def okBounds (n d : Int) : Prop := d ≠ 0 ∧ -4611686018427387904 ≤ n ∧ n ≤ 4611686018427387904 ∧ -4611686018427387904 ≤ d ∧ d ≤ 4611686018427387904
instance (n d : Int) : Decidable (okBounds n d) := by unfold okBounds; infer_instance
def makeR (n d : Int) : Int × Int × Int := if okBounds n d then res True (Rat.divInt n d) else (0, 0, 1)

theorem door_none {fn : Func} {tmps : Array Value} {R : Ending → World → Prop} {w : World} (h : Leaves Try.prog fn tmps R [] .returning w) : bodyPostD Try.prog fn R .ret { tmps := tmps, defers := [] } w := h

def ratV (t : Int × Int × Int) : Value := .tuple #[.agg #[.int .i64 t.1, .int .i64 t.2.1], .int .i64 t.2.2]

theorem reduce_any (n d : Int) (w : World) (h0 : -9223372036854775807 ≤ n ∧ n ≤ 9223372036854775807) (h1 : -9223372036854775807 ≤ d ∧ d ≤ 9223372036854775807) (hd : d ≠ 0) :
    Calls Try.prog 26 #[.int .i64 n, .int .i64 d] w (RedPost (Rat.divInt n d) w) := by
  rcases Int.lt_or_gt_of_ne hd with h | h
  · exact reduce_neg n d w h0 h1 h
  · exact reduce_pos n d w h0 h1 h

/-- What a function's two results read as. -/
theorem results_rat {fn : Func} {tmps : Array Value} {w : World} {r e : Nat} {t u : Tmp} (hres : fn.results = #[.cell t 23, .cell u 25]) (ht : tmps.getD t undef = .pointer (some ⟨r, 0, none⟩)) (hu : tmps.getD u undef = .pointer (some ⟨e, 0, none⟩))
    (N D E : Int) (hc0 : w.cell? ⟨r, 0, none⟩ = some (.int .i64 N)) (hc1 : w.cell? ⟨r, 1, none⟩ = some (.int .i64 D)) (hc2 : w.cell? ⟨e, 0, none⟩ = some (.int .i64 E)) :
    (results fn tmps).run Try.prog w = .ok (ratV (N, D, E)) w := by
  simp only [Array.getD_eq_getD_getElem?] at ht hu
  simp [results, hres, go_sem, ht, hu, hc0, hc1, hc2, ratV]

theorem leave_plain {fn : Func} {tmps : Array Value} {R : Ending → World → Prop} {w : World} {r e : Nat} {t u : Tmp} (hres : fn.results = #[.cell t 23, .cell u 25]) (ht : tmps.getD t undef = .pointer (some ⟨r, 0, none⟩)) (hu : tmps.getD u undef = .pointer (some ⟨e, 0, none⟩))
    (N D E : Int) (hc0 : w.cell? ⟨r, 0, none⟩ = some (.int .i64 N)) (hc1 : w.cell? ⟨r, 1, none⟩ = some (.int .i64 D)) (hc2 : w.cell? ⟨e, 0, none⟩ = some (.int .i64 E)) (hR : R (.returned (ratV (N, D, E))) w) :
    Leaves Try.prog fn tmps R [] .returning w := ⟨_, results_rat hres ht hu N D E hc0 hc1 hc2, hR⟩

/-- A frame that has deferred 'caught' returns: its results as they stand. -/
theorem leave_ok {fn : Func} {tmps : Array Value} {R : Ending → World → Prop} {w : World} {r e : Nat} {t u : Tmp} (hres : fn.results = #[.cell t 23, .cell u 25]) (ht : tmps.getD t undef = .pointer (some ⟨r, 0, none⟩)) (hu : tmps.getD u undef = .pointer (some ⟨e, 0, none⟩))
    (N D E : Int) (hc0 : w.cell? ⟨r, 0, none⟩ = some (.int .i64 N)) (hc1 : w.cell? ⟨r, 1, none⟩ = some (.int .i64 D)) (hc2 : w.cell? ⟨e, 0, none⟩ = some (.int .i64 E)) (hR : R (.returned (ratV (N, D, E))) w) :
    Leaves Try.prog fn tmps R [{ target := .fn (.func 25) #[], args := #[.pointer (some ⟨r, 0, none⟩), .pointer (some ⟨e, 0, none⟩)] }] .returning w := by
  refine leaves_cons (f := 25) (args := #[.pointer (some ⟨r, 0, none⟩), .pointer (some ⟨e, 0, none⟩)]) (by simp) (by simp [go_sem]) ?_
  refine (caught_idle r e w).mono ?_
  rintro x u' w'' ⟨rfl, rfl, rfl⟩
  exact leave_plain hres ht hu N D E hc0 hc1 hc2 hR

/-- A frame that has deferred 'caught' panics: it returns 'does not fit'. -/
theorem leave_caught {fn : Func} {tmps : Array Value} {R : Ending → World → Prop} {w : World} {r e : Nat} {t u : Tmp} (hres : fn.results = #[.cell t 23, .cell u 25]) (ht : tmps.getD t undef = .pointer (some ⟨r, 0, none⟩)) (hu : tmps.getD u undef = .pointer (some ⟨e, 0, none⟩))
    (a b c : Value) (hc0 : w.cell? ⟨r, 0, none⟩ = some a) (hc1 : w.cell? ⟨r, 1, none⟩ = some b) (hc2 : w.cell? ⟨e, 0, none⟩ = some c)
    (hf0 : w.frozen? ⟨r, 0, none⟩ = false) (hf1 : w.frozen? ⟨r, 1, none⟩ = false) (hf2 : w.frozen? ⟨e, 0, none⟩ = false) (hne : r ≠ e)
    (hR : R (.returned (ratV (0, 0, 70))) (((w.setCell ⟨r, 0, none⟩ (.int .i64 0)).setCell ⟨r, 1, none⟩ (.int .i64 0)).setCell ⟨e, 0, none⟩ (.int .i64 70))) :
    Leaves Try.prog fn tmps R [{ target := .fn (.func 25) #[], args := #[.pointer (some ⟨r, 0, none⟩), .pointer (some ⟨e, 0, none⟩)] }] (.panicking [{ v := .iface 53 (.agg #[]), recovered := false }]) w := by
  refine leaves_cons (f := 25) (args := #[.pointer (some ⟨r, 0, none⟩), .pointer (some ⟨e, 0, none⟩)]) (by simp) (by simp [go_sem]) ?_
  refine (caught_panicking r e a b c 53 (.agg #[]) [] w hc0 hc1 hc2 hf0 hf1 hf2 hne).mono ?_
  rintro x u' w'' ⟨rfl, rfl, rfl⟩
  refine leave_plain hres ht hu 0 0 70 ?_ ?_ ?_ hR
  · simp [go_sem, hc0]
  · simp [go_sem, hc1]
  · simp [go_sem, hc2]

theorem makeR_ok {n d : Int} (h : okBounds n d) (hf : Fits (Rat.divInt n d)) : makeR n d = ((Rat.divInt n d).num, ((Rat.divInt n d).den : Int), 0) := by
  simp [makeR, h, res, hf]
theorem makeR_no {n d : Int} (h : okBounds n d) (hf : ¬ Fits (Rat.divInt n d)) : makeR n d = (0, 0, 70) := by
  simp [makeR, h, res, hf]
theorem makeR_arg {n d : Int} (h : ¬ okBounds n d) : makeR n d = (0, 0, 1) := by
  simp [makeR, h]

set_option maxHeartbeats 800000 in
/-- Make. -/
theorem Make_any (n d : Int) (w : World) : Calls Try.prog 11 #[.int .i64 n, .int .i64 d] w fun e w' => e = .returned (ratV (makeR n d)) ∧ Below w.heap.size w w' := by
  by_cases c0 : d = 0
  · have hr := hid (makeR_arg (n := n) (d := d) (fun h => h.1 c0))
    subst c0
    go_enter_defers Try.func11, Try.ntmps11
    go_wp2_with fail
    refine door_none ?_
    refine leave_plain (fn := Try.f11) (t := 4) (u := 5) (r := w.heap.size) (e := w.heap.size + 1) rfl rfl rfl 0 0 1 (by simp [go_sem]) (by simp [go_sem]) (by simp [go_sem]) ⟨by rw [hr.out], (by repeat (first | exact Below.refl _ _ | assumption | refine b_then ?_ (by assumption) | refine b_alloc ?_ _ | refine b_drewN ?_ _ | refine b_drew ?_ | refine b_set ?_ (by omega) _ | refine b_set ?_ (by simp) _))⟩
  · have hb : (d == 0) = false := beq_eq_false_iff_ne.2 c0
    by_cases c1 : -4611686018427387904 ≤ n
    · by_cases c2 : n ≤ 4611686018427387904
      · by_cases c3 : -4611686018427387904 ≤ d
        · by_cases c4 : d ≤ 4611686018427387904
          · by_cases hf : Fits (Rat.divInt n d)
            · have hr := hid (makeR_ok (n := n) (d := d) ⟨c0, c1, c2, c3, c4⟩ hf)
              go_enter_defers Try.func11, Try.ntmps11
              go_wp2_with fail
              refine (reduce_any n d _ (by omega) (by omega) c0).mono ?_
              rintro e w1 ⟨hq, hB⟩
              rw [if_pos hf] at hq
              subst hq
              have hc0 : w1.cell? ⟨w.heap.size, 0, none⟩ = some (.int .i64 0) := (hB.cell (p := ⟨w.heap.size, 0, none⟩) (by simp <;> omega)).trans (by simp [go_sem])
              have hf0 : w1.frozen? ⟨w.heap.size, 0, none⟩ = false := (hB.frozen (p := ⟨w.heap.size, 0, none⟩) (by simp <;> omega)).trans (by simp [go_sem])
              have hc1 : w1.cell? ⟨w.heap.size, 1, none⟩ = some (.int .i64 0) := (hB.cell (p := ⟨w.heap.size, 1, none⟩) (by simp <;> omega)).trans (by simp [go_sem])
              have hf1 : w1.frozen? ⟨w.heap.size, 1, none⟩ = false := (hB.frozen (p := ⟨w.heap.size, 1, none⟩) (by simp <;> omega)).trans (by simp [go_sem])
              have hc2 : w1.cell? ⟨w.heap.size + 1, 0, none⟩ = some (.int .i64 0) := (hB.cell (p := ⟨w.heap.size + 1, 0, none⟩) (by simp <;> omega)).trans (by simp [go_sem])
              have hf2 : w1.frozen? ⟨w.heap.size + 1, 0, none⟩ = false := (hB.frozen (p := ⟨w.heap.size + 1, 0, none⟩) (by simp <;> omega)).trans (by simp [go_sem])
              generalize (Rat.divInt n d).num = A at hr ⊢
              generalize ((Rat.divInt n d).den : Int) = B at hr ⊢
              go_wp2_with fail
              refine leave_ok (r := w.heap.size) (e := w.heap.size + 1) rfl rfl rfl A B 0 (by simp [go_sem, hc0]) (by simp [go_sem, hc1]) (by simp [go_sem, hc2]) ⟨by rw [hr.out], (by repeat (first | exact Below.refl _ _ | assumption | refine b_then ?_ (by assumption) | refine b_alloc ?_ _ | refine b_drewN ?_ _ | refine b_drew ?_ | refine b_set ?_ (by omega) _ | refine b_set ?_ (by simp) _))⟩
            · have hr := hid (makeR_no (n := n) (d := d) ⟨c0, c1, c2, c3, c4⟩ hf)
              go_enter_defers Try.func11, Try.ntmps11
              go_wp2_with fail
              refine (reduce_any n d _ (by omega) (by omega) c0).mono ?_
              rintro e w1 ⟨hq, hB⟩
              rw [if_neg hf] at hq
              subst hq
              have hc0 : w1.cell? ⟨w.heap.size, 0, none⟩ = some (.int .i64 0) := (hB.cell (p := ⟨w.heap.size, 0, none⟩) (by simp <;> omega)).trans (by simp [go_sem])
              have hf0 : w1.frozen? ⟨w.heap.size, 0, none⟩ = false := (hB.frozen (p := ⟨w.heap.size, 0, none⟩) (by simp <;> omega)).trans (by simp [go_sem])
              have hc1 : w1.cell? ⟨w.heap.size, 1, none⟩ = some (.int .i64 0) := (hB.cell (p := ⟨w.heap.size, 1, none⟩) (by simp <;> omega)).trans (by simp [go_sem])
              have hf1 : w1.frozen? ⟨w.heap.size, 1, none⟩ = false := (hB.frozen (p := ⟨w.heap.size, 1, none⟩) (by simp <;> omega)).trans (by simp [go_sem])
              have hc2 : w1.cell? ⟨w.heap.size + 1, 0, none⟩ = some (.int .i64 0) := (hB.cell (p := ⟨w.heap.size + 1, 0, none⟩) (by simp <;> omega)).trans (by simp [go_sem])
              have hf2 : w1.frozen? ⟨w.heap.size + 1, 0, none⟩ = false := (hB.frozen (p := ⟨w.heap.size + 1, 0, none⟩) (by simp <;> omega)).trans (by simp [go_sem])
              go_wp2_with fail
              refine leave_caught (r := w.heap.size) (e := w.heap.size + 1) rfl rfl rfl _ _ _ hc0 hc1 hc2 hf0 hf1 hf2 (by omega) ⟨by rw [hr.out], (by repeat (first | exact Below.refl _ _ | assumption | refine b_then ?_ (by assumption) | refine b_alloc ?_ _ | refine b_drewN ?_ _ | refine b_drew ?_ | refine b_set ?_ (by omega) _ | refine b_set ?_ (by simp) _))⟩
          · have c4' : 4611686018427387904 < d := by omega
            have hr := hid (makeR_arg (n := n) (d := d) (fun h => c4 h.2.2.2.2))
            go_enter_defers Try.func11, Try.ntmps11
            go_wp2_with fail
            refine door_none ?_
            refine leave_plain (fn := Try.f11) (t := 4) (u := 5) (r := w.heap.size) (e := w.heap.size + 1) rfl rfl rfl 0 0 1 (by simp [go_sem]) (by simp [go_sem]) (by simp [go_sem]) ⟨by rw [hr.out], (by repeat (first | exact Below.refl _ _ | assumption | refine b_then ?_ (by assumption) | refine b_alloc ?_ _ | refine b_drewN ?_ _ | refine b_drew ?_ | refine b_set ?_ (by omega) _ | refine b_set ?_ (by simp) _))⟩
        · have c3' : d < -4611686018427387904 := by omega
          have hr := hid (makeR_arg (n := n) (d := d) (fun h => c3 h.2.2.2.1))
          go_enter_defers Try.func11, Try.ntmps11
          go_wp2_with fail
          refine door_none ?_
          refine leave_plain (fn := Try.f11) (t := 4) (u := 5) (r := w.heap.size) (e := w.heap.size + 1) rfl rfl rfl 0 0 1 (by simp [go_sem]) (by simp [go_sem]) (by simp [go_sem]) ⟨by rw [hr.out], (by repeat (first | exact Below.refl _ _ | assumption | refine b_then ?_ (by assumption) | refine b_alloc ?_ _ | refine b_drewN ?_ _ | refine b_drew ?_ | refine b_set ?_ (by omega) _ | refine b_set ?_ (by simp) _))⟩
      · have c2' : 4611686018427387904 < n := by omega
        have hr := hid (makeR_arg (n := n) (d := d) (fun h => c2 h.2.2.1))
        go_enter_defers Try.func11, Try.ntmps11
        go_wp2_with fail
        refine door_none ?_
        refine leave_plain (fn := Try.f11) (t := 4) (u := 5) (r := w.heap.size) (e := w.heap.size + 1) rfl rfl rfl 0 0 1 (by simp [go_sem]) (by simp [go_sem]) (by simp [go_sem]) ⟨by rw [hr.out], (by repeat (first | exact Below.refl _ _ | assumption | refine b_then ?_ (by assumption) | refine b_alloc ?_ _ | refine b_drewN ?_ _ | refine b_drew ?_ | refine b_set ?_ (by omega) _ | refine b_set ?_ (by simp) _))⟩
    · have c1' : n < -4611686018427387904 := by omega
      have hr := hid (makeR_arg (n := n) (d := d) (fun h => c1 h.2.1))
      go_enter_defers Try.func11, Try.ntmps11
      go_wp2_with fail
      refine door_none ?_
      refine leave_plain (fn := Try.f11) (t := 4) (u := 5) (r := w.heap.size) (e := w.heap.size + 1) rfl rfl rfl 0 0 1 (by simp [go_sem]) (by simp [go_sem]) (by simp [go_sem]) ⟨by rw [hr.out], (by repeat (first | exact Below.refl _ _ | assumption | refine b_then ?_ (by assumption) | refine b_alloc ?_ _ | refine b_drewN ?_ _ | refine b_drew ?_ | refine b_set ?_ (by omega) _ | refine b_set ?_ (by simp) _))⟩

end Go.Proofs.Ytfcibldknamekaa
