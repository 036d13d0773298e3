/- Find, At, differ. -/
import Derived.Test.YtdnjpfjiaomlgaaC4
import Derived.Test.YtdnjpfjiaomlgaaBV
import Derived.IntWalk
import Derived.Deep.DeepCutAuto
namespace Go.Proofs.Ytdnjpfjiaomlgaa
open Go.RowKit
open Go.Lib (hid)

/-- What a cut around a test leaves. -/
def CutB (V : World) (B : Bool) (q : Value) (wx : World) : Prop := q = .bool B ∧ ∃ y : After V, wx = y.w
theorem CutB.mk {V : World} {B : Bool} (y : After V) : CutB V B (.bool B) y.w := ⟨rfl, y, rfl⟩
/-- The record that an answer holds. -/
def recO : Option Rc → Rc
  | none => Rc.zero
  | some r => r
theorem resR_rec (o : Option Rc) : resR o = ((recO o).i, (recO o).o, o.isSome) := by cases o <;> rfl
@[irreducible] def FLL (l : List Rc) (dev pos kn : Int) (n : Nat) (w : World) (ok i : Value) (wr : World) : Prop := ∃ (j : Nat) (o : Option Rc), j ≤ n ∧ i = .int .i64 j ∧ ok = .bool o.isSome ∧ Hid (fndJ l dev pos kn j = o) ∧ BoxV w w.heap.size [.int .i64 0, .int .i64 0, .int .i64 0, .int .i64 0, .int .i64 0] wr ∧ BoxV w (w.heap.size + 1) (recO o).cs wr
theorem FLL.mk {l : List Rc} {dev pos kn : Int} {n : Nat} {w : World} {ok i : Value} {wr : World} (j : Nat) {o : Option Rc} (h1 : j ≤ n) (h2 : i = .int .i64 j) (h4 : fndJ l dev pos kn j = o) (h5 : BoxV w w.heap.size [.int .i64 0, .int .i64 0, .int .i64 0, .int .i64 0, .int .i64 0] wr) (h6 : BoxV w (w.heap.size + 1) (recO o).cs wr) (h3 : ok = .bool o.isSome := by rfl) : FLL l dev pos kn n w ok i wr := by
  unfold FLL
  exact ⟨j, o, h1, h2, h3, hid h4, h5, h6⟩
theorem FLL.of {l : List Rc} {dev pos kn : Int} {n : Nat} {w : World} {ok i : Value} {wr : World} (h : FLL l dev pos kn n w ok i wr) : ∃ (j : Nat) (o : Option Rc), j ≤ n ∧ i = .int .i64 j ∧ ok = .bool o.isSome ∧ Hid (fndJ l dev pos kn j = o) ∧ BoxV w w.heap.size [.int .i64 0, .int .i64 0, .int .i64 0, .int .i64 0, .int .i64 0] wr ∧ BoxV w (w.heap.size + 1) (recO o).cs wr := by
  unfold FLL at h
  exact h
set_option maxRecDepth 100000 in
set_option maxHeartbeats 4000000 in
theorem rfind_any (l : List Rc) (nn : Nat) (hnn : l.length = nn) (a : Option Addr) (c : Nat) (dev pos kn : Int) (w : World) (hn : nn ≤ 9223372036854775807) (hr : Rd w a (l.flatMap Rc.cs)) :
    Calls Try.prog 28 #[.slice a nn c, .int .i64 dev, .int .i64 pos, .int .i64 kn] w fun e w' => e = .returned (.tuple #[(recO (fnd l dev pos kn)).v, .bool (fnd l dev pos kn).isSome]) ∧ Below w.heap.size w w' := by
  have HN := hid hnn; have HR := hid (after_rd hr)
  clear hnn hr
  go_enter Try.func28, Try.ntmps28
  go_upto_region 1 with (fail)
  have hb8 : BoxV w w.heap.size [.int .i64 0, .int .i64 0, .int .i64 0, .int .i64 0, .int .i64 0] (w.alloc (.cells #[.int .i64 0, .int .i64 0, .int .i64 0, .int .i64 0, .int .i64 0] 24)) := BoxV.new (Below.refl _ _) #[.int .i64 0, .int .i64 0, .int .i64 0, .int .i64 0, .int .i64 0] 24
  have HB8 := hid (hb8.alloc (.cells #[.int .i64 0, .int .i64 0, .int .i64 0, .int .i64 0, .int .i64 0] 24))
  have hbx := BoxV.new hb8.below #[.int .i64 0, .int .i64 0, .int .i64 0, .int .i64 0, .int .i64 0] 24
  rw [show (w.alloc (.cells #[.int .i64 0, .int .i64 0, .int .i64 0, .int .i64 0, .int .i64 0] 24)).heap.size = w.heap.size + 1 by simp] at hbx
  have HBX := hid hbx
  clear hb8 hbx
  obtain ⟨W0, hW0⟩ : ∃ W0, W0 = (w.alloc (.cells #[.int .i64 0, .int .i64 0, .int .i64 0, .int .i64 0, .int .i64 0] 24)).alloc (.cells #[.int .i64 0, .int .i64 0, .int .i64 0, .int .i64 0, .int .i64 0] 24) := ⟨_, rfl⟩
  go_upto_region 2 with (fail)
  rw [← hW0] at HB8 HBX ⊢
  clear hW0
  go_wp2_with fail
  go_loopw [11, 12] (fun ok i wr => FLL l dev pos kn nn w ok i wr) (fun _ i _ => nn - (intOf i).toNat)
  case atStart => exact FLL.mk (o := none) 0 (by omega) rfl rfl HB8.out (HBX.out.eq rfl)
  case round =>
    obtain ⟨j, o, hj, rfl, rfl, hfo, hb8, hbx⟩ := hrel.of
    have HB8 := hid hb8; have HBX := hid hbx; have HFO := hfo
    clear hb8 hbx hfo
    have HWR := hid (show Below w.heap.size w wr from HBX.out.below)
    by_cases hlt' : j < nn
    case neg =>
      have d1 : decide ((j : Int) < (nn : Int)) = false := decide_eq_false (by omega)
      have d1' : decide (j < nn) = false := decide_eq_false (by omega)
      have HF := hid (show fnd l dev pos kn = o by unfold fnd; rw [HN.out, show nn = j by omega]; exact HFO.out)
      obtain ⟨q, hq⟩ : ∃ q, recO o = q := ⟨_, rfl⟩
      have hbx := HBX.out
      rw [hq] at hbx
      have HQ := hid hq
      obtain ⟨s, hs⟩ : ∃ s, o.isSome = s := ⟨_, rfl⟩
      rw [hs]
      have HS := hid hs
      clear hq hs HBX
      have p0 := hbx.cell 0 _ rfl
      have pf0 := hbx.froz 0 (by simp [Rc.cs])
      have p1 := hbx.cell 1 _ rfl
      have pf1 := hbx.froz 1 (by simp [Rc.cs])
      have p2 := hbx.cell 2 _ rfl
      have pf2 := hbx.froz 2 (by simp [Rc.cs])
      have p3 := hbx.cell 3 _ rfl
      have pf3 := hbx.froz 3 (by simp [Rc.cs])
      have p4 := hbx.cell 4 _ rfl
      have pf4 := hbx.froz 4 (by simp [Rc.cs])
      have q0 := HB8.out.cell 0 _ rfl
      have qf0 := HB8.out.froz 0 (by simp)
      have q1 := HB8.out.cell 1 _ rfl
      have qf1 := HB8.out.froz 1 (by simp)
      have q2 := HB8.out.cell 2 _ rfl
      have qf2 := HB8.out.froz 2 (by simp)
      have q3 := HB8.out.cell 3 _ rfl
      have qf3 := HB8.out.froz 3 (by simp)
      have q4 := HB8.out.cell 4 _ rfl
      have qf4 := HB8.out.froz 4 (by simp)
      have hwsz := HWR.out.size
      clear hbx
      go_wp2_with fail
      generalize hZ : World.setCell _ _ _ = Z
      have hz8 : BoxV w w.heap.size [.int .i64 q.d, .int .i64 q.f, .int .i64 q.k, .int .i64 q.i, .int .i64 q.o] Z := by rw [← hZ]; exact (((((HB8.out.set1 (Nat.le_refl _) 0 (.int .i64 q.d)).set1 (Nat.le_refl _) 1 (.int .i64 q.f)).set1 (Nat.le_refl _) 2 (.int .i64 q.k)).set1 (Nat.le_refl _) 3 (.int .i64 q.i)).set1 (Nat.le_refl _) 4 (.int .i64 q.o)).eq rfl
      have z0 := hz8.cell 0 _ rfl
      have z1 := hz8.cell 1 _ rfl
      have z2 := hz8.cell 2 _ rfl
      have z3 := hz8.cell 3 _ rfl
      have z4 := hz8.cell 4 _ rfl
      exact bodyPost_ret (v := .tuple #[.agg #[.int .i64 q.d, .int .i64 q.f, .int .i64 q.k, .int .i64 q.i, .int .i64 q.o], .bool s]) (by simp [results, Try.results28, go_sem, z0, z1, z2, z3, z4]) rfl ⟨by rw [HF.out, HQ.out, HS.out]; rfl, hz8.below⟩
    have hlt : j < l.length := by rw [HN.out]; exact hlt'
    have d1 : decide ((j : Int) < (nn : Int)) = true := decide_eq_true (by omega)
    have d1' : decide (j < nn) = true := decide_eq_true (by omega)
    have hjj : (j : Int) < (nn : Int) := by omega
    have RW := hid (fun v : After wr => HR.out (After.to (b_then HWR.out v.2)))
    obtain ⟨b, off, rfl, hb⟩ := (RW.out (After.here wr)).addr (by rw [flat_len Rc.cs 5 Rc.c5]; omega)
    obtain ⟨⟨xd, xf, xk, xi, xo⟩, hx⟩ : ∃ t, rc l j = t := ⟨_, rfl⟩
    have x0 : wr.cell? ⟨b, off + j * 5, none⟩ = some (.int .i64 xd) := rc_cell RW.out (j := j) (hlt) 0 (by decide) (by rw [hx]; rfl) rfl (After.here _)
    have x1 : wr.cell? ⟨b, off + j * 5 + 1, none⟩ = some (.int .i64 xf) := rc_cell RW.out (j := j) (hlt) 1 (by decide) (by rw [hx]; rfl) (by omega) (After.here _)
    have x2 : wr.cell? ⟨b, off + j * 5 + 2, none⟩ = some (.int .i64 xk) := rc_cell RW.out (j := j) (hlt) 2 (by decide) (by rw [hx]; rfl) (by omega) (After.here _)
    have x3 : wr.cell? ⟨b, off + j * 5 + 3, none⟩ = some (.int .i64 xi) := rc_cell RW.out (j := j) (hlt) 3 (by decide) (by rw [hx]; rfl) (by omega) (After.here _)
    have x4 : wr.cell? ⟨b, off + j * 5 + 4, none⟩ = some (.int .i64 xo) := rc_cell RW.out (j := j) (hlt) 4 (by decide) (by rw [hx]; rfl) (by omega) (After.here _)
    have Hx := hid hx; clear hx
    rcases h0 : (xd == dev) with _ | _
    · skip
      have HH := hid (show hitR dev pos kn (rc l j) = false by rw [Hx.out]; simp [hitR, h0])
      go_wp2_with fail
      clear h0
      go_roundw
      case rel => exact FLL.mk (j + 1) (by omega) (by go_num) (by rw [fndJ, if_neg (by rw [HH.out]; decide)]; exact HFO.out) HB8.out HBX.out
      case measure => first | (simp [intOf]; done) | (simp [intOf]; omega)

    rcases h1 : decide (xf ≤ pos) with _ | _
    · skip
      have HH := hid (show hitR dev pos kn (rc l j) = false by rw [Hx.out]; simp [hitR, h0, h1])
      go_wp2_with fail
      clear h0 h1
      go_roundw
      case rel => exact FLL.mk (j + 1) (by omega) (by go_num) (by rw [fndJ, if_neg (by rw [HH.out]; decide)]; exact HFO.out) HB8.out HBX.out
      case measure => first | (simp [intOf]; done) | (simp [intOf]; omega)

    rcases h2 : decide (xk ≤ kn) with _ | _
    · skip
      have HH := hid (show hitR dev pos kn (rc l j) = false by rw [Hx.out]; simp [hitR, h0, h1, h2])
      go_wp2_with fail
      clear h0 h1 h2
      go_roundw
      case rel => exact FLL.mk (j + 1) (by omega) (by go_num) (by rw [fndJ, if_neg (by rw [HH.out]; decide)]; exact HFO.out) HB8.out HBX.out
      case measure => first | (simp [intOf]; done) | (simp [intOf]; omega)

    have HH := hid (show hitR dev pos kn (rc l j) = true by rw [Hx.out]; simp [hitR, h0, h1, h2])
    have p0 := HBX.out.cell 0 _ rfl
    have pf0 := HBX.out.froz 0 (by simp [Rc.cs])
    have p1 := HBX.out.cell 1 _ rfl
    have pf1 := HBX.out.froz 1 (by simp [Rc.cs])
    have p2 := HBX.out.cell 2 _ rfl
    have pf2 := HBX.out.froz 2 (by simp [Rc.cs])
    have p3 := HBX.out.cell 3 _ rfl
    have pf3 := HBX.out.froz 3 (by simp [Rc.cs])
    have p4 := HBX.out.cell 4 _ rfl
    have pf4 := HBX.out.froz 4 (by simp [Rc.cs])
    go_wp2_with fail
    generalize hZ : World.setCell _ _ _ = Z
    have HBZ := hid (show BoxV w (w.heap.size + 1) [.int .i64 xd, .int .i64 xf, .int .i64 xk, .int .i64 xi, .int .i64 xo] Z by rw [← hZ]; exact (((((HBX.out.set1 (by omega) 0 (.int .i64 xd)).set1 (by omega) 1 (.int .i64 xf)).set1 (by omega) 2 (.int .i64 xk)).set1 (by omega) 3 (.int .i64 xi)).set1 (by omega) 4 (.int .i64 xo)).eq rfl)
    have HB9 := hid (show BoxV w w.heap.size [.int .i64 0, .int .i64 0, .int .i64 0, .int .i64 0, .int .i64 0] Z by rw [← hZ]; exact (((((HB8.out.other1 (by omega) (by omega) 0 (.int .i64 xd)).other1 (by omega) (by omega) 1 (.int .i64 xf)).other1 (by omega) (by omega) 2 (.int .i64 xk)).other1 (by omega) (by omega) 3 (.int .i64 xi)).other1 (by omega) (by omega) 4 (.int .i64 xo)))
    clear hZ h0 h1 h2 p0 pf0 p1 pf1 p2 pf2 p3 pf3 p4 pf4
    go_roundw
    case rel => exact FLL.mk (j + 1) (by omega) (by go_num) (by rw [fndJ, if_pos HH.out]) HB9.out (HBZ.out.eq (by rw [Hx.out]; rfl))
    case measure => first | (simp [intOf]; done) | (simp [intOf]; omega)


theorem dif3 {l : List Rc} {dev pos k1 k2 a b a' b' : Int} {s s' : Bool} (h1 : resR (fnd l dev pos k1) = (a, b, s)) (h2 : resR (fnd l dev pos k2) = (a', b', s')) : difR l dev pos k1 k2 = (a != a' || (b != b' || s != s')) := by
  unfold difR
  rw [h1, h2]
  by_cases ha : a = a' <;> by_cases hb : b = b' <;> cases s <;> cases s' <;> simp [ha, hb]
set_option maxRecDepth 100000 in
set_option maxHeartbeats 4000000 in
theorem differ_any (l : List Rc) (nn : Nat) (hnn : l.length = nn) (a : Option Addr) (c : Nat) (dev pos k1 k2 : Int) (w : World) (hn : nn ≤ 9223372036854775807) (hr : Rd w a (l.flatMap Rc.cs)) :
    Calls Try.prog 30 #[.slice a nn c, .int .i64 dev, .int .i64 pos, .int .i64 k1, .int .i64 k2] w fun e w' => e = .returned (.bool (difR l dev pos k1 k2)) ∧ Below w.heap.size w w' := by
  have HN := hid hnn; have HR := hid (after_rd hr)
  clear hnn hr
  go_enter Try.func30, Try.ntmps30
  go_wp2_with fail
  refine (met0 (rfind_any l nn HN.out a c dev pos k1 w hn (HR.out (After.here w)))).mono ?_
  rintro e _ ⟨rfl, u1, rfl⟩
  obtain ⟨q1, hq1⟩ : ∃ q, recO (fnd l dev pos k1) = q := ⟨_, rfl⟩
  obtain ⟨s1, hs1⟩ : ∃ s, (fnd l dev pos k1).isSome = s := ⟨_, rfl⟩
  rw [hq1, hs1]
  have H1 := hid (show resR (fnd l dev pos k1) = (q1.i, q1.o, s1) by rw [resR_rec, hq1, hs1])
  clear hq1 hs1
  unfold Rc.v
  go_upto_region 2 with (fail)
  obtain ⟨V1, hV1⟩ : ∃ V1, V1 = u1.w.alloc (.cells #[.int .i64 q1.d, .int .i64 q1.f, .int .i64 q1.k, .int .i64 q1.i, .int .i64 q1.o] 24) := ⟨_, rfl⟩
  have hBV1 : Below w.heap.size w V1 := by rw [hV1]; exact b_alloc u1.2 _
  have q13 : ∀ v : After V1, v.w.cell? ⟨u1.w.heap.size, 3, none⟩ = some (.int .i64 q1.i) := new_cell hV1 rfl rfl
  have q14 : ∀ v : After V1, v.w.cell? ⟨u1.w.heap.size, 4, none⟩ = some (.int .i64 q1.o) := new_cell hV1 rfl rfl
  rw [← hV1]
  obtain ⟨z1, hu⟩ : ∃ u : After V1, u.w = V1 := ⟨After.here V1, rfl⟩
  rw [← hu]
  clear hu
  clear hV1
  go_wp2_with fail
  refine (met (rfind_any l nn HN.out a c dev pos k2 z1.w hn (HR.out (After.to (b_then hBV1 z1.2))))).mono ?_
  rintro e _ ⟨rfl, u2, rfl⟩
  obtain ⟨q2, hq2⟩ : ∃ q, recO (fnd l dev pos k2) = q := ⟨_, rfl⟩
  obtain ⟨s2, hs2⟩ : ∃ s, (fnd l dev pos k2).isSome = s := ⟨_, rfl⟩
  rw [hq2, hs2]
  have H2 := hid (show resR (fnd l dev pos k2) = (q2.i, q2.o, s2) by rw [resR_rec, hq2, hs2])
  clear hq2 hs2
  unfold Rc.v
  go_upto_region 3 with (fail)
  obtain ⟨V2, hV2⟩ : ∃ V2, V2 = u2.w.alloc (.cells #[.int .i64 q2.d, .int .i64 q2.f, .int .i64 q2.k, .int .i64 q2.i, .int .i64 q2.o] 24) := ⟨_, rfl⟩
  have hBV2 : Below w.heap.size w V2 := by rw [hV2]; exact b_alloc (b_then hBV1 u2.2) _
  have q23 : ∀ v : After V2, v.w.cell? ⟨u2.w.heap.size, 3, none⟩ = some (.int .i64 q2.i) := new_cell hV2 rfl rfl
  have q24 : ∀ v : After V2, v.w.cell? ⟨u2.w.heap.size, 4, none⟩ = some (.int .i64 q2.o) := new_cell hV2 rfl rfl
  rw [← hV2]
  obtain ⟨z2, hu⟩ : ∃ u : After V2, u.w = V2 := ⟨After.here V2, rfl⟩
  rw [← hu]
  clear hu
  have hB12 : Below V1.heap.size V1 V2 := by rw [hV2]; exact b_alloc u2.2 _
  have e3 := upc hB12 q13 z2
  have e4 := upc hB12 q14 z2
  have g3 := q23 z2
  have g4 := q24 z2
  clear hV2 q13 q14 q23 q24 hB12
  rcases h0 : (q1.i != q2.i) with _ | _
  · skip
    rcases h1 : (q1.o != q2.o) with _ | _
    · skip
      cases s1
      · cases s2
        · have HD := hid (show difR l dev pos k1 k2 = false by rw [dif3 H1.out H2.out]; simp only [h0, h1]; rfl)
          go_wp2_with fail
          exact bodyPost_ret (v := .bool false) (by simp [results, Try.results30, go_sem]) rfl ⟨by rw [HD.out], b_then hBV2 z2.2⟩
        · have HD := hid (show difR l dev pos k1 k2 = true by rw [dif3 H1.out H2.out]; simp only [h0, h1]; rfl)
          go_wp2_with fail
          exact bodyPost_ret (v := .bool true) (by simp [results, Try.results30, go_sem]) rfl ⟨by rw [HD.out], b_then hBV2 z2.2⟩
      · cases s2
        · have HD := hid (show difR l dev pos k1 k2 = true by rw [dif3 H1.out H2.out]; simp only [h0, h1]; rfl)
          go_wp2_with fail
          exact bodyPost_ret (v := .bool true) (by simp [results, Try.results30, go_sem]) rfl ⟨by rw [HD.out], b_then hBV2 z2.2⟩
        · have HD := hid (show difR l dev pos k1 k2 = false by rw [dif3 H1.out H2.out]; simp only [h0, h1]; rfl)
          go_wp2_with fail
          exact bodyPost_ret (v := .bool false) (by simp [results, Try.results30, go_sem]) rfl ⟨by rw [HD.out], b_then hBV2 z2.2⟩

    · skip
      have HD := hid (show difR l dev pos k1 k2 = true by rw [dif3 H1.out H2.out]; simp only [h0, h1, Bool.true_or, Bool.or_true])
      go_wp2_with fail
      exact bodyPost_ret (v := .bool true) (by simp [results, Try.results30, go_sem]) rfl ⟨by rw [HD.out], b_then hBV2 z2.2⟩
  · skip
    have HD := hid (show difR l dev pos k1 k2 = true by rw [dif3 H1.out H2.out]; simp only [h0, Bool.true_or])
    go_wp2_with fail
    exact bodyPost_ret (v := .bool true) (by simp [results, Try.results30, go_sem]) rfl ⟨by rw [HD.out], b_then hBV2 z2.2⟩
set_option maxRecDepth 100000 in
set_option maxHeartbeats 4000000 in
theorem rat_any (l : List Rc) (nn : Nat) (hnn : l.length = nn) (a : Option Addr) (c : Nat) (dev pos kn : Int) (w : World) (hn : nn ≤ 9223372036854775807) (hr : Rd w a (l.flatMap Rc.cs)) :
    Calls Try.prog 16 #[.slice a nn c, .int .i64 dev, .int .i64 pos, .int .i64 kn] w fun e w' => e = .returned (.tuple #[.int .i64 (atV l dev pos kn).1, .int .i64 (atV l dev pos kn).2.1, .bool (atV l dev pos kn).2.2, .int .i64 (atE l dev pos kn)]) ∧ Below w.heap.size w w' := by
  have HN := hid hnn; have HR := hid (after_rd hr)
  clear hnn hr
  go_enter Try.func16, Try.ntmps16
  go_wp2_with fail
  refine (met0 (rcheck_any l nn HN.out a c w hn (HR.out (After.here w)))).mono ?_
  rintro e _ ⟨rfl, u1, rfl⟩
  by_cases hc : chkR l = 0
  case neg =>
    have HE := hid (atE_bad (dev := dev) (pos := pos) (kn := kn) hc)
    have hne : (chkR l != 0) = true := by simpa using hc
    obtain ⟨E, hE⟩ : ∃ E, chkR l = E := ⟨_, rfl⟩
    rw [hE] at hne HE ⊢
    have HK := hid (show ¬ E = 0 by rw [← hE]; exact hc)
    clear hc hE
    go_wp2_with fail
    exact bodyPost_ret (v := .tuple #[.int .i64 0, .int .i64 0, .bool false, .int .i64 E]) (by simp [results, Try.results16, go_sem]) rfl ⟨by rw [atV_no (by rw [HE.out]; exact HK.out), HE.out], u1.2⟩
  rw [hc]
  have HC := hid hc; clear hc
  obtain ⟨B, hB⟩ : ∃ B : Bool, decide (dev < 0 ∨ 15 < dev ∨ pos < 0 ∨ 1099511627776 < pos ∨ kn < 0 ∨ 16777216 < kn) = B := ⟨_, rfl⟩
  have HB := hid hB; clear hB
  go_upto_region 4 with (fail)
  go_cut [41] (fun q wx => CutB w B q wx)
  case first =>
    rcases h0 : decide (dev < 0) with _ | _
    · skip
      rcases h1 : decide (16 ≤ dev) with _ | _
      · skip
        rcases h2 : decide (pos < 0) with _ | _
        · skip
          rcases h3 : decide (1099511627776 < pos) with _ | _
          · skip
            rcases h4 : decide (kn < 0) with _ | _
            · skip
              rcases h5 : decide (16777216 < kn) with _ | _
              · skip
                obtain rfl : B = false := by rw [← HB.out]; simp at h0 h1 h2 h3 h4 h5; simp; omega
                go_wp2_with fail
                go_meet
                case rel => first | exact CutB.mk u1 | ((repeat apply Exists.intro); exact ⟨CutB.mk u1, rfl⟩)

              · skip
                obtain rfl : B = true := by rw [← HB.out]; simp at h0 h1 h2 h3 h4 h5; simp; omega
                go_wp2_with fail
                go_meet
                case rel => first | exact CutB.mk u1 | ((repeat apply Exists.intro); exact ⟨CutB.mk u1, rfl⟩)

            · skip
              obtain rfl : B = true := by rw [← HB.out]; simp at h0 h1 h2 h3 h4; simp; omega
              go_wp2_with fail
              go_meet
              case rel => first | exact CutB.mk u1 | ((repeat apply Exists.intro); exact ⟨CutB.mk u1, rfl⟩)

          · skip
            obtain rfl : B = true := by rw [← HB.out]; simp at h0 h1 h2 h3; simp; omega
            go_wp2_with fail
            go_meet
            case rel => first | exact CutB.mk u1 | ((repeat apply Exists.intro); exact ⟨CutB.mk u1, rfl⟩)

        · skip
          obtain rfl : B = true := by rw [← HB.out]; simp at h0 h1 h2; simp; omega
          go_wp2_with fail
          go_meet
          case rel => first | exact CutB.mk u1 | ((repeat apply Exists.intro); exact ⟨CutB.mk u1, rfl⟩)

      · skip
        obtain rfl : B = true := by rw [← HB.out]; simp at h0 h1; simp; omega
        go_wp2_with fail
        go_meet
        case rel => first | exact CutB.mk u1 | ((repeat apply Exists.intro); exact ⟨CutB.mk u1, rfl⟩)

    · skip
      obtain rfl : B = true := by rw [← HB.out]; simp at h0; simp; omega
      go_wp2_with fail
      go_meet
      case rel => first | exact CutB.mk u1 | ((repeat apply Exists.intro); exact ⟨CutB.mk u1, rfl⟩)

  case rest =>
  obtain ⟨rfl, u3, rfl⟩ := hcut
  clear u1
  cases B
  case true =>
    have HE := hid (atE_arg (l := l) (dev := dev) (pos := pos) (kn := kn) HC.out (of_decide_eq_true HB.out))
    go_wp2_with fail
    exact bodyPost_ret (v := .tuple #[.int .i64 0, .int .i64 0, .bool false, .int .i64 1]) (by simp [results, Try.results16, go_sem]) rfl ⟨by rw [atV_no (by rw [HE.out]; decide), HE.out], u3.2⟩
  have HE := hid (atE_ok (l := l) (dev := dev) (pos := pos) (kn := kn) HC.out (of_decide_eq_false HB.out))
  go_wp2_with fail
  refine (met (rfind_any l nn HN.out a c dev pos kn u3.w hn (HR.out u3))).mono ?_
  rintro e _ ⟨rfl, u2, rfl⟩
  obtain ⟨R, hR⟩ : ∃ R, fnd l dev pos kn = R := ⟨_, rfl⟩
  rw [hR]
  have HV := hid (show atV l dev pos kn = resR R by rw [atV_ok HE.out, hR])
  clear hR
  obtain ⟨q, hq⟩ : ∃ q, recO R = q := ⟨_, rfl⟩
  obtain ⟨S, hs⟩ : ∃ s, R.isSome = s := ⟨_, rfl⟩
  rw [hq, hs]
  have HQ := hid (show resR R = (q.i, q.o, S) by rw [resR_rec, hq, hs])
  clear hq hs
  unfold Rc.v
  go_upto_region 7 with (fail)
  obtain ⟨V, hV⟩ : ∃ V, V = u2.w.alloc (.cells #[.int .i64 q.d, .int .i64 q.f, .int .i64 q.k, .int .i64 q.i, .int .i64 q.o] 24) := ⟨_, rfl⟩
  have hBV : Below w.heap.size w V := by rw [hV]; exact b_alloc u2.2 _
  have y0 : ∀ v : After V, v.w.cell? ⟨u2.w.heap.size, 0, none⟩ = some (.int .i64 q.d) := new_cell hV rfl rfl
  have y1 : ∀ v : After V, v.w.cell? ⟨u2.w.heap.size, 1, none⟩ = some (.int .i64 q.f) := new_cell hV rfl rfl
  have y2 : ∀ v : After V, v.w.cell? ⟨u2.w.heap.size, 2, none⟩ = some (.int .i64 q.k) := new_cell hV rfl rfl
  have y3 : ∀ v : After V, v.w.cell? ⟨u2.w.heap.size, 3, none⟩ = some (.int .i64 q.i) := new_cell hV rfl rfl
  have y4 : ∀ v : After V, v.w.cell? ⟨u2.w.heap.size, 4, none⟩ = some (.int .i64 q.o) := new_cell hV rfl rfl
  rw [← hV]
  obtain ⟨u, hu⟩ : ∃ u : After V, u.w = V := ⟨After.here V, rfl⟩
  rw [← hu]
  clear hu hV
  refine wp_region_since (by kernel_rfl) (by kernel_rfl) ?_
  repeat (go_big_quiet_step (fail))
  refine wpQuiet_nil ?_
  intro u9
  go_wp2_with fail
  exact bodyPost_ret (v := .tuple #[.int .i64 q.i, .int .i64 q.o, .bool S, .int .i64 0]) (by simp [results, Try.results16, go_sem]) rfl ⟨by rw [HV.out, HE.out, HQ.out], b_then hBV u9.2⟩
end Go.Proofs.Ytdnjpfjiaomlgaa
