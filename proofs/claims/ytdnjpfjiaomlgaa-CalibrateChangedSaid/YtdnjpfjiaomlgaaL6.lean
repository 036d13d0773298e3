/- CalibrateChanged. -/
import Derived.Test.YtdnjpfjiaomlgaaW
import Derived.Test.YtdnjpfjiaomlgaaCX
import Derived.Deep.DeepCutAuto
import Derived.IntWalk
namespace Go.Proofs.Ytdnjpfjiaomlgaa
open Go.RowKit
open Go.Lib (hid)

def pr2 (p : Int × Int) : List Value := [.int .i64 p.1, .int .i64 p.2]
theorem pr2_len (p : Int × Int) : (pr2 p).length = 2 := rfl
theorem pr2_one (p : Int × Int) : ∀ u ∈ pr2 p, u.oneCell' = true := by
  intro u hu
  simp [pr2] at hu
  rcases hu with rfl | rfl <;> rfl
theorem pr2_ones (q : List (Int × Int)) : ∀ u ∈ q.flatMap pr2, u.oneCell' = true := by
  intro u hu
  obtain ⟨p, _, hp⟩ := List.mem_flatMap.1 hu
  exact pr2_one p u hp
theorem und42 : Try.prog.underlying 42 = some (.slice 41) := by kernel_rfl
theorem info41 : (Try.prog.info? 41).map (fun i => (i.zero, i.size, i.bytes)) = some (some (.agg #[.int .i64 0, .int .i64 0]), 2, 16) := by kernel_rfl
/-- Does a span cover a position? -/
def covB (s : Sp) (d q : Int) : Bool := s.d == d && (decide (s.a ≤ q) && decide (q < s.b))
def covJ (X : List Sp) (d q : Int) (j : Nat) : Bool := (List.range j).any fun i => covB (sp X i) d q
theorem covJ_next (X : List Sp) (d q : Int) (j : Nat) : covJ X d q (j + 1) = (covJ X d q j || covB (sp X j) d q) := by
  unfold covJ
  rw [List.range_succ, List.any_append]
  simp
theorem covJ_cov (X : List Sp) (d q : Int) : covJ X d q X.length = true ↔ Cov X d q := by
  unfold covJ Cov
  rw [List.any_eq_true]
  constructor
  · rintro ⟨i, hi, h⟩
    refine ⟨sp X i, sp_mem (List.mem_range.1 hi), ?_⟩
    simpa [covB] using h
  · rintro ⟨s, hs, h⟩
    obtain ⟨i, hi, rfl⟩ := List.mem_iff_getElem.1 hs
    refine ⟨i, List.mem_range.2 hi, ?_⟩
    rw [← sp_eq hi]
    simpa [covB] using h
theorem can_at {X : List Sp} (h : Can X) {i j : Nat} (hij : i < j) (hj : j < X.length) : SpLt (sp X i) (sp X j) := by
  rw [← sp_eq (show i < X.length by omega), ← sp_eq hj]
  exact List.pairwise_iff_getElem.1 h.ord i j (by omega) hj hij
@[irreducible] def L1R (n : Nat) (V : World) (i : Value) (wr : World) : Prop := ∃ (j : Nat) (z : After V), j ≤ n ∧ i = .int .i64 j ∧ wr = z.w
theorem L1R.mk {n : Nat} {V : World} {i : Value} (j : Nat) (z : After V) (h1 : j ≤ n) (h2 : i = .int .i64 j) : L1R n V i z.w := by unfold L1R; exact ⟨j, z, h1, h2, rfl⟩
theorem L1R.of {n : Nat} {V : World} {i : Value} {wr : World} (h : L1R n V i wr) : ∃ (j : Nat) (z : After V), j ≤ n ∧ i = .int .i64 j ∧ wr = z.w := by unfold L1R at h; exact h
@[irreducible] def L2R (n : Nat) (V : World) (m i : Value) (wr : World) : Prop := ∃ (j : Nat) (z : After V) (q : List (Int × Int)), j ≤ n ∧ i = .int .i64 j ∧ wr = z.w ∧ q.length ≤ 4 * j + 1 ∧ Hid (z.w.ownsRow V.heap.size 41 2 m q.length (q.flatMap pr2))
theorem L2R.mk {n : Nat} {V : World} {m i : Value} (j : Nat) (z : After V) (q : List (Int × Int)) (h1 : j ≤ n) (h2 : i = .int .i64 j) (h3 : q.length ≤ 4 * j + 1) (h4 : z.w.ownsRow V.heap.size 41 2 m q.length (q.flatMap pr2)) : L2R n V m i z.w := by unfold L2R; exact ⟨j, z, q, h1, h2, rfl, h3, hid h4⟩
theorem L2R.of {n : Nat} {V : World} {m i : Value} {wr : World} (h : L2R n V m i wr) : ∃ (j : Nat) (z : After V) (q : List (Int × Int)), j ≤ n ∧ i = .int .i64 j ∧ wr = z.w ∧ q.length ≤ 4 * j + 1 ∧ Hid (z.w.ownsRow V.heap.size 41 2 m q.length (q.flatMap pr2)) := by unfold L2R at h; exact h
@[irreducible] def IL6 (X : List Sp) (d q : Int) (n : Nat) (V : World) (s i : Value) (wr : World) : Prop := ∃ (j : Nat) (b : Bool) (z : After V), j ≤ n ∧ i = .int .i64 j ∧ s = .bool b ∧ wr = z.w ∧ Hid (covJ X d q j = b)
theorem IL6.mk {X : List Sp} {d q : Int} {n : Nat} {V : World} {s i : Value} (j : Nat) {b : Bool} (z : After V) (h1 : j ≤ n) (h2 : i = .int .i64 j) (h3 : covJ X d q j = b) (hs : s = .bool b := by rfl) : IL6 X d q n V s i z.w := by
  unfold IL6
  exact ⟨j, b, z, h1, h2, hs, rfl, hid h3⟩
theorem IL6.of {X : List Sp} {d q : Int} {n : Nat} {V : World} {s i : Value} {wr : World} (h : IL6 X d q n V s i wr) : ∃ (j : Nat) (b : Bool) (z : After V), j ≤ n ∧ i = .int .i64 j ∧ s = .bool b ∧ wr = z.w ∧ Hid (covJ X d q j = b) := by
  unfold IL6 at h
  exact h
theorem atE_kn {l : List Rc} {dev pos k1 k2 : Int} (h : chE l k1 k2 = 0) : atE l dev pos k2 = atE l dev pos k1 := by
  obtain ⟨hc, h1, h2, h3, h4⟩ := chE_zero h
  unfold atE
  rw [hc]
  have e : (dev < 0 ∨ 15 < dev ∨ pos < 0 ∨ 1099511627776 < pos ∨ k2 < 0 ∨ 16777216 < k2) ↔ (dev < 0 ∨ 15 < dev ∨ pos < 0 ∨ 1099511627776 < pos ∨ k1 < 0 ∨ 16777216 < k1) := by omega
  simp only [e]
set_option maxRecDepth 100000 in
set_option maxHeartbeats 4000000 in
theorem cchg_walk (l : List Rc) (nn : Nat) (hnn : l.length = nn) (a : Option Addr) (c : Nat) (_hf : a = none → nn = 0 ∧ c = 0) (_hc : nn ≤ c) (dev pos k1 k2 : Int) (hb : nn ≤ 9223372036854775807) (W : World) (hr : Rd W a (l.flatMap Rc.cs)) :
    Calls Try.prog 6 #[.slice a nn c, .int .i64 dev, .int .i64 pos, .int .i64 k1, .int .i64 k2] W fun e w' => e = .returned (.bool true) ∧ Below W.heap.size W w' := by
  have HN := hid hnn; have HR := hid (after_rd hr)
  clear hnn hr _hf
  obtain ⟨i0, hi, hz0, hz1, hz2⟩ := info_parts info41
  go_enter Try.func6, Try.ntmps6
  go_wp2_with fail
  refine (met0 (sane42_any W)).mono ?_
  rintro e _ ⟨rfl, u1, rfl⟩
  by_cases h300 : nn ≤ 300
  case neg =>
    have d0 : decide ((300 : Int) < (nn : Int)) = true := decide_eq_true (by omega)
    have d0' : decide (300 < nn) = true := decide_eq_true (by omega)
    go_wp2_with fail
    exact bodyPost_ret (v := .bool true) (by simp [results, Try.results6, go_sem]) rfl ⟨rfl, u1.2⟩
  have d0 : decide ((300 : Int) < (nn : Int)) = false := decide_eq_false (by omega)
  have d0' : decide (300 < nn) = false := decide_eq_false (by omega)
  go_wp2_with fail
  clear d0 d0'
  refine (changed_any l nn HN.out a c k1 k2 u1.w hb (HR.out u1)).mono ?_
  rintro e w9 ⟨v1, rfl, hi1, hB1⟩
  obtain ⟨u2, rfl⟩ : ∃ y : After W, w9 = y.w := ⟨u1.on hB1, rfl⟩
  have HI1 := hid hi1; clear hi1 hB1
  go_wp2_with fail
  refine (changed_any l nn HN.out a c k2 k1 u2.w hb (HR.out u2)).mono ?_
  rintro e w9 ⟨v2, rfl, hi2, hB2⟩
  have hi1 := HI1.out.below hB2
  obtain ⟨u3, rfl⟩ : ∃ y : After W, w9 = y.w := ⟨u2.on hB2, rfl⟩
  rw [chV_swap] at hi2
  rw [chE_swap]
  obtain ⟨E, hE⟩ : ∃ y, chE l k1 k2 = y := ⟨_, rfl⟩
  obtain ⟨X, hX⟩ : ∃ y, chV l k1 k2 = y := ⟨_, rfl⟩
  obtain ⟨n, hn⟩ : ∃ n, X.length = n := ⟨_, rfl⟩
  have hxl : n ≤ 4112 := by
    rw [← hn, ← hX]
    by_cases h : chE l k1 k2 = 0
    · rw [chV_ok h]; exact chg_len (chkR_good (chE_zero h).1).1 k1 k2
    · rw [chV_no h]; exact Nat.zero_le _
  rw [hX] at hi1 hi2
  rw [hE]
  obtain ⟨xa, xc, rfl, hR1, hxc⟩ := hi1.form hn
  obtain ⟨ya, yc, rfl, hR2, -⟩ := hi2.form hn
  have HE := hid hE; have HX := hid hX; have HXN := hid hn
  have HR1 := hid hR1; have HR2 := hid hR2
  have eE : (E != E) = false := by simp
  clear hi1 hi2 hB2 hE hX hn hR1 hR2 HI1
  go_wp2_with fail
  refine (ssame_any X X n n HXN.out HXN.out xa ya xc yc (by omega) u3.w HR1.out HR2.out).mono ?_
  rintro e w9 ⟨rfl, hB9⟩
  rw [decide_eq_true rfl]
  obtain ⟨V, hV⟩ : ∃ V : World, V = w9 := ⟨_, rfl⟩
  have hWV : Below W.heap.size W V := by rw [hV]; exact b_then u3.2 hB9
  have HXR := hid (after_rd (hV ▸ HR1.out.below hB9 : Rd V xa (X.flatMap Sp.cs)))
  have RV := hid (fun v : After V => HR.out (After.to (b_then hWV v.2)))
  rw [← hV]
  clear hB9 hV HR1 HR2 eE
  by_cases he : E = 0
  case neg =>
    have hne : (E != 0) = true := by simpa using he
    have hx0 : n = 0 := by rw [← HXN.out, ← HX.out, chV_no (by rw [HE.out]; exact he)]; rfl
    subst hx0
    clear he
    go_wp2_with fail
    exact bodyPost_ret (v := .bool true) (by simp [results, Try.results6, go_sem]) rfl ⟨rfl, hWV⟩
  subst he
  have HXG := hid (show X = chgN l k1 k2 16 by rw [← HX.out, chV_ok HE.out])
  have hz := chE_zero HE.out
  have HL := hid (chkR_good hz.1).2
  have HCAN := hid (show Can X by rw [HXG.out]; exact chg_can HL.out k1 k2)
  obtain ⟨zV, hzV⟩ : ∃ z : After V, z.w = V := ⟨After.here V, rfl⟩
  rw [← hzV]
  clear hzV
  go_wp2_with fail
  go_loopw [68] (fun i wr => L1R n V i wr) (fun i _ => n - (intOf i).toNat)
  case atStart => exact L1R.mk 0 zV (Nat.zero_le _) rfl
  case round =>
    obtain ⟨j, z, hj, rfl, rfl⟩ := hrel.of
    by_cases hlt : j < n
    case pos =>
      have d1 : decide ((j : Int) < (n : Int)) = true := decide_eq_true (by omega)
      have d1' : decide (j < n) = true := decide_eq_true hlt
      have hjn : (j : Int) < (n : Int) := by omega
      obtain ⟨xb, xo, rfl, hxb⟩ := (HXR.out z).addr (by rw [flat_len Sp.cs 3 Sp.c3, HXN.out]; omega)
      obtain ⟨⟨sd, sa, sb⟩, hs⟩ : ∃ t, sp X j = t := ⟨_, rfl⟩
      have s0 : ∀ v : After V, v.w.cell? ⟨xb, xo + j * 3, none⟩ = some (.int .i64 sd) := sp_cell HXR.out (j := j) (by rw [HXN.out]; exact hlt) 0 (by decide) (by rw [hs]; rfl) rfl
      have s1 : ∀ v : After V, v.w.cell? ⟨xb, xo + j * 3 + 1, none⟩ = some (.int .i64 sa) := sp_cell HXR.out (j := j) (by rw [HXN.out]; exact hlt) 1 (by decide) (by rw [hs]; rfl) (by omega)
      have s2 : ∀ v : After V, v.w.cell? ⟨xb, xo + j * 3 + 2, none⟩ = some (.int .i64 sb) := sp_cell HXR.out (j := j) (by rw [HXN.out]; exact hlt) 2 (by decide) (by rw [hs]; rfl) (by omega)
      have Hs := hid hs; clear hs
      have hok := HCAN.out.ok (sp X j) (sp_mem (by rw [HXN.out]; exact hlt))
      rw [Hs.out] at hok
      dsimp only at hok
      have s0 := s0 z
      have s1 := s1 z
      have s2 := s2 z
      go_upto_region 14 with (fail)
      obtain ⟨V1, hV1⟩ : ∃ V1, V1 = z.w.alloc (.cells #[.int .i64 sd, .int .i64 sa, .int .i64 sb] 40) := ⟨_, rfl⟩
      have hBV1 : Below V.heap.size V V1 := by rw [hV1]; exact b_alloc z.2 _
      have y0 : ∀ v : After V1, v.w.cell? ⟨z.w.heap.size, 0, none⟩ = some (.int .i64 sd) := new_cell hV1 rfl rfl
      have y1 : ∀ v : After V1, v.w.cell? ⟨z.w.heap.size, 1, none⟩ = some (.int .i64 sa) := new_cell hV1 rfl rfl
      have y2 : ∀ v : After V1, v.w.cell? ⟨z.w.heap.size, 2, none⟩ = some (.int .i64 sb) := new_cell hV1 rfl rfl
      rw [← hV1]
      obtain ⟨zb, hzb⟩ : ∃ u : After V1, u.w = V1 := ⟨After.here V1, rfl⟩
      rw [← hzb]
      clear hzb hV1 s0 s1 s2
      have t0 : decide (sd < 0) = false := decide_eq_false (by omega)
      have t1 : decide (15 < sd) = false := decide_eq_false (by omega)
      have t2 : decide (sa < 0) = false := decide_eq_false (by omega)
      have t3 : decide (sb ≤ sa) = false := decide_eq_false (by omega)
      have t4 : decide (1099511627777 < sb) = false := decide_eq_false (by omega)
      have X1 := hid (upr hBV1 HXR.out)
      have HB1 := hid hBV1
      clear hok
      go_upto_region 16 with (fail)
      clear t0 t1 t2 t3 t4
      rcases Nat.eq_zero_or_pos j with rfl | hpos
      · skip
        refine wp_region_since (by kernel_rfl) (by kernel_rfl) ?_
        repeat (go_big_quiet_step (fail))
        refine wpQuiet_nil ?_
        intro u9
        go_wp2_with fail
        go_roundw
        case rel => exact L1R.mk 1 ⟨u9.w, b_then HB1.out u9.2⟩ (by omega) (by go_num)
        case measure => first | (simp [intOf]; done) | (simp [intOf]; omega)
      · obtain ⟨i, rfl⟩ : ∃ i, j = i + 1 := ⟨j - 1, by omega⟩
        have hlti := can_at HCAN.out (show i < i + 1 by omega) (by rw [HXN.out]; exact hlt)
        obtain ⟨⟨pd, pa, pb⟩, hp⟩ : ∃ t, sp X i = t := ⟨_, rfl⟩
        have p0 : ∀ v : After V1, v.w.cell? ⟨xb, xo + i * 3, none⟩ = some (.int .i64 pd) := sp_cell X1.out (j := i) (by rw [HXN.out]; omega) 0 (by decide) (by rw [hp]; rfl) rfl
        have p1 : ∀ v : After V1, v.w.cell? ⟨xb, xo + i * 3 + 1, none⟩ = some (.int .i64 pa) := sp_cell X1.out (j := i) (by rw [HXN.out]; omega) 1 (by decide) (by rw [hp]; rfl) (by omega)
        have p2 : ∀ v : After V1, v.w.cell? ⟨xb, xo + i * 3 + 2, none⟩ = some (.int .i64 pb) := sp_cell X1.out (j := i) (by rw [HXN.out]; omega) 2 (by decide) (by rw [hp]; rfl) (by omega)
        have Hp := hid hp; clear hp
        rw [Hs.out, Hp.out] at hlti
        unfold SpLt at hlti
        dsimp only at hlti
        have t0 : decide (sd < pd) = false := decide_eq_false (by omega)
        rcases t1 : (pd == sd) with _ | _
        · clear hlti
          refine wp_region_since (by kernel_rfl) (by kernel_rfl) ?_
          repeat (go_big_quiet_step (fail))
          refine wpQuiet_nil ?_
          intro u9
          go_wp2_with fail
          clear t0 t1
          go_roundw
          case rel => exact L1R.mk (i + 1 + 1) ⟨u9.w, b_then HB1.out u9.2⟩ (by omega) (by go_num)
          case measure => first | (simp [intOf]; done) | (simp [intOf]; omega)
        · have tq : pd = sd := by simpa using t1
          have t2 : decide (sa ≤ pb) = false := decide_eq_false (by omega)
          clear tq
          clear hlti
          refine wp_region_since (by kernel_rfl) (by kernel_rfl) ?_
          repeat (go_big_quiet_step (fail))
          refine wpQuiet_nil ?_
          intro u9
          go_wp2_with fail
          clear t0 t1 t2
          go_roundw
          case rel => exact L1R.mk (i + 1 + 1) ⟨u9.w, b_then HB1.out u9.2⟩ (by omega) (by go_num)
          case measure => first | (simp [intOf]; done) | (simp [intOf]; omega)
    have d1 : decide ((j : Int) < (n : Int)) = false := decide_eq_false (by omega)
    have d1' : decide (j < n) = false := decide_eq_false hlt
    clear hrel
    obtain ⟨V2, hV2⟩ : ∃ V2 : World, V2 = z.w := ⟨_, rfl⟩
    have hB2 : Below V.heap.size V V2 := by rw [hV2]; exact z.w_below
    have X2 := hid (upr hB2 HXR.out)
    have R2 := hid (upr hB2 RV.out)
    have HW2 := hid (b_then hWV hB2)
    rw [← hV2]
    clear hV2
    go_upto_region 20 with (fail)
    have own0 : (V2.alloc (.cells #[.int .i64 dev, .int .i64 pos] 41)).ownsRow V2.heap.size 41 2 (.slice (some ⟨V2.heap.size, 0, none⟩) 1 1) 1 ([(dev, pos)].flatMap pr2) := ⟨rfl, .inr ⟨V2.heap.size, 1, #[.int .i64 dev, .int .i64 pos], rfl, Nat.le_refl _, World.alloc_heap_new _ _, Nat.le_refl _, by unfold maxLen; omega, rfl, rfl⟩⟩
    have HO := hid own0
    clear own0 d1 d1'
    go_wp2_with fail
    go_loopw [17, 140] (fun m i wr => L2R n V2 m i wr) (fun _ i _ => n - (intOf i).toNat)
    case atStart => exact L2R.mk 0 ⟨_, b_alloc (Below.refl _ _) _⟩ [(dev, pos)] (Nat.zero_le _) rfl (by simp) HO.out
    case round =>
      clear HO
      obtain ⟨j, y, q, hj, rfl, rfl, hql, HQ⟩ := hrel.of
      by_cases hlt : j < n
      case pos =>
        have d1 : decide ((j : Int) < (n : Int)) = true := decide_eq_true (by omega)
        have d1' : decide (j < n) = true := decide_eq_true hlt
        have hjn : (j : Int) < (n : Int) := by omega
        obtain ⟨xb, xo, rfl, hxb⟩ := (X2.out y).addr (by rw [flat_len Sp.cs 3 Sp.c3, HXN.out]; omega)
        obtain ⟨⟨sd, sa, sb⟩, hs⟩ : ∃ t, sp X j = t := ⟨_, rfl⟩
        have s0 : ∀ v : After V2, v.w.cell? ⟨xb, xo + j * 3, none⟩ = some (.int .i64 sd) := sp_cell X2.out (j := j) (by rw [HXN.out]; exact hlt) 0 (by decide) (by rw [hs]; rfl) rfl
        have s1 : ∀ v : After V2, v.w.cell? ⟨xb, xo + j * 3 + 1, none⟩ = some (.int .i64 sa) := sp_cell X2.out (j := j) (by rw [HXN.out]; exact hlt) 1 (by decide) (by rw [hs]; rfl) (by omega)
        have s2 : ∀ v : After V2, v.w.cell? ⟨xb, xo + j * 3 + 2, none⟩ = some (.int .i64 sb) := sp_cell X2.out (j := j) (by rw [HXN.out]; exact hlt) 2 (by decide) (by rw [hs]; rfl) (by omega)
        have Hs := hid hs; clear hs
        have hok := HCAN.out.ok (sp X j) (sp_mem (by rw [HXN.out]; exact hlt))
        rw [Hs.out] at hok
        dsimp only at hok
        have s0 := s0 y
        have s1 := s1 y
        have s2 := s2 y
        by_cases h20 : j < 20
        case neg =>
          have d2 : decide ((j : Int) < 20) = false := decide_eq_false (by omega)
          have d2' : decide (j < 20) = false := decide_eq_false h20
          clear hok
          go_wp2_with fail
          go_roundw
          case rel => exact L2R.mk (j + 1) ⟨_, b_alloc y.2 _⟩ q (by omega) (by go_num) (by omega) (own_after HQ.out (b_alloc (Below.refl _ _) _))
          case measure => first | (simp [intOf]; done) | (simp [intOf]; omega)
        case pos =>
          have d2 : decide ((j : Int) < 20) = true := decide_eq_true (by omega)
          have d2' : decide (j < 20) = true := decide_eq_true h20
          obtain ⟨e1, he1⟩ : ∃ e, sa - 1 = e := ⟨_, rfl⟩
          obtain ⟨e2, he2⟩ : ∃ e, sb - 1 = e := ⟨_, rfl⟩
          have w1 : IntKind.i64.wrap e1 = e1 := IntWalk.i64_in _ (by omega)
          have w2 : IntKind.i64.wrap e2 = e2 := IntWalk.i64_in _ (by omega)
          have hys := y.w_below.size
          clear hok
          go_wp2_with (at_builtin; refine wpList_append_rd _ rfl (.tmp 147) (.tmp 170) 42 rfl V2.heap.size 41 i0 (.agg #[.int .i64 0, .int .i64 0]) 2 16 und42 hi hz0 hz1 hz2 rfl (by decide) _ _ _ rfl (own_after (own_after HQ.out (b_alloc (Below.refl _ _) (.cells #[.int .i64 sd, .int .i64 sa, .int .i64 sb] 40))) (b_alloc (Below.refl _ _) _)) (some ⟨y.w.heap.size + 1, 0, none⟩) 4 4 ([(sd, sa), (sd, e1), (sd, e2), (sd, sb)].flatMap pr2) rfl rfl (by have h := rd_new (y.w.alloc (.cells #[.int .i64 sd, .int .i64 sa, .int .i64 sb] 40)) #[.int .i64 sd, .int .i64 sa, .int .i64 sd, .int .i64 e1, .int .i64 sd, .int .i64 e2, .int .i64 sd, .int .i64 sb] 41 (xs := [(sd, sa), (sd, e1), (sd, e2), (sd, sb)].flatMap pr2) rfl; rw [World.size_alloc] at h; exact h) (pr2_ones _) (by unfold maxLen; omega) (by omega) (by simp; omega) ?_; intro v' w1' hown' hgrow)
          have hys2 : V2.heap.size ≤ ((y.w.alloc (.cells #[.int .i64 sd, .int .i64 sa, .int .i64 sb] 40)).alloc (.cells #[.int .i64 sd, .int .i64 sa, .int .i64 sd, .int .i64 e1, .int .i64 sd, .int .i64 e2, .int .i64 sd, .int .i64 sb] 41)).heap.size := (b_alloc (b_alloc y.w_below _) _).size
          have hB9 : Below V2.heap.size V2 w1' := Below.trans (b_alloc (b_alloc y.w_below _) _) (own_below (own_after (own_after HQ.out (b_alloc (Below.refl _ _) (.cells #[.int .i64 sd, .int .i64 sa, .int .i64 sb] 40))) (b_alloc (Below.refl _ _) _)) hgrow hys2)
          exact ⟨L2R.mk (j + 1) ⟨w1', hB9⟩ (q ++ [(sd, sa), (sd, e1), (sd, e2), (sd, sb)]) (by omega) (by go_num) (by simp; omega) (by rw [List.length_append, List.flatMap_append]; exact hown'), by first | (simp [intOf]; done) | (simp [intOf]; omega)⟩
      have d1 : decide ((j : Int) < (n : Int)) = false := decide_eq_false (by omega)
      have d1' : decide (j < n) = false := decide_eq_false hlt
      clear hrel
      obtain ⟨qa, qc, rfl, hqc, -, hQR, -⟩ := own_slice HQ.out
      obtain ⟨V4, hV4⟩ : ∃ V4 : World, V4 = y.w := ⟨_, rfl⟩
      have hB4 : Below V2.heap.size V2 V4 := by rw [hV4]; exact y.w_below
      have X4 := hid (upr hB4 X2.out)
      have R4 := hid (upr hB4 R2.out)
      have HW4 := hid (b_then HW2.out hB4)
      have Q4 := hid (after_rd (hV4 ▸ hQR : Rd V4 qa (q.flatMap pr2)))
      obtain ⟨qn, hqn⟩ : ∃ k, q.length = k := ⟨_, rfl⟩
      have HQN := hid hqn
      rw [hqn] at hql hqc ⊢
      rw [← hV4]
      obtain ⟨y4, hy4⟩ : ∃ z : After V4, z.w = V4 := ⟨After.here V4, rfl⟩
      rw [← hy4]
      clear hV4 hy4 hQR hqn HQ
      go_wp2_with fail
      clear d1 d1'
      go_loopw [175] (fun i wr => L1R qn V4 i wr) (fun i _ => qn - (intOf i).toNat)
      case atStart => exact L1R.mk 0 y4 (Nat.zero_le _) rfl
      case round =>
        obtain ⟨j, y, hj, rfl, rfl⟩ := hrel.of
        by_cases hlt : j < qn
        case neg =>
          have d1 : decide ((j : Int) < (qn : Int)) = false := decide_eq_false (by omega)
          have d1' : decide (j < qn) = false := decide_eq_false hlt
          go_wp2_with fail
          exact bodyPost_ret (v := .bool true) (by simp [results, Try.results6, go_sem]) rfl ⟨rfl, b_then HW4.out y.2⟩
        have d1 : decide ((j : Int) < (qn : Int)) = true := decide_eq_true (by omega)
        have d1' : decide (j < qn) = true := decide_eq_true hlt
        have hjn : (j : Int) < (qn : Int) := by omega
        obtain ⟨qb, qo, rfl, hqb⟩ := (Q4.out y).addr (by rw [flat_len pr2 2 pr2_len, HQN.out]; omega)
        obtain ⟨⟨qd, qp⟩, hq⟩ : ∃ p, q[j]'(by rw [HQN.out]; exact hlt) = p := ⟨_, rfl⟩
        have s0 : y.w.cell? ⟨qb, qo + j * 2, none⟩ = some (.int .i64 qd) := row_cell pr2_len Q4.out (j := j) (by rw [HQN.out]; exact hlt) 0 (by decide) (by rw [hq]; rfl) (o := qo + j * 2) (by omega) y
        have s1 : y.w.cell? ⟨qb, qo + j * 2 + 1, none⟩ = some (.int .i64 qp) := row_cell pr2_len Q4.out (j := j) (by rw [HQN.out]; exact hlt) 1 (by decide) (by rw [hq]; rfl) (o := qo + j * 2 + 1) (by omega) y
        clear hq
        go_upto_region 29 with (fail)
        obtain ⟨V5, hV5⟩ : ∃ V5, V5 = y.w.alloc (.cells #[.int .i64 qd, .int .i64 qp] 41) := ⟨_, rfl⟩
        have hB5 : Below V4.heap.size V4 V5 := by rw [hV5]; exact b_alloc y.2 _
        have q0 : ∀ v : After V5, v.w.cell? ⟨y.w.heap.size, 0, none⟩ = some (.int .i64 qd) := new_cell hV5 rfl rfl
        have q1 : ∀ v : After V5, v.w.cell? ⟨y.w.heap.size, 1, none⟩ = some (.int .i64 qp) := new_cell hV5 rfl rfl
        have zq : ∀ v : After V5, y.w.heap.size < v.w.heap.size := after_size (by rw [hV5]; simp)
        have X5 := hid (upr hB5 X4.out)
        have R5 := hid (upr hB5 R4.out)
        have HB5 := hid hB5
        rw [← hV5]
        obtain ⟨z5, hz5⟩ : ∃ u : After V5, u.w = V5 := ⟨After.here V5, rfl⟩
        rw [← hz5]
        clear hz5 hV5 s0 s1 d1 d1' hrel
        go_wp2_with fail
        refine (met (at_any l nn HN.out a c qd qp k1 z5.w hb (R5.out z5))).mono ?_
        rintro e _ ⟨rfl, z6, rfl⟩
        obtain ⟨⟨A, B, S⟩, hA⟩ : ∃ q, atV l qd qp k1 = q := ⟨_, rfl⟩
        rw [hA]
        dsimp only
        obtain ⟨E, hE⟩ : ∃ y, atE l qd qp k1 = y := ⟨_, rfl⟩
        rw [hE]
        have HEE := hid hE; have HA := hid hA
        clear hE hA
        go_wp2_with fail
        refine (met (at_any l nn HN.out a c qd qp k2 z6.w hb (R5.out z6))).mono ?_
        rintro e _ ⟨rfl, z7, rfl⟩
        obtain ⟨⟨A2, B2, S2⟩, hA2⟩ : ∃ q, atV l qd qp k2 = q := ⟨_, rfl⟩
        rw [hA2, atE_kn HE.out, HEE.out]
        have HA2 := hid hA2; clear hA2
        dsimp only
        have eE : (E != E) = false := by simp
        by_cases he : E = 0
        case neg =>
          have hne : (E != 0) = true := by simpa using he
          clear he
          go_wp2_with fail
          clear hne eE
          go_roundw
          case rel => exact L1R.mk (j + 1) ⟨z7.w, b_then HB5.out z7.2⟩ (by omega) (by go_num)
          case measure => first | (simp [intOf]; done) | (simp [intOf]; omega)
        subst he
        have hat := atE_zero HEE.out
        have ha1 : resR (fnd l qd qp k1) = (A, B, S) := by rw [← atV_ok HEE.out]; exact HA.out
        have ha2 : resR (fnd l qd qp k2) = (A2, B2, S2) := by rw [← atV_ok (show atE l qd qp k2 = 0 by rw [atE_kn HE.out]; exact HEE.out)]; exact HA2.out
        have hdf := dif3 ha1 ha2
        clear ha1 ha2
        have hcv : covJ X qd qp n = (A != A2 || (B != B2 || S != S2)) := by
          rw [← hdf, Bool.eq_iff_iff, ← HXN.out, covJ_cov, HXG.out, chg_cov HL.out]
          constructor
          · rintro ⟨_, _, _, _, h⟩; exact h
          · intro h; exact ⟨by omega, by omega, by omega, by omega, h⟩
        have HCV := hid hcv
        clear hcv hdf hat HA HA2
        go_wp2_with fail
        clear eE
        go_loopw [30, 210] (fun s i wr => IL6 X qd qp n V5 s i wr) (fun _ i _ => n - (intOf i).toNat)
        case atStart => exact IL6.mk 0 (b := false) z7 (Nat.zero_le _) rfl rfl
        case round =>
          obtain ⟨i, b, y, hi6, rfl, rfl, rfl, HCJ⟩ := hrel.of
          by_cases hlt3 : i < n
          case pos =>
            have d1 : decide ((i : Int) < (n : Int)) = true := decide_eq_true (by omega)
            have d1' : decide (i < n) = true := decide_eq_true hlt3
            have hin : (i : Int) < (n : Int) := by omega
            obtain ⟨xb, xo, rfl, hxb⟩ := (X5.out y).addr (by rw [flat_len Sp.cs 3 Sp.c3, HXN.out]; omega)
            obtain ⟨⟨sd, sa, sb⟩, hs⟩ : ∃ t, sp X i = t := ⟨_, rfl⟩
            have s0 : ∀ v : After V5, v.w.cell? ⟨xb, xo + i * 3, none⟩ = some (.int .i64 sd) := sp_cell X5.out (j := i) (by rw [HXN.out]; exact hlt3) 0 (by decide) (by rw [hs]; rfl) rfl
            have s1 : ∀ v : After V5, v.w.cell? ⟨xb, xo + i * 3 + 1, none⟩ = some (.int .i64 sa) := sp_cell X5.out (j := i) (by rw [HXN.out]; exact hlt3) 1 (by decide) (by rw [hs]; rfl) (by omega)
            have s2 : ∀ v : After V5, v.w.cell? ⟨xb, xo + i * 3 + 2, none⟩ = some (.int .i64 sb) := sp_cell X5.out (j := i) (by rw [HXN.out]; exact hlt3) 2 (by decide) (by rw [hs]; rfl) (by omega)
            have Hs := hid hs; clear hs
            have s0 := s0 y
            have s1 := s1 y
            have s2 := s2 y
            have q0y := q0 y
            have q1y := q1 y
            have zqy := zq y
            cases b
            · skip
              rcases c0 : (sd == qd) with _ | _
              · skip
                have HS1 := hid (show covB (sp X i) qd qp = false by rw [Hs.out]; simp [covB, c0])
                go_wp2_with fail
                clear c0
                go_roundw
                case rel => exact IL6.mk (i + 1) (b := false) ⟨_, b_alloc y.2 _⟩ (by omega) (by go_num) (by rw [covJ_next, HCJ.out, HS1.out]; rfl)
                case measure => first | (simp [intOf]; done) | (simp [intOf]; omega)
              · skip
                rcases c1 : decide (sa ≤ qp) with _ | _
                · skip
                  have HS1 := hid (show covB (sp X i) qd qp = false by rw [Hs.out]; simp [covB, c0, c1])
                  go_wp2_with fail
                  clear c0 c1
                  go_roundw
                  case rel => exact IL6.mk (i + 1) (b := false) ⟨_, b_alloc y.2 _⟩ (by omega) (by go_num) (by rw [covJ_next, HCJ.out, HS1.out]; rfl)
                  case measure => first | (simp [intOf]; done) | (simp [intOf]; omega)
                · skip
                  rcases c2 : decide (qp < sb) with _ | _
                  · skip
                    have HS1 := hid (show covB (sp X i) qd qp = false by rw [Hs.out]; simp [covB, c0, c1, c2])
                    go_wp2_with fail
                    clear c0 c1 c2
                    go_roundw
                    case rel => exact IL6.mk (i + 1) (b := false) ⟨_, b_alloc y.2 _⟩ (by omega) (by go_num) (by rw [covJ_next, HCJ.out, HS1.out]; rfl)
                    case measure => first | (simp [intOf]; done) | (simp [intOf]; omega)
                  · skip
                    have HS1 := hid (show covB (sp X i) qd qp = true by rw [Hs.out]; simp [covB, c0, c1, c2])
                    go_wp2_with fail
                    clear c0 c1 c2
                    go_roundw
                    case rel => exact IL6.mk (i + 1) (b := true) ⟨_, b_alloc y.2 _⟩ (by omega) (by go_num) (by rw [covJ_next, HCJ.out, HS1.out]; rfl)
                    case measure => first | (simp [intOf]; done) | (simp [intOf]; omega)
            · go_wp2_with fail
              go_roundw
              case rel => exact IL6.mk (i + 1) (b := true) ⟨_, b_alloc y.2 _⟩ (by omega) (by go_num) (by rw [covJ_next, HCJ.out]; rfl)
              case measure => first | (simp [intOf]; done) | (simp [intOf]; omega)
          have d1 : decide ((i : Int) < (n : Int)) = false := decide_eq_false (by omega)
          have d1' : decide (i < n) = false := decide_eq_false hlt3
          have hb6 : b = (A != A2 || (B != B2 || S != S2)) := by rw [← HCV.out, ← HCJ.out, show i = n by omega]
          rcases h0 : (A != A2) with _ | _
          · rcases h1 : (B != B2) with _ | _
            · cases S
              · cases S2
                · obtain rfl : b = false := by rw [hb6]; simp only [h0, h1]; rfl
                  clear hb6
                  go_wp2_with fail
                  go_roundw
                  case rel => exact L1R.mk (j + 1) ⟨y.w, b_then HB5.out y.2⟩ (by omega) (by go_num)
                  case measure => first | (simp [intOf]; done) | (simp [intOf]; omega)
                · obtain rfl : b = true := by rw [hb6]; simp only [h0, h1]; rfl
                  clear hb6
                  go_wp2_with fail
                  go_roundw
                  case rel => exact L1R.mk (j + 1) ⟨y.w, b_then HB5.out y.2⟩ (by omega) (by go_num)
                  case measure => first | (simp [intOf]; done) | (simp [intOf]; omega)
              · cases S2
                · obtain rfl : b = true := by rw [hb6]; simp only [h0, h1]; rfl
                  clear hb6
                  go_wp2_with fail
                  go_roundw
                  case rel => exact L1R.mk (j + 1) ⟨y.w, b_then HB5.out y.2⟩ (by omega) (by go_num)
                  case measure => first | (simp [intOf]; done) | (simp [intOf]; omega)
                · obtain rfl : b = false := by rw [hb6]; simp only [h0, h1]; rfl
                  clear hb6
                  go_wp2_with fail
                  go_roundw
                  case rel => exact L1R.mk (j + 1) ⟨y.w, b_then HB5.out y.2⟩ (by omega) (by go_num)
                  case measure => first | (simp [intOf]; done) | (simp [intOf]; omega)
            · skip
              obtain rfl : b = true := by rw [hb6]; simp only [h0, h1, Bool.true_or, Bool.or_true]
              clear hb6
              go_wp2_with fail
              go_roundw
              case rel => exact L1R.mk (j + 1) ⟨y.w, b_then HB5.out y.2⟩ (by omega) (by go_num)
              case measure => first | (simp [intOf]; done) | (simp [intOf]; omega)
          · skip
            obtain rfl : b = true := by rw [hb6]; simp only [h0, Bool.true_or]
            clear hb6
            go_wp2_with fail
            go_roundw
            case rel => exact L1R.mk (j + 1) ⟨y.w, b_then HB5.out y.2⟩ (by omega) (by go_num)
            case measure => first | (simp [intOf]; done) | (simp [intOf]; omega)

end Go.Proofs.Ytdnjpfjiaomlgaa
namespace Go.Proofs.Ytdnjpfjiaomlgaa.Cc6
open Go.ChangeShapes Go.WideShapes Go.ChangeAt Go.RowKit Go.Joins

theorem own : ownKnob Try.prog.godebug = none := by kernel_rfl
theorem laidOut : laidOutB Try.prog = true := by kernel_rfl

set_option maxRecDepth 100000 in
theorem lifted (os : Os) (started : os.Started) (H : Type) (enc : TypeId × Value → H) :
    ReturnsInHanded {} Try.checked os 6 .any (Rows.calibrateChangedSpec.pre6 enc Try.prog Try.f6 Rows.calibrateChangedRow.domain false) (Rows.calibrateChangedSpec.post enc Try.prog Try.f6 false true false false) := by
  refine returnsInHanded_of_change (C := Try.checked) own started (by kernel_rfl) Try.func6
    (ChangeSpec.witness6 (enc := enc) (C := Try.checked) false ⟨#[], #[.slice none 0 0, .int .i64 0, .int .i64 0, .int .i64 0, .int .i64 0], []⟩ 8 (by kernel_rfl) (by kernel_rfl) (by kernel_rfl) (by kernel_rfl)) ?_
  intro W base args ds gs before hval0 hW hcnd _
  have hval : ∀ (j : Nat) t v, Try.f6.params[j]? = some t → args[j]? = some v → Value.okWide Try.prog W .any base t v := hval0
  have hW' := hW
  obtain ⟨p, q, hA0, hV, rfl, hfz, hnd⟩ := hW
  have hA : DataW.TrodAll enc Try.prog W 0 (fun _ => true) true Try.f6.params.toList args.toList ds p := hA0
  rw [Try.params6] at hA hval
  obtain ⟨v0, vs0, d0, ds0, p0, q0, hargs, rfl, rfl, h0, r0⟩ := trodAll_cons hA
  obtain ⟨v1, vs1, d1, ds1, p1, q1, rfl, rfl, rfl, h1, r1⟩ := trodAll_cons r0
  obtain ⟨v2, vs2, d2, ds2, p2, q2, rfl, rfl, rfl, h2, r2⟩ := trodAll_cons r1
  obtain ⟨v3, vs3, d3, ds3, p3, q3, rfl, rfl, rfl, h3, r3⟩ := trodAll_cons r2
  obtain ⟨v4, vs4, d4, ds4, p4, q4, rfl, rfl, rfl, h4, r4⟩ := trodAll_cons r3
  obtain ⟨rfl, rfl, rfl⟩ := trodAll_nil r4
  obtain rfl : args = #[v0, v1, v2, v3, v4] := by cases args; simp_all
  obtain ⟨rfl, rfl⟩ := trodVars_none hV
  have k0 := h0
  have lt0 : ∀ x ∈ p0, x.block < W.heap.size := by obtain ⟨m, hm⟩ := k0; exact DataW.trod_lt m _ _ _ hm
  obtain ⟨xa0, xn0, xc0, rfl⟩ := okWide_slice Try.underlying22 (hval 0 22 v0 rfl rfl)
  obtain ⟨m0, hm0⟩ := h0
  obtain ⟨a0, n0, c0, e0, lc0, mc0, fz0, ⟨l0, ln0, rd0⟩⟩ := open_rcs hm0
  cases e0
  have nb0 := Nat.le_trans lc0 (max_len mc0)
  obtain ⟨a1, rfl, rfl, rfl, w1⟩ := open_int Try.underlying3 (hval 1 3 v1 rfl rfl) h1
  obtain ⟨a2, rfl, rfl, rfl, w2⟩ := open_int Try.underlying3 (hval 2 3 v2 rfl rfl) h2
  obtain ⟨a3, rfl, rfl, rfl, w3⟩ := open_int Try.underlying3 (hval 3 3 v3 rfl rfl) h3
  obtain ⟨a4, rfl, rfl, rfl, w4⟩ := open_int Try.underlying3 (hval 4 3 v4 rfl rfl) h4
  clear hA0 hval0
  refine (cchg_walk l0 xn0 ln0 xa0 xc0 fz0 lc0 a1 a2 a3 a4 nb0 W rd0).mono fun e W' ⟨he, bel⟩ => ?_
  subst he
  exact ⟨_, rfl, _, _, _, [], _, [], hW', trodAll_mk1 (shut_bool Try.underlying4 _), (trodAll_cons_mk (Below.trod laidOut (by kernel_rfl) (of_decide_eq_true (by kernel_rfl)) k0 bel lt0) (trodAll_cons_mk (shut_int Try.underlying3 w1) (trodAll_cons_mk (shut_int Try.underlying3 w2) (trodAll_cons_mk (shut_int Try.underlying3 w3) (trodAll_cons_mk (shut_int Try.underlying3 w4) trodAll_mk0))))), rfl, bel.frame _, fun h => by cases h⟩

theorem over : Rows.calibrateChangedRow.holds Try.pinned (OpenSpec.ofChange Rows.calibrateChangedSpec) :=
  OpenClaim.holds_of_wide 6 Try.f6 rfl rfl rfl rfl rfl rfl rfl ⟨rfl, rfl, rfl, rfl, rfl⟩ rfl rfl rfl rfl rfl (by kernel_rfl) Try.func6 (by show joinedFacts Try.prog _ _ _ _ = true; kernel_rfl)
    (of_decide_eq_true (by kernel_rfl)) (by unfold Func.isWrapper; first | (rw [if_pos (by decide +kernel)]; kernel_rfl) | (rw [if_neg (by decide +kernel)]; exact ⟨rfl, rfl⟩))
    (fun os started H enc _ => lifted os started H enc)
end Go.Proofs.Ytdnjpfjiaomlgaa.Cc6
namespace Go.Proofs.Ytdnjpfjiaomlgaa
/-- The statement. -/
theorem calibrateChanged_holds : Rows.CalibrateChangedSaid := Cc6.over
end Go.Proofs.Ytdnjpfjiaomlgaa
