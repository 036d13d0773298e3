/- The reference's Same, SameSpans. -/
import Derived.Test.YtdnjpfjiaomlgaaC1
import Derived.Laws.StructEq
import Derived.IntWalk
namespace Go.Proofs.Ytdnjpfjiaomlgaa
open Go.RowKit
open Go.Lib (hid)

theorem mix24 : Try.prog.eqGuardType Try.prog.depth 24 = false := by kernel_rfl
theorem fld24 : Try.prog.underlying 24 = some (.struct (Try.prog.fieldsOf 24)) := by kernel_rfl
theorem sto24 : Try.prog.stoodInHeld 24 = false := by kernel_rfl
theorem lst24 : (Try.prog.fieldsOf 24).toList = [{ name := "Device", type := 3, offset := 0, embedded := false, tag := "", pkgPath := "", byteOffset := 0 }, { name := "From", type := 3, offset := 1, embedded := false, tag := "", pkgPath := "", byteOffset := 8 }, { name := "Known", type := 3, offset := 2, embedded := false, tag := "", pkgPath := "", byteOffset := 16 }, { name := "In", type := 3, offset := 3, embedded := false, tag := "", pkgPath := "", byteOffset := 24 }, { name := "Out", type := 3, offset := 4, embedded := false, tag := "", pkgPath := "", byteOffset := 32 }] := by kernel_rfl
theorem eq24 (a b c d e a' b' c' d' e' : Int) (w : World) : (Op.equalIn 10000 24 (.agg #[.int .i64 a, .int .i64 b, .int .i64 c, .int .i64 d, .int .i64 e]) (.agg #[.int .i64 a', .int .i64 b', .int .i64 c', .int .i64 d', .int .i64 e'])).run Try.prog w = .ok (decide (a = a' ∧ b = b' ∧ c = c' ∧ d = d' ∧ e = e')) w := by
  show (Op.equalIn (9998 + 1 + 1) _ _ _).run _ _ = _
  rw [run_equalIn_agg w (9998 + 1) 24 _ _ fld24 sto24, lst24]
  simp [Op.eqFields, part, isAgg, run_underlying Try.underlying3, go_sem]
  by_cases h1 : a = a' <;> by_cases h2 : b = b' <;> by_cases h3 : c = c' <;> by_cases h4 : d = d' <;> by_cases h5 : e = e' <;> simp [h1, h2, h3, h4, h5]
theorem rc_eta (t u : Rc) : (t.d = u.d ∧ t.f = u.f ∧ t.k = u.k ∧ t.i = u.i ∧ t.o = u.o) ↔ t = u := by
  constructor
  · rintro ⟨h1, h2, h3, h4, h5⟩
    cases t; cases u
    simp_all
  · rintro rfl
    exact ⟨rfl, rfl, rfl, rfl, rfl⟩
def SRL (m m2 : List Rc) (n : Nat) (w : World) (i : Value) (wr : World) : Prop := ∃ (j : Nat) (z : After w), j ≤ n ∧ i = .int .i64 j ∧ wr = z.w ∧ Hid (∀ x, x < j → rc m x = rc m2 x)
set_option maxRecDepth 100000 in
set_option maxHeartbeats 4000000 in
theorem rsame_any (m m2 : List Rc) (n n2 : Nat) (hn : m.length = n) (hn2 : m2.length = n2) (a a2 : Option Addr) (c c2 : Nat) (hb : n ≤ 9223372036854775807) (w : World) (hr : Rd w a (m.flatMap Rc.cs)) (hr2 : Rd w a2 (m2.flatMap Rc.cs)) :
    Calls Try.prog 14 #[.slice a n c, .slice a2 n2 c2] w fun e w' => e = .returned (.bool (decide (m = m2))) ∧ Below w.heap.size w w' := by
  have HN := hid hn; have HN2 := hid hn2; have HR := hid hr; have HR2 := hid hr2
  clear hn hn2 hr hr2
  have q0 := mix24
  have q1 := eq24
  go_enter Try.func14, Try.ntmps14
  by_cases hl : n = n2
  case neg =>
    have hne : ((n : Int) != (n2 : Int)) = true := by simp; omega
    have hne2 : (n == n2) = false := beq_eq_false_iff_ne.2 hl
    go_wp2_with fail
    exact bodyPost_ret (v := .bool false) (by simp [results, Try.results14, go_sem]) rfl ⟨by rw [decide_eq_false (fun h => hl (by rw [← HN.out, ← HN2.out, h]))], Below.refl _ _⟩
  subst hl
  go_wp2_with fail
  go_loopw [5] (fun i wr => SRL m m2 n w i wr) (fun i _ => n - (intOf i).toNat)
  case atStart => exact ⟨0, After.here w, by omega, rfl, rfl, hid fun x h => absurd h (by omega)⟩
  case round =>
    obtain ⟨j, z, hj, rfl, rfl, hp⟩ := hrel
    by_cases hlt : j < n
    · have d1 : decide (j < n) = true := decide_eq_true hlt
      have R1 := hid (fun v : After z.w => HR.out.below (b_then z.2 v.2))
      have R2 := hid (fun v : After z.w => HR2.out.below (b_then z.2 v.2))
      obtain ⟨b, off, rfl, hb1⟩ := HR.out.addr (by rw [flat_len Rc.cs 5 Rc.c5, HN.out]; omega)
      obtain ⟨b2, off2, rfl, hb2⟩ := HR2.out.addr (by rw [flat_len Rc.cs 5 Rc.c5, HN2.out]; omega)
      obtain ⟨t, ht⟩ : ∃ t, rc m j = t := ⟨_, rfl⟩
      obtain ⟨s, hs⟩ : ∃ t, rc m2 j = t := ⟨_, rfl⟩
      have c0 : ∀ v : After z.w, v.w.cell? ⟨b, off + j * 5, none⟩ = some (.int .i64 t.d) := rc_cell R1.out (j := j) (by rw [HN.out]; exact hlt) 0 (by decide) (by rw [ht]; rfl) rfl
      have c1 : ∀ v : After z.w, v.w.cell? ⟨b, off + j * 5 + 1, none⟩ = some (.int .i64 t.f) := rc_cell R1.out (j := j) (by rw [HN.out]; exact hlt) 1 (by decide) (by rw [ht]; rfl) (by omega)
      have c2 : ∀ v : After z.w, v.w.cell? ⟨b, off + j * 5 + 2, none⟩ = some (.int .i64 t.k) := rc_cell R1.out (j := j) (by rw [HN.out]; exact hlt) 2 (by decide) (by rw [ht]; rfl) (by omega)
      have c3 : ∀ v : After z.w, v.w.cell? ⟨b, off + j * 5 + 3, none⟩ = some (.int .i64 t.i) := rc_cell R1.out (j := j) (by rw [HN.out]; exact hlt) 3 (by decide) (by rw [ht]; rfl) (by omega)
      have c4 : ∀ v : After z.w, v.w.cell? ⟨b, off + j * 5 + 4, none⟩ = some (.int .i64 t.o) := rc_cell R1.out (j := j) (by rw [HN.out]; exact hlt) 4 (by decide) (by rw [ht]; rfl) (by omega)
      have y0 : ∀ v : After z.w, v.w.cell? ⟨b2, off2 + j * 5, none⟩ = some (.int .i64 s.d) := rc_cell R2.out (j := j) (by rw [HN2.out]; exact hlt) 0 (by decide) (by rw [hs]; rfl) rfl
      have y1 : ∀ v : After z.w, v.w.cell? ⟨b2, off2 + j * 5 + 1, none⟩ = some (.int .i64 s.f) := rc_cell R2.out (j := j) (by rw [HN2.out]; exact hlt) 1 (by decide) (by rw [hs]; rfl) (by omega)
      have y2 : ∀ v : After z.w, v.w.cell? ⟨b2, off2 + j * 5 + 2, none⟩ = some (.int .i64 s.k) := rc_cell R2.out (j := j) (by rw [HN2.out]; exact hlt) 2 (by decide) (by rw [hs]; rfl) (by omega)
      have y3 : ∀ v : After z.w, v.w.cell? ⟨b2, off2 + j * 5 + 3, none⟩ = some (.int .i64 s.i) := rc_cell R2.out (j := j) (by rw [HN2.out]; exact hlt) 3 (by decide) (by rw [hs]; rfl) (by omega)
      have y4 : ∀ v : After z.w, v.w.cell? ⟨b2, off2 + j * 5 + 4, none⟩ = some (.int .i64 s.o) := rc_cell R2.out (j := j) (by rw [HN2.out]; exact hlt) 4 (by decide) (by rw [hs]; rfl) (by omega)
      have HT := hid ht; have HS := hid hs
      clear ht hs
      go_upto_region 6 with fail
      obtain ⟨u, hu⟩ : ∃ u : After z.w, u.w = z.w := ⟨After.here z.w, rfl⟩
      rw [← hu]
      clear hu
      refine wp_region_since (by kernel_rfl) (by kernel_rfl) ?_
      repeat (go_big_quiet_step (fail))
      refine wpQuiet_nil ?_
      intro u7
      obtain ⟨B, hB⟩ : ∃ B, (!decide (t.d = s.d) || (!decide (t.f = s.f) || (!decide (t.k = s.k) || (!decide (t.i = s.i) || !decide (t.o = s.o))))) = B := ⟨_, rfl⟩
      rw [hB]
      have hts : B = false ↔ t = s := by
        rw [← hB, ← rc_eta]
        simp
      have HTS := hid hts
      clear hB hts
      cases B
      · go_wp2_with fail
        go_roundw
        case rel => exact ⟨j + 1, ⟨u7.w, b_then z.2 u7.2⟩, by omega, by go_num, rfl, hid fun x hx => by rcases Nat.lt_succ_iff_lt_or_eq.1 hx with h | rfl; exact hp.out x h; rw [HT.out, HS.out]; exact HTS.out.1 rfl⟩
        case measure => first | (simp [intOf]; done) | (simp [intOf]; omega)
      · go_wp2_with fail
        exact bodyPost_ret (v := .bool false) (by simp [results, Try.results14, go_sem]) rfl ⟨by rw [decide_eq_false (fun h => by have := HTS.out.2 (by rw [← HT.out, ← HS.out, h]); cases this)], b_then z.2 u7.2⟩
    · have d1 : decide (j < n) = false := decide_eq_false hlt
      go_wp2_with fail
      exact bodyPost_ret (v := .bool true) (by simp [results, Try.results14, go_sem]) rfl ⟨by rw [decide_eq_true (rc_ext (by rw [HN.out, HN2.out]) (fun x hx => hp.out x (by rw [HN.out] at hx; omega)))], z.2⟩
theorem sp_ext {m m2 : List Sp} (hl : m.length = m2.length) (h : ∀ i, i < m.length → sp m i = sp m2 i) : m = m2 :=
  List.ext_getElem hl fun i h1 h2 => by rw [sp_eq h1, sp_eq h2]; exact h i h1
theorem sp_eta (t u : Sp) : (t.d = u.d ∧ t.a = u.a ∧ t.b = u.b) ↔ t = u := by
  constructor
  · rintro ⟨h1, h2, h3⟩
    cases t; cases u
    simp_all
  · rintro rfl
    exact ⟨rfl, rfl, rfl⟩
theorem und40 : Try.prog.underlying 40 = some (.array 3 3) := by kernel_rfl
theorem mix40 : Try.prog.eqGuardType Try.prog.depth 40 = false := by kernel_rfl
/-- Rows of three numbers are equal if all numbers are. -/
theorem eq40 (a b c d e f : Int) (w : World) : (Op.equalIn 10000 40 (.agg #[.int .i64 a, .int .i64 b, .int .i64 c]) (.agg #[.int .i64 d, .int .i64 e, .int .i64 f])).run Try.prog w = .ok (decide (a = d ∧ b = e ∧ c = f)) w := by
  show (Op.equalIn (9998 + 1 + 1) _ _ _).run _ _ = _
  rw [Op.equalIn]
  simp [run_underlying und40, run_underlying Try.underlying3, go_sem, part, isAgg, show List.range' 0 3 = [0, 1, 2] from rfl, run_equalIn_int w 9998 3 .i64 .i64 b e Try.underlying3]
  by_cases h1 : a = d <;> by_cases h2 : b = e <;> by_cases h3 : c = f <;> simp [h1, h2, h3]
def SSL (m m2 : List Sp) (n : Nat) (w : World) (i : Value) (wr : World) : Prop := ∃ (j : Nat) (z : After w), j ≤ n ∧ i = .int .i64 j ∧ wr = z.w ∧ Hid (∀ x, x < j → sp m x = sp m2 x)
set_option maxRecDepth 100000 in
set_option maxHeartbeats 4000000 in
theorem ssame_any (m m2 : List Sp) (n n2 : Nat) (hn : m.length = n) (hn2 : m2.length = n2) (a a2 : Option Addr) (c c2 : Nat) (hb : n ≤ 9223372036854775807) (w : World) (hr : Rd w a (m.flatMap Sp.cs)) (hr2 : Rd w a2 (m2.flatMap Sp.cs)) :
    Calls Try.prog 19 #[.slice a n c, .slice a2 n2 c2] w fun e w' => e = .returned (.bool (decide (m = m2))) ∧ Below w.heap.size w w' := by
  have HN := hid hn; have HN2 := hid hn2; have HR := hid hr; have HR2 := hid hr2
  clear hn hn2 hr hr2
  have q0 := mix40
  have q1 := eq40
  go_enter Try.func19, Try.ntmps19
  by_cases hl : n = n2
  case neg =>
    have hne : ((n : Int) != (n2 : Int)) = true := by simp; omega
    have hne2 : (n == n2) = false := beq_eq_false_iff_ne.2 hl
    go_wp2_with fail
    exact bodyPost_ret (v := .bool false) (by simp [results, Try.results19, go_sem]) rfl ⟨by rw [decide_eq_false (fun h => hl (by rw [← HN.out, ← HN2.out, h]))], Below.refl _ _⟩
  subst hl
  go_wp2_with fail
  go_loopw [5] (fun i wr => SSL m m2 n w i wr) (fun i _ => n - (intOf i).toNat)
  case atStart => exact ⟨0, After.here w, by omega, rfl, rfl, hid fun x h => absurd h (by omega)⟩
  case round =>
    obtain ⟨j, z, hj, rfl, rfl, hp⟩ := hrel
    by_cases hlt : j < n
    · have d1 : decide (j < n) = true := decide_eq_true hlt
      have R1 := hid (fun v : After z.w => HR.out.below (b_then z.2 v.2))
      have R2 := hid (fun v : After z.w => HR2.out.below (b_then z.2 v.2))
      obtain ⟨b, off, rfl, hb1⟩ := HR.out.addr (by rw [flat_len Sp.cs 3 Sp.c3, HN.out]; omega)
      obtain ⟨b2, off2, rfl, hb2⟩ := HR2.out.addr (by rw [flat_len Sp.cs 3 Sp.c3, HN2.out]; omega)
      obtain ⟨t, ht⟩ : ∃ t, sp m j = t := ⟨_, rfl⟩
      obtain ⟨s, hs⟩ : ∃ t, sp m2 j = t := ⟨_, rfl⟩
      have c0 : ∀ v : After z.w, v.w.cell? ⟨b, off + j * 3, none⟩ = some (.int .i64 t.d) := sp_cell R1.out (j := j) (by rw [HN.out]; exact hlt) 0 (by decide) (by rw [ht]; rfl) rfl
      have c1 : ∀ v : After z.w, v.w.cell? ⟨b, off + j * 3 + 1, none⟩ = some (.int .i64 t.a) := sp_cell R1.out (j := j) (by rw [HN.out]; exact hlt) 1 (by decide) (by rw [ht]; rfl) (by omega)
      have c2 : ∀ v : After z.w, v.w.cell? ⟨b, off + j * 3 + 2, none⟩ = some (.int .i64 t.b) := sp_cell R1.out (j := j) (by rw [HN.out]; exact hlt) 2 (by decide) (by rw [ht]; rfl) (by omega)
      have y0 : ∀ v : After z.w, v.w.cell? ⟨b2, off2 + j * 3, none⟩ = some (.int .i64 s.d) := sp_cell R2.out (j := j) (by rw [HN2.out]; exact hlt) 0 (by decide) (by rw [hs]; rfl) rfl
      have y1 : ∀ v : After z.w, v.w.cell? ⟨b2, off2 + j * 3 + 1, none⟩ = some (.int .i64 s.a) := sp_cell R2.out (j := j) (by rw [HN2.out]; exact hlt) 1 (by decide) (by rw [hs]; rfl) (by omega)
      have y2 : ∀ v : After z.w, v.w.cell? ⟨b2, off2 + j * 3 + 2, none⟩ = some (.int .i64 s.b) := sp_cell R2.out (j := j) (by rw [HN2.out]; exact hlt) 2 (by decide) (by rw [hs]; rfl) (by omega)
      have HT := hid ht; have HS := hid hs
      clear ht hs
      go_upto_region 6 with fail
      obtain ⟨u, hu⟩ : ∃ u : After z.w, u.w = z.w := ⟨After.here z.w, rfl⟩
      rw [← hu]
      clear hu
      refine wp_region_since (by kernel_rfl) (by kernel_rfl) ?_
      repeat (go_big_quiet_step (fail))
      refine wpQuiet_nil ?_
      intro u7
      obtain ⟨B, hB⟩ : ∃ B, (!decide (t.d = s.d) || (!decide (t.a = s.a) || !decide (t.b = s.b))) = B := ⟨_, rfl⟩
      rw [hB]
      have hts : B = false ↔ t = s := by
        rw [← hB, ← sp_eta]
        simp
      have HTS := hid hts
      clear hB hts
      cases B
      · go_wp2_with fail
        go_roundw
        case rel => exact ⟨j + 1, ⟨u7.w, b_then z.2 u7.2⟩, by omega, by go_num, rfl, hid fun x hx => by rcases Nat.lt_succ_iff_lt_or_eq.1 hx with h | rfl; exact hp.out x h; rw [HT.out, HS.out]; exact HTS.out.1 rfl⟩
        case measure => first | (simp [intOf]; done) | (simp [intOf]; omega)
      · go_wp2_with fail
        exact bodyPost_ret (v := .bool false) (by simp [results, Try.results19, go_sem]) rfl ⟨by rw [decide_eq_false (fun h => by have := HTS.out.2 (by rw [← HT.out, ← HS.out, h]); cases this)], b_then z.2 u7.2⟩
    · have d1 : decide (j < n) = false := decide_eq_false hlt
      go_wp2_with fail
      exact bodyPost_ret (v := .bool true) (by simp [results, Try.results19, go_sem]) rfl ⟨by rw [decide_eq_true (sp_ext (by rw [HN.out, HN2.out]) (fun x hx => hp.out x (by rw [HN.out] at hx; omega)))], z.2⟩
end Go.Proofs.Ytdnjpfjiaomlgaa
