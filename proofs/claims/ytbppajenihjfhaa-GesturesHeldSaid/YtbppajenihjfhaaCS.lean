/- The reference's Same, SameInts, Few (curves). -/
import Derived.Test.YtbppajenihjfhaaCV
import Derived.Laws.StructEq
import Derived.IntWalk
namespace Go.Proofs.Ytbppajenihjfhaa
open Go.RowKit
open Go.Lib (hid)

theorem mix71 : Try.prog.eqGuardType Try.prog.depth 71 = false := by kernel_rfl
theorem fld71 : Try.prog.underlying 71 = some (.struct (Try.prog.fieldsOf 71)) := by kernel_rfl
theorem sto71 : Try.prog.stoodInHeld 71 = false := by kernel_rfl
theorem lst71 : (Try.prog.fieldsOf 71).toList = [{ name := "At", type := 3, offset := 0, embedded := false, tag := "", pkgPath := "", byteOffset := 0 }, { name := "Value", type := 3, offset := 1, embedded := false, tag := "", pkgPath := "", byteOffset := 8 }, { name := "Shape", type := 3, offset := 2, embedded := false, tag := "", pkgPath := "", byteOffset := 16 }, { name := "A", type := 3, offset := 3, embedded := false, tag := "", pkgPath := "", byteOffset := 24 }, { name := "B", type := 3, offset := 4, embedded := false, tag := "", pkgPath := "", byteOffset := 32 }] := by kernel_rfl
theorem eq71 (a b c d e a' b' c' d' e' : Int) (w : World) : (Op.equalIn 10000 71 (.agg #[.int .i64 a, .int .i64 b, .int .i64 c, .int .i64 d, .int .i64 e]) (.agg #[.int .i64 a', .int .i64 b', .int .i64 c', .int .i64 d', .int .i64 e'])).run Try.prog w = .ok (decide (a = a' ∧ b = b' ∧ c = c' ∧ d = d' ∧ e = e')) w := by
  show (Op.equalIn (9998 + 1 + 1) _ _ _).run _ _ = _
  rw [run_equalIn_agg w (9998 + 1) 71 _ _ fld71 sto71, lst71]
  simp [Op.eqFields, part, isAgg, run_underlying Try.underlying3, go_sem]
  by_cases h1 : a = a' <;> by_cases h2 : b = b' <;> by_cases h3 : c = c' <;> by_cases h4 : d = d' <;> by_cases h5 : e = e' <;> simp [h1, h2, h3, h4, h5]
theorem kn_eta (t u : Kn) : (t.k = u.k ∧ t.v = u.v ∧ t.s = u.s ∧ t.a = u.a ∧ t.b = u.b) ↔ t = u := by
  constructor
  · rintro ⟨h1, h2, h3, h4, h5⟩
    cases t; cases u
    simp_all
  · rintro rfl
    exact ⟨rfl, rfl, rfl, rfl, rfl⟩
def SKL (m m2 : List Kn) (n : Nat) (w : World) (i : Value) (wr : World) : Prop := ∃ (j : Nat) (z : After w), j ≤ n ∧ i = .int .i64 j ∧ wr = z.w ∧ Hid (∀ x, x < j → kn m x = kn m2 x)
set_option maxRecDepth 100000 in
set_option maxHeartbeats 4000000 in
theorem ksame_any (m m2 : List Kn) (n n2 : Nat) (hn : m.length = n) (hn2 : m2.length = n2) (a a2 : Option Addr) (c c2 : Nat) (hb : n ≤ 9223372036854775807) (w : World) (hr : Rd w a (m.flatMap Kn.c)) (hr2 : Rd w a2 (m2.flatMap Kn.c)) :
    Calls Try.prog 57 #[.slice a n c, .slice a2 n2 c2] w fun e w' => e = .returned (.bool (decide (m = m2))) ∧ Below w.heap.size w w' := by
  have HN := hid hn; have HN2 := hid hn2; have HR := hid hr; have HR2 := hid hr2
  clear hn hn2 hr hr2
  have q0 := mix71
  have q1 := eq71
  go_enter Try.func57, Try.ntmps57
  by_cases hl : n = n2
  case neg =>
    have hne : ((n : Int) != (n2 : Int)) = true := by simp; omega
    have hne2 : (n == n2) = false := beq_eq_false_iff_ne.2 hl
    go_wp2_with fail
    exact bodyPost_ret (v := .bool false) (by simp [results, Try.results57, go_sem]) rfl ⟨by rw [decide_eq_false (fun h => hl (by rw [← HN.out, ← HN2.out, h]))], Below.refl _ _⟩
  subst hl
  go_wp2_with fail
  go_loopw [5] (fun i wr => SKL m m2 n w i wr) (fun i _ => n - (intOf i).toNat)
  case atStart => exact ⟨0, After.here w, by omega, rfl, rfl, hid fun x h => absurd h (by omega)⟩
  case round =>
    obtain ⟨j, z, hj, rfl, rfl, hp⟩ := hrel
    by_cases hlt : j < n
    · have d1 : decide (j < n) = true := decide_eq_true hlt
      have R1 := hid (fun v : After z.w => HR.out.below (b_then z.2 v.2))
      have R2 := hid (fun v : After z.w => HR2.out.below (b_then z.2 v.2))
      obtain ⟨b, off, rfl, hb1⟩ := HR.out.addr (by rw [flat_len Kn.c 5 Kn.c5, HN.out]; omega)
      obtain ⟨b2, off2, rfl, hb2⟩ := HR2.out.addr (by rw [flat_len Kn.c 5 Kn.c5, HN2.out]; omega)
      obtain ⟨t, ht⟩ : ∃ t, kn m j = t := ⟨_, rfl⟩
      obtain ⟨s, hs⟩ : ∃ t, kn m2 j = t := ⟨_, rfl⟩
      have c0 : ∀ v : After z.w, v.w.cell? ⟨b, off + j * 5, none⟩ = some (.int .i64 t.k) := kn_cell R1.out (j := j) (by rw [HN.out]; exact hlt) 0 (by decide) (by rw [ht]; rfl) rfl
      have c1 : ∀ v : After z.w, v.w.cell? ⟨b, off + j * 5 + 1, none⟩ = some (.int .i64 t.v) := kn_cell R1.out (j := j) (by rw [HN.out]; exact hlt) 1 (by decide) (by rw [ht]; rfl) (by omega)
      have c2 : ∀ v : After z.w, v.w.cell? ⟨b, off + j * 5 + 2, none⟩ = some (.int .i64 t.s) := kn_cell R1.out (j := j) (by rw [HN.out]; exact hlt) 2 (by decide) (by rw [ht]; rfl) (by omega)
      have c3 : ∀ v : After z.w, v.w.cell? ⟨b, off + j * 5 + 3, none⟩ = some (.int .i64 t.a) := kn_cell R1.out (j := j) (by rw [HN.out]; exact hlt) 3 (by decide) (by rw [ht]; rfl) (by omega)
      have c4 : ∀ v : After z.w, v.w.cell? ⟨b, off + j * 5 + 4, none⟩ = some (.int .i64 t.b) := kn_cell R1.out (j := j) (by rw [HN.out]; exact hlt) 4 (by decide) (by rw [ht]; rfl) (by omega)
      have y0 : ∀ v : After z.w, v.w.cell? ⟨b2, off2 + j * 5, none⟩ = some (.int .i64 s.k) := kn_cell R2.out (j := j) (by rw [HN2.out]; exact hlt) 0 (by decide) (by rw [hs]; rfl) rfl
      have y1 : ∀ v : After z.w, v.w.cell? ⟨b2, off2 + j * 5 + 1, none⟩ = some (.int .i64 s.v) := kn_cell R2.out (j := j) (by rw [HN2.out]; exact hlt) 1 (by decide) (by rw [hs]; rfl) (by omega)
      have y2 : ∀ v : After z.w, v.w.cell? ⟨b2, off2 + j * 5 + 2, none⟩ = some (.int .i64 s.s) := kn_cell R2.out (j := j) (by rw [HN2.out]; exact hlt) 2 (by decide) (by rw [hs]; rfl) (by omega)
      have y3 : ∀ v : After z.w, v.w.cell? ⟨b2, off2 + j * 5 + 3, none⟩ = some (.int .i64 s.a) := kn_cell R2.out (j := j) (by rw [HN2.out]; exact hlt) 3 (by decide) (by rw [hs]; rfl) (by omega)
      have y4 : ∀ v : After z.w, v.w.cell? ⟨b2, off2 + j * 5 + 4, none⟩ = some (.int .i64 s.b) := kn_cell R2.out (j := j) (by rw [HN2.out]; exact hlt) 4 (by decide) (by rw [hs]; rfl) (by omega)
      have HT := hid ht; have HS := hid hs
      clear ht hs
      go_upto_region 6 with fail
      obtain ⟨u, hu⟩ : ∃ u : After z.w, u.w = z.w := ⟨After.here z.w, rfl⟩
      rw [← hu]
      clear hu
      refine wp_region_since (by kernel_rfl) (by kernel_rfl) ?_
      repeat (go_big_quiet_step (fail))
      refine wpQuiet_nil ?_
      intro u7
      obtain ⟨B, hB⟩ : ∃ B, (!decide (t.k = s.k) || (!decide (t.v = s.v) || (!decide (t.s = s.s) || (!decide (t.a = s.a) || !decide (t.b = s.b))))) = B := ⟨_, rfl⟩
      rw [hB]
      have hts : B = false ↔ t = s := by
        rw [← hB, ← kn_eta]
        simp
      have HTS := hid hts
      clear hB hts
      cases B
      · go_wp2_with fail
        go_roundw
        case rel => exact ⟨j + 1, ⟨u7.w, b_then z.2 u7.2⟩, by omega, by go_num, rfl, hid fun x hx => by rcases Nat.lt_succ_iff_lt_or_eq.1 hx with h | rfl; exact hp.out x h; rw [HT.out, HS.out]; exact HTS.out.1 rfl⟩
        case measure => first | (simp [intOf]; done) | (simp [intOf]; omega)
      · go_wp2_with fail
        exact bodyPost_ret (v := .bool false) (by simp [results, Try.results57, go_sem]) rfl ⟨by rw [decide_eq_false (fun h => by have := HTS.out.2 (by rw [← HT.out, ← HS.out, h]); cases this)], b_then z.2 u7.2⟩
    · have d1 : decide (j < n) = false := decide_eq_false hlt
      go_wp2_with fail
      exact bodyPost_ret (v := .bool true) (by simp [results, Try.results57, go_sem]) rfl ⟨by rw [decide_eq_true (kn_ext (by rw [HN.out, HN2.out]) (fun x hx => hp.out x (by rw [HN.out] at hx; omega)))], z.2⟩
def SIL (m m2 : List Int) (n : Nat) (w : World) (i : Value) (wr : World) : Prop := ∃ (j : Nat) (z : After w), j ≤ n ∧ i = .int .i64 j ∧ wr = z.w ∧ Hid (∀ x, x < j → m[x]? = m2[x]?)
/-- A cell of a row of numbers. -/
theorem iv_cell {V : World} {b off : Nat} {l : List Int} (h : ∀ v : After V, Rd v.w (some ⟨b, off, none⟩) (ivs l)) {j : Nat} {x : Int} (hx : l[j]? = some x) : ∀ v : After V, v.w.cell? ⟨b, off + j, none⟩ = some (.int .i64 x) :=
  after_row h (by rw [ivs, List.getElem?_map, hx]; rfl)
set_option maxRecDepth 100000 in
set_option maxHeartbeats 4000000 in
theorem isame_any (m m2 : List Int) (n n2 : Nat) (hn : m.length = n) (hn2 : m2.length = n2) (a a2 : Option Addr) (c c2 : Nat) (hb : n ≤ 9223372036854775807) (w : World) (hr : Rd w a (ivs m)) (hr2 : Rd w a2 (ivs m2)) :
    Calls Try.prog 54 #[.slice a n c, .slice a2 n2 c2] w fun e w' => e = .returned (.bool (decide (m = m2))) ∧ Below w.heap.size w w' := by
  have HN := hid hn; have HN2 := hid hn2; have HR := hid hr; have HR2 := hid hr2
  clear hn hn2 hr hr2
  go_enter Try.func54, Try.ntmps54
  by_cases hl : n = n2
  case neg =>
    have hne : ((n : Int) != (n2 : Int)) = true := by simp; omega
    have hne2 : (n == n2) = false := beq_eq_false_iff_ne.2 hl
    go_wp2_with fail
    exact bodyPost_ret (v := .bool false) (by simp [results, Try.results54, go_sem]) rfl ⟨by rw [decide_eq_false (fun h => hl (by rw [← HN.out, ← HN2.out, h]))], Below.refl _ _⟩
  subst hl
  go_wp2_with fail
  go_loopw [5] (fun i wr => SIL m m2 n w i wr) (fun i _ => n - (intOf i).toNat)
  case atStart => exact ⟨0, After.here w, by omega, rfl, rfl, hid fun x h => absurd h (by omega)⟩
  case round =>
    obtain ⟨j, z, hj, rfl, rfl, hp⟩ := hrel
    by_cases hlt : j < n
    · have d1 : decide (j < n) = true := decide_eq_true hlt
      have R1 := hid (fun v : After z.w => HR.out.below (b_then z.2 v.2))
      have R2 := hid (fun v : After z.w => HR2.out.below (b_then z.2 v.2))
      obtain ⟨b, off, rfl, hb1⟩ := HR.out.addr (by rw [ivs_len, HN.out]; omega)
      obtain ⟨b2, off2, rfl, hb2⟩ := HR2.out.addr (by rw [ivs_len, HN2.out]; omega)
      obtain ⟨x, hx⟩ : ∃ x, m[j]? = some x := ⟨_, List.getElem?_eq_getElem (by rw [HN.out]; exact hlt)⟩
      obtain ⟨y, hy⟩ : ∃ x, m2[j]? = some x := ⟨_, List.getElem?_eq_getElem (by rw [HN2.out]; exact hlt)⟩
      have c0 := iv_cell R1.out hx
      have c1 := iv_cell R2.out hy
      have HX := hid hx; have HY := hid hy
      clear hx hy
      go_upto_region 6 with fail
      obtain ⟨u, hu⟩ : ∃ u : After z.w, u.w = z.w := ⟨After.here z.w, rfl⟩
      rw [← hu]
      clear hu
      rcases hne : (x != y) with _ | _
      · have hxy := hid (show x = y by simpa using hne)
        refine wp_region_since (by kernel_rfl) (by kernel_rfl) ?_
        repeat (go_big_quiet_step (fail))
        refine wpQuiet_nil ?_
        intro u7
        clear hne
        go_wp2_with fail
        go_roundw
        case rel => exact ⟨j + 1, ⟨u7.w, b_then z.2 u7.2⟩, by omega, by go_num, rfl, hid fun q hq => by rcases Nat.lt_succ_iff_lt_or_eq.1 hq with h | rfl; exact hp.out q h; rw [HX.out, HY.out, hxy.out]⟩
        case measure => first | (simp [intOf]; done) | (simp [intOf]; omega)
      · have hxy := hid (show ¬ x = y by simpa using hne)
        refine wp_region_since (by kernel_rfl) (by kernel_rfl) ?_
        repeat (go_big_quiet_step (fail))
        refine wpQuiet_nil ?_
        intro u7
        go_wp2_with fail
        exact bodyPost_ret (v := .bool false) (by simp [results, Try.results54, go_sem]) rfl ⟨by rw [decide_eq_false (fun h => by have h1 := HX.out; rw [h, HY.out] at h1; exact hxy.out (by cases h1; rfl))], b_then z.2 u7.2⟩
    · have d1 : decide (j < n) = false := decide_eq_false hlt
      go_wp2_with fail
      exact bodyPost_ret (v := .bool true) (by simp [results, Try.results54, go_sem]) rfl ⟨by rw [decide_eq_true (List.ext_getElem? fun i => by
        by_cases hi : i < n
        · exact hp.out i (by omega)
        · rw [List.getElem?_eq_none (by rw [HN.out]; omega), List.getElem?_eq_none (by rw [HN2.out]; omega)])], z.2⟩
set_option maxRecDepth 100000 in
set_option maxHeartbeats 4000000 in
theorem few_any (a : Option Addr) (n c : Nat) (w : World) : Calls Try.prog 47 #[.slice a n c] w fun e w' => e = .returned (.bool (decide ((n : Int) ≤ 1100))) ∧ w = w' := by
  go_enter Try.func47, Try.ntmps47
  go_wp2_with fail
  exact bodyPost_ret (v := .bool (decide ((n : Int) ≤ 1100))) (by simp [results, Try.results47, go_sem]) rfl ⟨rfl, rfl⟩
end Go.Proofs.Ytbppajenihjfhaa
