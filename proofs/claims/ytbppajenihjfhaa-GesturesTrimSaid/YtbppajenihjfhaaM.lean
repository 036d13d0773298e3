/- The reference's Same. -/
import Derived.Test.YtbppajenihjfhaaL
import Derived.Laws.StructEq
import Derived.IntWalk
namespace Go.Proofs.Ytbppajenihjfhaa
open Go.RowKit
open Go.Lib (hid)

theorem mix53 : Try.prog.eqGuardType Try.prog.depth 53 = false := by kernel_rfl
theorem fld53 : Try.prog.underlying 53 = some (.struct (Try.prog.fieldsOf 53)) := by kernel_rfl
theorem sto53 : Try.prog.stoodInHeld 53 = false := by kernel_rfl
theorem lst53 : (Try.prog.fieldsOf 53).toList = [{ name := "Tick", type := 3, offset := 0, embedded := false, tag := "", pkgPath := "", byteOffset := 0 },
        { name := "N", type := 3, offset := 1, embedded := false, tag := "", pkgPath := "", byteOffset := 8 },
        { name := "D", type := 3, offset := 2, embedded := false, tag := "", pkgPath := "", byteOffset := 16 },
        { name := "Ramp", type := 4, offset := 3, embedded := false, tag := "", pkgPath := "", byteOffset := 24 }] := by kernel_rfl
theorem eq53 (a b c a' b' c' : Int) (r d' : Bool) (w : World) : (Op.equalIn 10000 53 (.agg #[.int .i64 a, .int .i64 b, .int .i64 c, .bool r]) (.agg #[.int .i64 a', .int .i64 b', .int .i64 c', .bool d'])).run Try.prog w = .ok (decide (a = a' ∧ b = b' ∧ c = c' ∧ r = d')) w := by
  show (Op.equalIn (9998 + 1 + 1) _ _ _).run _ _ = _
  rw [run_equalIn_agg w (9998 + 1) 53 _ _ fld53 sto53, lst53]
  simp [Op.eqFields, part, isAgg, run_underlying Try.underlying3, run_underlying Try.underlying4, go_sem]
  by_cases h1 : a = a' <;> by_cases h2 : b = b' <;> by_cases h3 : c = c' <;> by_cases h4 : r = d' <;> simp [h1, h2, h3, h4]

theorem tp_ext {m m2 : List Tp} (hl : m.length = m2.length) (h : ∀ i, i < m.length → tp m i = tp m2 i) : m = m2 :=
  List.ext_getElem hl fun i h1 h2 => by rw [tp_eq h1, tp_eq h2]; exact h i h1
theorem tp_eta (t u : Tp) : (t.k = u.k ∧ t.n = u.n ∧ t.d = u.d ∧ t.r = u.r) ↔ t = u := by
  constructor
  · rintro ⟨h1, h2, h3, h4⟩
    cases t; cases u
    simp_all
  · rintro rfl
    exact ⟨rfl, rfl, rfl, rfl⟩
def SL (m m2 : List Tp) (n : Nat) (w : World) (i : Value) (wr : World) : Prop := ∃ (j : Nat) (z : After w), j ≤ n ∧ i = .int .i64 j ∧ wr = z.w ∧ Hid (∀ x, x < j → tp m x = tp m2 x)

set_option maxRecDepth 100000 in
set_option maxHeartbeats 4000000 in
theorem same_any (m m2 : List Tp) (n n2 : Nat) (hn : m.length = n) (hn2 : m2.length = n2) (a a2 : Option Addr) (c c2 : Nat) (hb : n ≤ 9223372036854775807) (w : World) (hr : Rd w a (m.flatMap Tp.c)) (hr2 : Rd w a2 (m2.flatMap Tp.c)) :
    Calls Try.prog 45 #[.slice a n c, .slice a2 n2 c2] w fun e w' => e = .returned (.bool (decide (m = m2))) ∧ Below w.heap.size w w' := by
  have HN := hid hn; have HN2 := hid hn2; have HR := hid hr; have HR2 := hid hr2
  clear hn hn2 hr hr2
  have q0 := mix53
  have q1 := eq53
  go_enter Try.func45, Try.ntmps45
  by_cases hl : n = n2
  case neg =>
    have hne : ((n : Int) != (n2 : Int)) = true := by simp; omega
    have hne2 : (n == n2) = false := beq_eq_false_iff_ne.2 hl
    go_wp2_with fail
    exact bodyPost_ret (v := .bool false) (by simp [results, Try.results45, go_sem]) rfl ⟨by rw [decide_eq_false (fun h => hl (by rw [← HN.out, ← HN2.out, h]))], Below.refl _ _⟩
  subst hl
  go_wp2_with fail
  go_loopw [5] (fun i wr => SL m m2 n w i wr) (fun i _ => n - (intOf i).toNat)
  case atStart => exact ⟨0, After.here w, by omega, rfl, rfl, hid fun x h => absurd h (by omega)⟩
  case round =>
    obtain ⟨j, z, hj, rfl, rfl, hp⟩ := hrel
    by_cases hlt : j < n
    · have d1 : decide (j < n) = true := decide_eq_true hlt
      have R1 := hid (fun v : After z.w => HR.out.below (b_then z.2 v.2))
      have R2 := hid (fun v : After z.w => HR2.out.below (b_then z.2 v.2))
      obtain ⟨b, off, rfl, hb1⟩ := HR.out.addr (by rw [flat_len Tp.c 4 Tp.c4, HN.out]; omega)
      obtain ⟨b2, off2, rfl, hb2⟩ := HR2.out.addr (by rw [flat_len Tp.c 4 Tp.c4, HN2.out]; omega)
      obtain ⟨t, ht⟩ : ∃ t, tp m j = t := ⟨_, rfl⟩
      obtain ⟨s, hs⟩ : ∃ t, tp m2 j = t := ⟨_, rfl⟩
      have c0 : ∀ v : After z.w, v.w.cell? ⟨b, off + j * 4, none⟩ = some (.int .i64 t.k) := tp_cell R1.out (j := j) (by rw [HN.out]; exact hlt) 0 (by decide) (by rw [ht]; rfl) rfl
      have c1 : ∀ v : After z.w, v.w.cell? ⟨b, off + j * 4 + 1, none⟩ = some (.int .i64 t.n) := tp_cell R1.out (j := j) (by rw [HN.out]; exact hlt) 1 (by decide) (by rw [ht]; rfl) (by omega)
      have c2 : ∀ v : After z.w, v.w.cell? ⟨b, off + j * 4 + 2, none⟩ = some (.int .i64 t.d) := tp_cell R1.out (j := j) (by rw [HN.out]; exact hlt) 2 (by decide) (by rw [ht]; rfl) (by omega)
      have c3 : ∀ v : After z.w, v.w.cell? ⟨b, off + j * 4 + 3, none⟩ = some (.bool t.r) := tp_cell R1.out (j := j) (by rw [HN.out]; exact hlt) 3 (by decide) (by rw [ht]; rfl) (by omega)
      have y0 : ∀ v : After z.w, v.w.cell? ⟨b2, off2 + j * 4, none⟩ = some (.int .i64 s.k) := tp_cell R2.out (j := j) (by rw [HN2.out]; exact hlt) 0 (by decide) (by rw [hs]; rfl) rfl
      have y1 : ∀ v : After z.w, v.w.cell? ⟨b2, off2 + j * 4 + 1, none⟩ = some (.int .i64 s.n) := tp_cell R2.out (j := j) (by rw [HN2.out]; exact hlt) 1 (by decide) (by rw [hs]; rfl) (by omega)
      have y2 : ∀ v : After z.w, v.w.cell? ⟨b2, off2 + j * 4 + 2, none⟩ = some (.int .i64 s.d) := tp_cell R2.out (j := j) (by rw [HN2.out]; exact hlt) 2 (by decide) (by rw [hs]; rfl) (by omega)
      have y3 : ∀ v : After z.w, v.w.cell? ⟨b2, off2 + j * 4 + 3, none⟩ = some (.bool s.r) := tp_cell R2.out (j := j) (by rw [HN2.out]; exact hlt) 3 (by decide) (by rw [hs]; rfl) (by omega)
      have HT := hid ht; have HS := hid hs
      clear ht hs
      go_upto_region 6 with fail
      obtain ⟨u, hu⟩ : ∃ u : After z.w, u.w = z.w := ⟨After.here z.w, rfl⟩
      rw [← hu]
      clear hu
      refine wp_region_since (by kernel_rfl) (by kernel_rfl) ?_
      repeat (go_big_quiet_step (fail))
      refine wpQuiet_nil ?_
      intro u7
      obtain ⟨B, hB⟩ : ∃ B, (!decide (t.k = s.k) || (!decide (t.n = s.n) || (!decide (t.d = s.d) || !decide (t.r = s.r)))) = B := ⟨_, rfl⟩
      rw [hB]
      have hts : B = false ↔ t = s := by
        rw [← hB, ← tp_eta]
        simp
      have HTS := hid hts
      clear hB hts
      cases B
      · go_wp2_with fail
        go_roundw
        case rel => exact ⟨j + 1, ⟨u7.w, b_then z.2 u7.2⟩, by omega, by go_num, rfl, hid fun x hx => by rcases Nat.lt_succ_iff_lt_or_eq.1 hx with h | rfl; exact hp.out x h; rw [HT.out, HS.out]; exact HTS.out.1 rfl⟩
        case measure => simp [intOf]; omega
      · go_wp2_with fail
        exact bodyPost_ret (v := .bool false) (by simp [results, Try.results45, go_sem]) rfl ⟨by rw [decide_eq_false (fun h => by have := HTS.out.2 (by rw [← HT.out, ← HS.out, h]); cases this)], b_then z.2 u7.2⟩
    · have d1 : decide (j < n) = false := decide_eq_false hlt
      go_wp2_with fail
      exact bodyPost_ret (v := .bool true) (by simp [results, Try.results45, go_sem]) rfl ⟨by rw [decide_eq_true (tp_ext (by rw [HN.out, HN2.out]) (fun x hx => hp.out x (by rw [HN.out] at hx; omega)))], z.2⟩
end Go.Proofs.Ytbppajenihjfhaa
