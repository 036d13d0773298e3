/- The reference's point and Check. -/
import Derived.Test.YtbppajenihjfhaaC
namespace Go.Proofs.Ytbppajenihjfhaa
open Go.RowKit
open Go.Lib (hid)

/-- What the reference's point answers. -/
def rpt (m : List Tp) (i : Nat) : Bool := !(decide ((tp m i).k < 0) || decide (16777216 < (tp m i).k) || decide ((tp m i).n < 1) || decide (1048576 < (tp m i).n) || decide ((tp m i).d < 1) || decide (256 < (tp m i).d)) &&
  (if i = 0 then (tp m i).k == 0 else decide ((tp m (i - 1)).k < (tp m i).k) && (!(tp m (i - 1)).r || decide ((tp m i).k - (tp m (i - 1)).k ≤ 65536)))
theorem rpt_iff (m : List Tp) (i : Nat) : rpt m i = true ↔ 0 ≤ (tp m i).k ∧ ptOk (tp m i) = true ∧ (i = 0 → (tp m i).k = 0) ∧ (0 < i → stOk (tp m (i - 1)) (tp m i) = true) := by
  rw [ptOk_iff, stOk_iff, rpt]
  by_cases h0 : i = 0
  · subst h0
    simp
    omega
  · simp [h0]
    cases (tp m (i - 1)).r <;> simp <;> omega
theorem rpre {m : List Tp} {j : Nat} (h0 : 0 < j) (h : ∀ i, i < j → rpt m i = true) : Pre m j :=
  ⟨((rpt_iff m 0).1 (h 0 h0)).2.2.1 rfl, fun i hi => ⟨((rpt_iff m i).1 (h i hi)).2.1, ((rpt_iff m i).1 (h i hi)).2.2.2⟩⟩
theorem good_rpt {m : List Tp} (h : goodB m = true) (i : Nat) (hi : i < m.length) : rpt m i = true := by
  have hp := ((good_iff m).1 h).2.2.2
  exact (rpt_iff m i).2 ⟨hp.nonneg i hi, (hp.2 i hi).1, fun e => by rw [e]; exact hp.1, (hp.2 i hi).2⟩

set_option maxRecDepth 100000 in
set_option maxHeartbeats 4000000 in
theorem point_any (m : List Tp) (nn : Nat) (hnn : m.length = nn) (a : Option Addr) (c : Nat) (i : Nat) (w : World) (hn : nn ≤ 1000) (hi : i < nn) (hr : Rd w a (m.flatMap Tp.c)) (hprev : 0 < i → 0 ≤ (tp m (i - 1)).k) :
    Calls Try.prog 63 #[.slice a nn c, .int .i64 i] w fun e w' => e = .returned (.bool (rpt m i)) ∧ Below w.heap.size w w' := by
  obtain ⟨b, off, rfl, hb⟩ := hr.addr (by rw [flat_len Tp.c 4 Tp.c4, hnn]; omega)
  have RQ := hid (after_rd hr)
  obtain ⟨⟨k, n, d, r⟩, ht⟩ : ∃ t, tp m i = t := ⟨_, rfl⟩
  have c0 : w.cell? ⟨b, off + i * 4, none⟩ = some (.int .i64 k) := tp_cell RQ.out (j := i) (by omega) 0 (by decide) (by rw [ht]; rfl) rfl (After.here w)
  have c1 : w.cell? ⟨b, off + i * 4 + 1, none⟩ = some (.int .i64 n) := tp_cell RQ.out (j := i) (by omega) 1 (by decide) (by rw [ht]; rfl) (by omega) (After.here w)
  have c2 : w.cell? ⟨b, off + i * 4 + 2, none⟩ = some (.int .i64 d) := tp_cell RQ.out (j := i) (by omega) 2 (by decide) (by rw [ht]; rfl) (by omega) (After.here w)
  have c3 : w.cell? ⟨b, off + i * 4 + 3, none⟩ = some (.bool r) := tp_cell RQ.out (j := i) (by omega) 3 (by decide) (by rw [ht]; rfl) (by omega) (After.here w)
  have HT := hid ht; clear ht hr
  have hii : ((i : Nat) : Int) < (nn : Int) := by omega
  go_enter Try.func63, Try.ntmps63
  rcases h0 : decide (k < 0) with _ | _
  · skip
    rcases h1 : decide (16777216 < k) with _ | _
    · skip
      rcases h2 : decide (n < 1) with _ | _
      · skip
        rcases h3 : decide (1048576 < n) with _ | _
        · skip
          rcases h4 : decide (d < 1) with _ | _
          · skip
            rcases h5 : decide (256 < d) with _ | _
            · skip
              have h1' : k ≤ 16777216 := by simpa using h1
              have h0' : 0 ≤ k := by simpa using h0
              rcases Nat.eq_zero_or_pos i with rfl | hpos
              · simp only [Nat.zero_mul, Nat.add_zero] at c0 c1 c2 c3
                rcases g0 : (k == 0) with _ | _
                · go_wp2_with fail
                  exact bodyPost_ret (v := .bool false) (by simp [results, Try.results63, go_sem]) rfl ⟨by rw [show rpt m 0 = false by rw [rpt, HT.out]; simp [h0, h1, h2, h3, h4, h5, g0]], b_alloc (Below.refl _ _) _⟩
                · go_wp2_with fail
                  exact bodyPost_ret (v := .bool true) (by simp [results, Try.results63, go_sem]) rfl ⟨by rw [show rpt m 0 = true by rw [rpt, HT.out]; simp [h0, h1, h2, h3, h4, h5, g0]], b_alloc (Below.refl _ _) _⟩
              · obtain ⟨e, rfl⟩ : ∃ e, i = e + 1 := ⟨i - 1, by omega⟩
                obtain ⟨⟨pk, pn, pd, pr⟩, hs⟩ : ∃ t, tp m e = t := ⟨_, rfl⟩
                have hp0 : 0 ≤ pk := by have := hprev (by omega); rw [Nat.add_sub_cancel, hs] at this; exact this
                have y0 : ∀ v : After w, v.w.cell? ⟨b, off + e * 4, none⟩ = some (.int .i64 pk) := tp_cell RQ.out (j := e) (by omega) 0 (by decide) (by rw [hs]; rfl) rfl
                have y1 : ∀ v : After w, v.w.cell? ⟨b, off + e * 4 + 1, none⟩ = some (.int .i64 pn) := tp_cell RQ.out (j := e) (by omega) 1 (by decide) (by rw [hs]; rfl) (by omega)
                have y2 : ∀ v : After w, v.w.cell? ⟨b, off + e * 4 + 2, none⟩ = some (.int .i64 pd) := tp_cell RQ.out (j := e) (by omega) 2 (by decide) (by rw [hs]; rfl) (by omega)
                have y3 : ∀ v : After w, v.w.cell? ⟨b, off + e * 4 + 3, none⟩ = some (.bool pr) := tp_cell RQ.out (j := e) (by omega) 3 (by decide) (by rw [hs]; rfl) (by omega)
                have z0 := y0 (After.to (b_alloc (Below.refl w.heap.size w) (.cells #[.int .i64 k, .int .i64 n, .int .i64 d, .bool r] 53)))
                have z1 := y1 (After.to (b_alloc (Below.refl w.heap.size w) (.cells #[.int .i64 k, .int .i64 n, .int .i64 d, .bool r] 53)))
                have z2 := y2 (After.to (b_alloc (Below.refl w.heap.size w) (.cells #[.int .i64 k, .int .i64 n, .int .i64 d, .bool r] 53)))
                have z3 := y3 (After.to (b_alloc (Below.refl w.heap.size w) (.cells #[.int .i64 k, .int .i64 n, .int .i64 d, .bool r] 53)))
                unfold After.to After.w at z0 z1 z2 z3
                have HS := hid hs; clear hs y0 y1 y2 y3
                have e0 : ((e : Int) + 1 == 0) = false := beq_eq_false_iff_ne.2 (by omega)
                rcases g1 : decide (pk < k) with _ | _
                · go_wp2_with fail
                  exact bodyPost_ret (v := .bool false) (by simp [results, Try.results63, go_sem]) rfl ⟨by rw [show rpt m (e + 1) = false by rw [rpt, Nat.add_sub_cancel, HT.out, HS.out]; simp [g1]], b_alloc (b_alloc (Below.refl _ _) _) _⟩
                · cases pr
                  · go_wp2_with fail
                    exact bodyPost_ret (v := .bool true) (by simp [results, Try.results63, go_sem]) rfl ⟨by rw [show rpt m (e + 1) = true by rw [rpt, Nat.add_sub_cancel, HT.out, HS.out]; simp [h0, h1, h2, h3, h4, h5, g1]], b_alloc (b_alloc (Below.refl _ _) _) _⟩
                  · have g1' : pk < k := by simpa using g1
                    rcases g2 : decide (k - pk ≤ 65536) with _ | _
                    · go_wp2_with fail
                      exact bodyPost_ret (v := .bool false) (by simp [results, Try.results63, go_sem]) rfl ⟨by rw [show rpt m (e + 1) = false by rw [rpt, Nat.add_sub_cancel, HT.out, HS.out]; simp [g2]], b_alloc (b_alloc (Below.refl _ _) _) _⟩
                    · go_wp2_with fail
                      exact bodyPost_ret (v := .bool true) (by simp [results, Try.results63, go_sem]) rfl ⟨by rw [show rpt m (e + 1) = true by rw [rpt, Nat.add_sub_cancel, HT.out, HS.out]; simp [h0, h1, h2, h3, h4, h5, g1, g2]], b_alloc (b_alloc (Below.refl _ _) _) _⟩
            · skip
              go_wp2_with fail
              exact bodyPost_ret (v := .bool false) (by simp [results, Try.results63, go_sem]) rfl ⟨by rw [show rpt m i = false by rw [rpt, HT.out]; simp [h0, h1, h2, h3, h4, h5]], b_alloc (Below.refl _ _) _⟩
          · skip
            go_wp2_with fail
            exact bodyPost_ret (v := .bool false) (by simp [results, Try.results63, go_sem]) rfl ⟨by rw [show rpt m i = false by rw [rpt, HT.out]; simp [h0, h1, h2, h3, h4]], b_alloc (Below.refl _ _) _⟩
        · skip
          go_wp2_with fail
          exact bodyPost_ret (v := .bool false) (by simp [results, Try.results63, go_sem]) rfl ⟨by rw [show rpt m i = false by rw [rpt, HT.out]; simp [h0, h1, h2, h3]], b_alloc (Below.refl _ _) _⟩
      · skip
        go_wp2_with fail
        exact bodyPost_ret (v := .bool false) (by simp [results, Try.results63, go_sem]) rfl ⟨by rw [show rpt m i = false by rw [rpt, HT.out]; simp [h0, h1, h2]], b_alloc (Below.refl _ _) _⟩
    · skip
      go_wp2_with fail
      exact bodyPost_ret (v := .bool false) (by simp [results, Try.results63, go_sem]) rfl ⟨by rw [show rpt m i = false by rw [rpt, HT.out]; simp [h0, h1]], b_alloc (Below.refl _ _) _⟩
  · skip
    go_wp2_with fail
    exact bodyPost_ret (v := .bool false) (by simp [results, Try.results63, go_sem]) rfl ⟨by rw [show rpt m i = false by rw [rpt, HT.out]; simp [h0]], b_alloc (Below.refl _ _) _⟩

def RL (m : List Tp) (n : Nat) (w : World) (i : Value) (wr : World) : Prop := ∃ (j : Nat) (z : After w), j ≤ n ∧ i = .int .i64 j ∧ wr = z.w ∧ Hid (∀ i, i < j → rpt m i = true)
set_option maxRecDepth 100000 in
set_option maxHeartbeats 4000000 in
theorem rtcheck_any (m : List Tp) (nn : Nat) (hnn : m.length = nn) (a : Option Addr) (c : Nat) (w : World) (hn : nn ≤ 9223372036854775807) (hr : Rd w a (m.flatMap Tp.c)) :
    Calls Try.prog 40 #[.slice a nn c] w fun e w' => e = .returned (.int .i64 (chkT m)) ∧ Below w.heap.size w w' := by
  have HR := hid hr; clear hr
  have HN := hid hnn; clear hnn
  go_enter Try.func40, Try.ntmps40
  rcases Nat.eq_zero_or_pos nn with rfl | hpos
  · go_wp2_with fail
    exact bodyPost_ret (v := .int .i64 90) (by simp [results, Try.results40, go_sem]) rfl ⟨by rw [chkT_90 (fun h => by have := ((good_iff m).1 h).1; rw [HN.out] at this; omega)], Below.refl _ _⟩
  obtain ⟨q, rfl⟩ : ∃ q, nn = q + 1 := ⟨nn - 1, by omega⟩
  have e0 : decide ((q : Int) + 1 < 1) = false := decide_eq_false (by omega)
  rcases g1 : decide (64 < (q : Int) + 1) with _ | _
  case true =>
    go_wp2_with fail
    exact bodyPost_ret (v := .int .i64 90) (by simp [results, Try.results40, go_sem]) rfl ⟨by rw [chkT_90 (fun h => by have := ((good_iff m).1 h).2.1; rw [HN.out] at this; simp at g1; omega)], Below.refl _ _⟩
  obtain ⟨b, off, rfl, hb⟩ := HR.out.addr (by rw [flat_len Tp.c 4 Tp.c4, HN.out]; omega)
  have R0 := hid (after_rd HR.out)
  have cr : w.cell? ⟨b, off + q * 4 + 3, none⟩ = some (.bool (tp m q).r) := tp_cell R0.out (j := q) (by rw [HN.out]; omega) 3 (by decide) rfl (by omega) (After.here w)
  obtain ⟨rq, hrq⟩ : ∃ x, (tp m q).r = x := ⟨_, rfl⟩
  rw [hrq] at cr
  have HRQ := hid hrq; clear hrq
  cases rq
  case true =>
    go_wp2_with fail
    exact bodyPost_ret (v := .int .i64 90) (by simp [results, Try.results40, go_sem]) rfl ⟨by rw [chkT_90 (fun h => by have := ((good_iff m).1 h).2.2.1; rw [HN.out, Nat.add_sub_cancel, HRQ.out] at this; cases this)], Below.refl _ _⟩
  go_wp2_with fail
  have h64 : q < 64 := by simp at g1; omega
  clear g1 e0 cr
  go_loopw [3] (fun i wr => RL m (q + 1) w i wr) (fun i _ => q + 1 - (intOf i).toNat)
  case atStart => exact ⟨0, After.here w, by omega, rfl, rfl, hid fun i h => absurd h (by omega)⟩
  case round =>
    obtain ⟨j, z, hj, rfl, rfl, hp⟩ := hrel
    by_cases hlt' : j < q + 1
    case neg =>
      have d1 : decide ((j : Int) < (q : Int) + 1) = false := decide_eq_false (by omega)
      go_wp2_with fail
      exact bodyPost_ret (v := .int .i64 0) (by simp [results, Try.results40, go_sem]) rfl ⟨by rw [chkT_ok ((good_iff m).2 ⟨by rw [HN.out]; omega, by rw [HN.out]; omega, by rw [HN.out, Nat.add_sub_cancel]; exact HRQ.out, rpre (by rw [HN.out]; omega) (by rw [HN.out, show q + 1 = j by omega]; exact hp.out)⟩)], z.2⟩
    have d1 : decide ((j : Int) < (q : Int) + 1) = true := decide_eq_true (by omega)
    have hlt : j < m.length := by rw [HN.out]; exact hlt'
    go_wp2_with fail
    refine (point_any m (q + 1) HN.out _ c j _ (by omega) hlt' (HR.out.below z.2) (fun h => ((rpt_iff m (j - 1)).1 (hp.out (j - 1) (by omega))).1)).mono ?_
    rintro e w9 ⟨rfl, hB9⟩
    rcases hv : rpt m j with _ | _
    · have HV := hid hv; clear hv
      go_wp2_with fail
      exact bodyPost_ret (v := .int .i64 90) (by simp [results, Try.results40, go_sem]) rfl ⟨by rw [chkT_90 (fun h => by have := good_rpt h j hlt; rw [HV.out] at this; cases this)], b_then z.2 hB9⟩
    · have HV := hid hv; clear hv
      go_wp2_with fail
      go_roundw
      case rel => exact ⟨j + 1, ⟨w9, b_then z.2 hB9⟩, by omega, by go_num, rfl, hid fun i h => by rcases Nat.lt_succ_iff_lt_or_eq.1 h with h | rfl; exact hp.out i h; exact HV.out⟩
      case measure => simp [intOf]; omega
end Go.Proofs.Ytbppajenihjfhaa
