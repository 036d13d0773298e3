/- slices.IndexFunc, Clone; the closures of Insert. -/
import Derived.Test.YtbppajenihjfhaaM
import Derived.IntWalk
import Derived.WalkSpells
namespace Go.Proofs.Ytbppajenihjfhaa
open Go.RowKit
open Go.Lib (hid)


theorem ins1_any (t u : Tp) (b : Nat) (w : World) (h0 : w.cell? ⟨b, 0, none⟩ = some (.int .i64 u.k)) : Calls Try.prog 67 #[.agg #[.int .i64 t.k, .int .i64 t.n, .int .i64 t.d, .bool t.r], .pointer (some ⟨b, 0, none⟩)] w fun e w' => e = .returned (.bool (t.k == u.k)) ∧ Below w.heap.size w w' := by
  have hb := cell_lt h0
  go_enter Try.func67, Try.ntmps67
  go_wp2_with fail
  exact bodyPost_ret (v := .bool (t.k == u.k)) (by simp [results, Try.results67, go_sem]) rfl ⟨rfl, b_alloc (Below.refl _ _) _⟩

theorem ins2_any (t u : Tp) (b : Nat) (w : World) (h0 : w.cell? ⟨b, 0, none⟩ = some (.int .i64 u.k)) : Calls Try.prog 69 #[.agg #[.int .i64 t.k, .int .i64 t.n, .int .i64 t.d, .bool t.r], .pointer (some ⟨b, 0, none⟩)] w fun e w' => e = .returned (.bool (decide (u.k < t.k))) ∧ Below w.heap.size w w' := by
  have hb := cell_lt h0
  go_enter Try.func69, Try.ntmps69
  go_wp2_with fail
  exact bodyPost_ret (v := .bool (decide (u.k < t.k))) (by simp [results, Try.results69, go_sem]) rfl ⟨rfl, b_alloc (Below.refl _ _) _⟩

def XL (P : Nat → Bool) (n : Nat) (w : World) (i : Value) (wr : World) : Prop := ∃ (j : Nat) (z : After w), j ≤ n ∧ i = .int .i64 j ∧ wr = z.w ∧ Hid (∀ x, x < j → P x = false)
/-- What IndexFunc answers. -/
def FirstOf (P : Nat → Bool) (n : Nat) (e : Ending) : Prop := (∃ j, j < n ∧ e = .returned (.int .i64 (j : Nat)) ∧ P j = true ∧ ∀ x, x < j → P x = false) ∨ (e = .returned (.int .i64 (-1)) ∧ ∀ x, x < n → P x = false)

set_option maxRecDepth 100000 in
set_option maxHeartbeats 4000000 in
theorem indexFunc_any (m : List Tp) (n : Nat) (hn : m.length = n) (a : Option Addr) (c : Nat) (F : Nat) (c1 : Value) (P : Nat → Bool) (hb : n ≤ 9223372036854775807) (w : World) (hr : Rd w a (m.flatMap Tp.c))
    (hf : ∀ i, i < n → ∀ v : After w, Calls Try.prog F #[.agg #[.int .i64 (tp m i).k, .int .i64 (tp m i).n, .int .i64 (tp m i).d, .bool (tp m i).r], c1] v.w fun e w' => e = .returned (.bool (P i)) ∧ Below v.w.heap.size v.w w')
    (ef : ∀ args w, (callFunc F args).run Try.prog w = .ok (.enter F args) w) :
    Calls Try.prog 66 #[.slice a n c, .func (.func F) #[] #[c1]] w fun e w' => FirstOf P n e ∧ Below w.heap.size w w' := by
  have HN := hid hn; have HR := hid hr; have HF := hid hf
  clear hn hr hf
  go_enter Try.func66, Try.ntmps66
  go_wp2_with fail
  go_loopw [8] (fun i wr => XL P n w i wr) (fun i _ => n - (intOf i).toNat)
  case atStart => exact ⟨0, After.here w, by omega, rfl, rfl, hid fun x h => absurd h (by omega)⟩
  case round =>
    obtain ⟨j, z, hj, rfl, rfl, hp⟩ := hrel
    by_cases hlt : j < n
    · have d1 : decide (j < n) = true := decide_eq_true hlt
      have R1 := hid (fun v : After z.w => HR.out.below (b_then z.2 v.2))
      obtain ⟨b, off, rfl, hb1⟩ := HR.out.addr (by rw [flat_len Tp.c 4 Tp.c4, HN.out]; omega)
      have HC := hid (HF.out j hlt z); clear HF
      obtain ⟨t, ht⟩ : ∃ t, tp m j = t := ⟨_, rfl⟩
      rw [ht] at HC
      have c0 : z.w.cell? ⟨b, off + j * 4, none⟩ = some (.int .i64 t.k) := tp_cell R1.out (j := j) (by rw [HN.out]; exact hlt) 0 (by decide) (by rw [ht]; rfl) rfl (After.here z.w)
      have c1 : z.w.cell? ⟨b, off + j * 4 + 1, none⟩ = some (.int .i64 t.n) := tp_cell R1.out (j := j) (by rw [HN.out]; exact hlt) 1 (by decide) (by rw [ht]; rfl) (by omega) (After.here z.w)
      have c2 : z.w.cell? ⟨b, off + j * 4 + 2, none⟩ = some (.int .i64 t.d) := tp_cell R1.out (j := j) (by rw [HN.out]; exact hlt) 2 (by decide) (by rw [ht]; rfl) (by omega) (After.here z.w)
      have c3 : z.w.cell? ⟨b, off + j * 4 + 3, none⟩ = some (.bool t.r) := tp_cell R1.out (j := j) (by rw [HN.out]; exact hlt) 3 (by decide) (by rw [ht]; rfl) (by omega) (After.here z.w)
      clear ht
      go_wp2_with fail
      refine HC.out.mono ?_
      rintro e w9 ⟨rfl, hB9⟩
      rcases hP : P j with _ | _
      · have HP := hid hP; clear hP
        go_wp2_with fail
        go_roundw
        case rel => exact ⟨j + 1, ⟨w9, b_then z.2 hB9⟩, by omega, by go_num, rfl, hid fun x hx => by rcases Nat.lt_succ_iff_lt_or_eq.1 hx with h | rfl; exact hp.out x h; exact HP.out⟩
        case measure => simp [intOf]; omega
      · have HP := hid hP; clear hP
        go_wp2_with fail
        exact bodyPost_ret (v := .int .i64 (j : Int)) (by simp [results, Try.results66, go_sem]) rfl ⟨.inl ⟨j, hlt, rfl, HP.out, hp.out⟩, b_then z.2 hB9⟩
    · have d1 : decide (j < n) = false := decide_eq_false hlt
      obtain rfl : j = n := by omega
      go_wp2_with fail
      exact bodyPost_ret (v := .int .i64 (-1)) (by simp [results, Try.results66, go_sem]) rfl ⟨.inr ⟨rfl, hp.out⟩, z.2⟩

theorem und48 : Try.prog.underlying 48 = some (.slice 53) := by kernel_rfl
theorem info53 : (Try.prog.info? 53).map (fun i => (i.zero, i.size, i.bytes)) = some (some (.agg #[.int .i64 0, .int .i64 0, .int .i64 0, .bool false]), 4, 32) := by kernel_rfl
set_option maxRecDepth 100000 in
set_option maxHeartbeats 4000000 in
theorem clone_any (m : List Tp) (n : Nat) (hn : m.length = n) (a : Option Addr) (c : Nat) (hf : a = none → n = 0 ∧ c = 0) (hb : n * 32 ≤ 140737488351232) (w : World) (hr : Rd w a (m.flatMap Tp.c)) :
    Calls Try.prog 68 #[.slice a n c] w fun e w' => (∃ v, e = .returned v ∧ w'.ownsRow w.heap.size 53 4 v n (m.flatMap Tp.c)) ∧ Below w.heap.size w w' := by
  have HN := hid hn; have HR := hid hr
  clear hn hr
  obtain ⟨i0, hi, hz0, hz1, hz2⟩ := info_parts info53
  have q1 := @Lib.run_eql_slice_nil
  cases a with
  | none =>
    obtain ⟨rfl, rfl⟩ := hf rfl
    go_enter Try.func68, Try.ntmps68
    go_wp2_with fail
    refine bodyPost_ret (v := .slice none 0 0) (by simp [results, Try.results68, go_sem]) rfl ⟨⟨_, rfl, ?_⟩, Below.refl _ _⟩
    rw [List.eq_nil_of_length_eq_zero HN.out]
    exact World.ownsRow_nil _ _ _ _
  | some ad =>
    go_enter Try.func68, Try.ntmps68
    go_wp2_with (at_builtin; refine wpList_append_rd _ rfl (.tmp 5) (.tmp 6) 48 rfl w.heap.size 53 i0 (.agg #[.int .i64 0, .int .i64 0, .int .i64 0, .bool false]) 4 32 und48 hi hz0 hz1 hz2 rfl (by decide) _ _ _ rfl (World.ownsRow_made w #[] 0 (Nat.le_refl _) (by unfold maxLen; omega) (by simp)) (some ad) n c (m.flatMap Tp.c) rfl (by rw [flat_len Tp.c 4 Tp.c4, HN.out]) (HR.out.alloc _) (Tp.ones _) (by unfold maxLen; omega) (by omega) (by simp) ?_; intro v' w1 hown' hgrow)
    exact bodyPost_ret (v := v') (by simp [results, Try.results68, go_sem]) rfl ⟨⟨v', rfl, by simpa using hown'⟩, (own_below (World.ownsRow_made w #[] 0 (base := w.heap.size) (size := 4) (Nat.le_refl _) (by unfold maxLen; omega) (by simp)) hgrow (by simp) |> (((Below.refl w.heap.size w).alloc (Nat.le_refl _) _).trans ·))⟩
end Go.Proofs.Ytbppajenihjfhaa
