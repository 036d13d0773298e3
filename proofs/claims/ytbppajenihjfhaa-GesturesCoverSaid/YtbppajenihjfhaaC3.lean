/- curves.valid. -/
import Derived.Test.YtbppajenihjfhaaC1
import Derived.Deep.DeepCutAuto
namespace Go.Proofs.Ytbppajenihjfhaa
open Go.RowKit
open Go.Lib (hid)

/-- What a cut around a test leaves. -/
def CutB (V : World) (B : Bool) (q : Value) (wx : World) : Prop := q = .bool B ∧ ∃ y : After V, wx = y.w
theorem CutB.mk {V : World} {B : Bool} (y : After V) : CutB V B (.bool B) y.w := ⟨rfl, y, rfl⟩
def VL (most : Int) (l : List Kn) (n : Nat) (w : World) (i : Value) (wr : World) : Prop := ∃ (j : Nat) (z : After w), j ≤ n ∧ i = .int .i64 j ∧ wr = z.w ∧ Hid (PreK most l j)

set_option maxRecDepth 100000 in
set_option maxHeartbeats 4000000 in
theorem valid_any (l : List Kn) (nn : Nat) (hnn : l.length = nn) (a : Option Addr) (c : Nat) (most : Int) (w : World) (hn : nn ≤ 9223372036854775807) (hr : Rd w a (l.flatMap Kn.c)) :
    Calls Try.prog 74 #[.slice a nn c, .int .i64 most] w fun e w' => e = .returned (.bool (valB most l)) ∧ Below w.heap.size w w' := by
  have HR := hid hr; clear hr
  have HN := hid hnn; clear hnn
  go_enter Try.func74, Try.ntmps74
  go_wp2_with fail
  go_loopw [10] (fun i wr => VL most l nn w i wr) (fun i _ => nn - (intOf i).toNat)
  case atStart => exact ⟨0, After.here w, by omega, rfl, rfl, hid (fun i hi => absurd hi (by omega))⟩
  case round =>
    obtain ⟨j, z, hj, rfl, rfl, hp⟩ := hrel
    by_cases hlt' : j < nn
    case neg =>
      have d1 : decide ((j : Int) < (nn : Int)) = false := decide_eq_false (by omega)
      have d1' : decide (j < nn) = false := decide_eq_false (by omega)
      by_cases hl : nn ≤ 1024
      · have d2 : decide ((nn : Int) ≤ 1024) = true := decide_eq_true (by omega)
        go_wp2_with fail
        exact bodyPost_ret (v := .bool true) (by simp [results, Try.results74, go_sem]) rfl ⟨by rw [(valB_iff most l).2 ⟨by rw [HN.out]; exact hl, by rw [HN.out, show nn = j by omega]; exact hp.out⟩], z.2⟩
      · have d2 : decide ((nn : Int) ≤ 1024) = false := decide_eq_false (by omega)
        have hv := hid (show valB most l = false by rw [Bool.eq_false_iff]; intro h; have := len_K h; rw [HN.out] at this; omega)
        go_wp2_with fail
        exact bodyPost_ret (v := .bool false) (by simp [results, Try.results74, go_sem]) rfl ⟨by rw [hv.out], z.2⟩
    have hlt : j < l.length := by rw [HN.out]; exact hlt'
    have d1 : decide ((j : Int) < (nn : Int)) = true := decide_eq_true (by omega)
    have d1' : decide (j < nn) = true := decide_eq_true (by omega)
    obtain ⟨b, off, rfl, hb⟩ := HR.out.addr (by rw [flat_len Kn.c 5 Kn.c5]; omega)
    have RZ := hid (fun v : After z.w => HR.out.below (b_then z.2 v.2))
    obtain ⟨⟨k, v, s, wa, wb⟩, ht⟩ : ∃ t, kn l j = t := ⟨_, rfl⟩
    have c0 : z.w.cell? ⟨b, off + j * 5, none⟩ = some (.int .i64 k) := kn_cell RZ.out (j := j) hlt 0 (by decide) (by rw [ht]; rfl) rfl (After.here z.w)
    have c1 : z.w.cell? ⟨b, off + j * 5 + 1, none⟩ = some (.int .i64 v) := kn_cell RZ.out (j := j) hlt 1 (by decide) (by rw [ht]; rfl) (by omega) (After.here z.w)
    have c2 : z.w.cell? ⟨b, off + j * 5 + 2, none⟩ = some (.int .i64 s) := kn_cell RZ.out (j := j) hlt 2 (by decide) (by rw [ht]; rfl) (by omega) (After.here z.w)
    have c3 : z.w.cell? ⟨b, off + j * 5 + 3, none⟩ = some (.int .i64 wa) := kn_cell RZ.out (j := j) hlt 3 (by decide) (by rw [ht]; rfl) (by omega) (After.here z.w)
    have c4 : z.w.cell? ⟨b, off + j * 5 + 4, none⟩ = some (.int .i64 wb) := kn_cell RZ.out (j := j) hlt 4 (by decide) (by rw [ht]; rfl) (by omega) (After.here z.w)
    have HT := hid ht; clear ht
    go_upto_region 4 with (fail)
    obtain ⟨V, hV⟩ : ∃ V, V = z.w.alloc (.cells #[.int .i64 k, .int .i64 v, .int .i64 s, .int .i64 wa, .int .i64 wb] 71) := ⟨_, rfl⟩
    have hBV : Below w.heap.size w V := by rw [hV]; exact b_alloc z.2 _
    have x0 : ∀ v : After V, v.w.cell? ⟨z.w.heap.size, 0, none⟩ = some (.int .i64 k) := new_cell hV rfl rfl
    have x1 : ∀ v' : After V, v'.w.cell? ⟨z.w.heap.size, 1, none⟩ = some (.int .i64 v) := new_cell hV rfl rfl
    have x2 : ∀ v : After V, v.w.cell? ⟨z.w.heap.size, 2, none⟩ = some (.int .i64 s) := new_cell hV rfl rfl
    have x3 : ∀ v : After V, v.w.cell? ⟨z.w.heap.size, 3, none⟩ = some (.int .i64 wa) := new_cell hV rfl rfl
    have x4 : ∀ v : After V, v.w.cell? ⟨z.w.heap.size, 4, none⟩ = some (.int .i64 wb) := new_cell hV rfl rfl
    rw [← hV]
    obtain ⟨u, hu⟩ : ∃ u : After V, u.w = V := ⟨After.here V, rfl⟩
    rw [← hu]
    clear hu hV c0 c1 c2 c3 c4
    obtain ⟨B0, hB0⟩ : ∃ B : Bool, (wa == 0 && wb == 0) = B := ⟨_, rfl⟩
    have HB0 := hid hB0; clear hB0
    go_cut [7] (fun q wx => CutB V B0 q wx)
    case first =>
      rcases ha : (wa == 0) with _ | _
      · obtain rfl : B0 = false := by rw [← HB0.out, ha]; rfl
        go_wp2_with fail
        go_meet
        case rel => first | exact CutB.mk u | ((repeat apply Exists.intro); exact ⟨CutB.mk u, rfl⟩)
      · rcases hb : (wb == 0) with _ | _
        · obtain rfl : B0 = false := by rw [← HB0.out, ha, hb]; rfl
          go_wp2_with fail
          go_meet
          case rel => first | exact CutB.mk u | ((repeat apply Exists.intro); exact ⟨CutB.mk u, rfl⟩)
        · obtain rfl : B0 = true := by rw [← HB0.out, ha, hb]; rfl
          go_wp2_with fail
          go_meet
          case rel => first | exact CutB.mk u | ((repeat apply Exists.intro); exact ⟨CutB.mk u, rfl⟩)
    case rest =>
    obtain ⟨rfl, u2, rfl⟩ := hcut
    go_upto_if 25 with (fail)
    obtain ⟨B, hB⟩ : ∃ B : Bool, wtOk ⟨k, v, s, wa, wb⟩ = B := ⟨_, rfl⟩
    have HB := hid hB; clear hB
    go_cut [7] (fun q wx => CutB V B q wx)
    case first =>
      rcases hs : (s == 3) with _ | _
      · have hb : B = B0 := by rw [← HB.out, ← HB0.out]; (have hs3 : ¬ s = 3 := by simpa using hs); simp [wtOk, hs3]
        subst hb
        go_wp2_with fail
        go_meet
        case rel => first | exact CutB.mk u2 | ((repeat apply Exists.intro); exact ⟨CutB.mk u2, rfl⟩)
      · skip
        rcases w1 : decide (1 ≤ wa) with _ | _
        · have hb : B = false := by rw [← HB.out]; (have hs3 : s = 3 := by simpa using hs); simp [wtOk, hs3, w1]
          subst hb
          go_wp2_with fail
          go_meet
          case rel => first | exact CutB.mk u2 | ((repeat apply Exists.intro); exact ⟨CutB.mk u2, rfl⟩)
        · skip
          rcases w2 : decide (wa ≤ 16) with _ | _
          · have hb : B = false := by rw [← HB.out]; (have hs3 : s = 3 := by simpa using hs); simp [wtOk, hs3, w1, w2]
            subst hb
            go_wp2_with fail
            go_meet
            case rel => first | exact CutB.mk u2 | ((repeat apply Exists.intro); exact ⟨CutB.mk u2, rfl⟩)
          · skip
            rcases w3 : decide (1 ≤ wb) with _ | _
            · have hb : B = false := by rw [← HB.out]; (have hs3 : s = 3 := by simpa using hs); simp [wtOk, hs3, w1, w2, w3]
              subst hb
              go_wp2_with fail
              go_meet
              case rel => first | exact CutB.mk u2 | ((repeat apply Exists.intro); exact ⟨CutB.mk u2, rfl⟩)
            · skip
              rcases w4 : decide (wb ≤ 16) with _ | _
              · have hb : B = false := by rw [← HB.out]; (have hs3 : s = 3 := by simpa using hs); simp [wtOk, hs3, w1, w2, w3, w4]
                subst hb
                go_wp2_with fail
                go_meet
                case rel => first | exact CutB.mk u2 | ((repeat apply Exists.intro); exact ⟨CutB.mk u2, rfl⟩)
              · skip
                have hb : B = true := by rw [← HB.out]; (have hs3 : s = 3 := by simpa using hs); simp [wtOk, hs3, w1, w2, w3, w4]
                subst hb
                go_wp2_with fail
                go_meet
                case rel => first | exact CutB.mk u2 | ((repeat apply Exists.intro); exact ⟨CutB.mk u2, rfl⟩)
    case rest =>
    obtain ⟨rfl, u3, rfl⟩ := hcut
    clear u u2 HB0
    go_upto_region 7 with (fail)
    rcases h0 : decide (k < 0) with _ | _
    · skip
      rcases h1 : decide (most < k) with _ | _
      · skip
        rcases h2 : decide (v < -2147483648) with _ | _
        · skip
          rcases h3 : decide (2147483647 < v) with _ | _
          · skip
            rcases h4 : decide (s < 1) with _ | _
            · skip
              rcases h5 : decide (3 < s) with _ | _
              · skip
                cases B
                · have HW := hid HB.out
                  refine wp_region_since (by kernel_rfl) (by kernel_rfl) ?_
                  repeat (go_big_quiet_step (fail))
                  refine wpQuiet_nil ?_
                  intro u9
                  go_wp2_with fail
                  exact bodyPost_ret (v := .bool false) (by simp [results, Try.results74, go_sem]) rfl ⟨by rw [not_val hlt (by rw [HT.out]; simp [knOk, h0, h1, h2, h3, h4, h5, HW.out])], b_then hBV u9.2⟩
                · have HP := hid (show knOk most (kn l j) = true by rw [HT.out]; simp [knOk, h0, h1, h2, h3, h4, h5, HB.out])
                  rcases Nat.eq_zero_or_pos j with rfl | hpos
                  · refine wp_region_since (by kernel_rfl) (by kernel_rfl) ?_
                    repeat (go_big_quiet_step (fail))
                    refine wpQuiet_nil ?_
                    intro u9
                    go_wp2_with fail
                    go_roundw
                    case rel => exact ⟨1, ⟨u9.w, b_then hBV u9.2⟩, by omega, by go_num, rfl, hid (hp.out.next HP.out (fun h => absurd h (by omega)))⟩
                    case measure => first | (simp [intOf]; done) | (simp [intOf]; omega)
                  · obtain ⟨i, rfl⟩ : ∃ i, j = i + 1 := ⟨j - 1, by omega⟩
                    have RQ := hid (fun v : After V => HR.out.below (b_then hBV v.2))
                    obtain ⟨⟨pk, pv, ps, pa, pb⟩, hp⟩ : ∃ t, kn l i = t := ⟨_, rfl⟩
                    have p0 : ∀ v : After V, v.w.cell? ⟨b, off + i * 5, none⟩ = some (.int .i64 pk) := kn_cell RQ.out (j := i) (by omega) 0 (by decide) (by rw [hp]; rfl) rfl
                    have Hp := hid hp; clear hp
                    rcases g1 : decide (k ≤ pk) with _ | _
                    · have gg := hid g1; clear g1
                      have g1 := gg.out
                      refine wp_region_since (by kernel_rfl) (by kernel_rfl) ?_
                      repeat (go_big_quiet_step (fail))
                      refine wpQuiet_nil ?_
                      intro u9
                      go_wp2_with fail
                      clear g1
                      go_roundw
                      case rel => exact ⟨i + 1 + 1, ⟨u9.w, b_then hBV u9.2⟩, by omega, by go_num, rfl, hid (hp.out.next HP.out (fun _ => by rw [Nat.add_sub_cancel, Hp.out, HT.out]; simpa using gg.out))⟩
                      case measure => first | (simp [intOf]; done) | (simp [intOf]; omega)
                    · have gg := hid g1; clear g1
                      have g1 := gg.out
                      refine wp_region_since (by kernel_rfl) (by kernel_rfl) ?_
                      repeat (go_big_quiet_step (fail))
                      refine wpQuiet_nil ?_
                      intro u9
                      go_wp2_with fail
                      exact bodyPost_ret (v := .bool false) (by simp [results, Try.results74, go_sem]) rfl ⟨by rw [not_ord hlt (by omega) (by rw [Nat.add_sub_cancel, Hp.out, HT.out]; simpa using gg.out)], b_then hBV u9.2⟩
              · skip
                refine wp_region_since (by kernel_rfl) (by kernel_rfl) ?_
                repeat (go_big_quiet_step (fail))
                refine wpQuiet_nil ?_
                intro u9
                go_wp2_with fail
                exact bodyPost_ret (v := .bool false) (by simp [results, Try.results74, go_sem]) rfl ⟨by rw [not_val hlt (by rw [HT.out]; simp [knOk, h0, h1, h2, h3, h4, h5])], b_then hBV u9.2⟩
            · skip
              refine wp_region_since (by kernel_rfl) (by kernel_rfl) ?_
              repeat (go_big_quiet_step (fail))
              refine wpQuiet_nil ?_
              intro u9
              go_wp2_with fail
              exact bodyPost_ret (v := .bool false) (by simp [results, Try.results74, go_sem]) rfl ⟨by rw [not_val hlt (by rw [HT.out]; simp [knOk, h0, h1, h2, h3, h4])], b_then hBV u9.2⟩
          · skip
            refine wp_region_since (by kernel_rfl) (by kernel_rfl) ?_
            repeat (go_big_quiet_step (fail))
            refine wpQuiet_nil ?_
            intro u9
            go_wp2_with fail
            exact bodyPost_ret (v := .bool false) (by simp [results, Try.results74, go_sem]) rfl ⟨by rw [not_val hlt (by rw [HT.out]; simp [knOk, h0, h1, h2, h3])], b_then hBV u9.2⟩
        · skip
          refine wp_region_since (by kernel_rfl) (by kernel_rfl) ?_
          repeat (go_big_quiet_step (fail))
          refine wpQuiet_nil ?_
          intro u9
          go_wp2_with fail
          exact bodyPost_ret (v := .bool false) (by simp [results, Try.results74, go_sem]) rfl ⟨by rw [not_val hlt (by rw [HT.out]; simp [knOk, h0, h1, h2])], b_then hBV u9.2⟩
      · skip
        refine wp_region_since (by kernel_rfl) (by kernel_rfl) ?_
        repeat (go_big_quiet_step (fail))
        refine wpQuiet_nil ?_
        intro u9
        go_wp2_with fail
        exact bodyPost_ret (v := .bool false) (by simp [results, Try.results74, go_sem]) rfl ⟨by rw [not_val hlt (by rw [HT.out]; simp [knOk, h0, h1])], b_then hBV u9.2⟩
    · skip
      refine wp_region_since (by kernel_rfl) (by kernel_rfl) ?_
      repeat (go_big_quiet_step (fail))
      refine wpQuiet_nil ?_
      intro u9
      go_wp2_with fail
      exact bodyPost_ret (v := .bool false) (by simp [results, Try.results74, go_sem]) rfl ⟨by rw [not_val hlt (by rw [HT.out]; simp [knOk, h0])], b_then hBV u9.2⟩
end Go.Proofs.Ytbppajenihjfhaa
