/- The reference's Check. -/
import Derived.Test.YtmikhkmdcpgkfaaH
import Derived.Test.YtmikhkmdcpgkfaaU
namespace Go.Proofs.Ytmikhkmdcpgkfaa
open Go.RowKit
open Go.Lib (hid)

theorem lk_site (a b : Int) : lkOk a b = (siteOk a && siteOk b && decide (a < b)) := by
  unfold lkOk siteOk
  rw [Bool.eq_iff_iff]
  simp
  omega
theorem ahead_pair (x y : Int × Int) : ahead (lkv x) (lkv y) = decide (x.1 < y.1 ∨ (x.1 = y.1 ∧ x.2 < y.2)) := rfl

set_option maxRecDepth 100000 in
set_option maxHeartbeats 4000000 in
theorem rCheck_any (ps : List Pk) (ls : List (Int × Int)) (qa aa : Option Addr) (qc ac : Nat) (w : World) (hp : ps.length ≤ 1000) (hl : ls.length ≤ 1000) (hq : Rd w qa (ps.flatMap Pk.c)) (ha : Rd w aa (ls.flatMap lkc)) :
    Calls Try.prog 14 #[netV ps ls qa aa qc ac] w fun e w' => e = .returned (.int .i64 (chk ps ls)) ∧ Below w.heap.size w w' := by
  have HQ := hid hq; clear hq
  have HA := hid ha; clear ha
  unfold netV
  go_enter Try.func14, Try.ntmps14
  go_wp2_with fail
  obtain ⟨V, hV⟩ : ∃ V, V = w.alloc (.cells #[.slice qa ps.length qc, .slice aa ls.length ac] 25) := ⟨_, rfl⟩
  rw [← hV]
  have hwV : Below w.heap.size w V := by rw [hV]; exact b_alloc (Below.refl _ _) _
  have W0 := hid (after_below hwV)
  have RQ := hid (after_rd (HQ.out.below hwV))
  have RA := hid (after_rd (HA.out.below hwV))
  have c0 : ∀ v : After V, v.w.cell? ⟨w.heap.size, 0, none⟩ = some (.slice qa ps.length qc) := new_cell hV rfl rfl
  have c1 : ∀ v : After V, v.w.cell? ⟨w.heap.size, 1, none⟩ = some (.slice aa ls.length ac) := new_cell hV rfl rfl
  have z0 : ∀ v : After V, w.heap.size < v.w.heap.size := after_size (by rw [hV]; simp)
  have HV := hid hV
  clear hV hwV
  go_loopw [3] (fun i wr => ∃ (j : Nat) (u : After V), j ≤ ps.length ∧ i = .int .i64 j ∧ wr = u.w ∧ Hid (∀ i (h : i < ps.length), i < j → pkOk ps[i] = true)) (fun i _ => ps.length - (intOf i).toNat)
  case atStart => exact ⟨0, After.here V, by omega, rfl, rfl, hid fun i _ h => absurd h (by omega)⟩
  case round =>
    obtain ⟨j, u, hj, rfl, rfl, hX⟩ := hrel
    by_cases hlt : j < ps.length
    · obtain ⟨b, off, rfl, hb⟩ := (RQ.out u).addr (by rw [flat_len Pk.c 3 Pk.c3]; omega)
      have k0 : ∀ v : After V, v.w.cell? ⟨b, off + j * 3, none⟩ = some (.int .i64 ps[j].fr) := row_cell Pk.c3 RQ.out hlt 0 (by decide) rfl rfl
      have k1 : ∀ v : After V, v.w.cell? ⟨b, off + j * 3 + 1, none⟩ = some (.int .i64 ps[j].to) := row_cell Pk.c3 RQ.out hlt 1 (by decide) rfl rfl
      have k2 : ∀ v : After V, v.w.cell? ⟨b, off + j * 3 + 2, none⟩ = some (.slice ps[j].da ps[j].dn ps[j].dc) := row_cell Pk.c3 RQ.out hlt 2 (by decide) rfl rfl
      go_wp2_with fail
      refine (met (rpacket_any ps[j] _)).mono ?_
      rintro e _ ⟨rfl, u2, rfl⟩
      rcases hx : pkOk ps[j] with _ | _
      · go_wp2_with fail
        exact bodyPost_ret (v := .int .i64 60) (by simp [results, Try.results14, go_sem]) rfl ⟨by rw [chk_packets (all_no hlt hx)], W0.out _⟩
      · go_wp2_with fail
        go_roundw
        case rel => exact ⟨j + 1, u2, by omega, by go_num, rfl, ext_ok hX (fun _ => hx)⟩
        case measure => simp [intOf]; omega
    · have Ho := hid (all_yes (fun i h => hX.out i h (by omega)))
      go_wp2_with fail
      obtain ⟨X, hXw⟩ : ∃ X, X = u.w := ⟨_, rfl⟩
      rw [← hXw]
      have hVX : Below V.heap.size V X := by rw [hXw]; exact u.w_below
      have c0 := upc hVX c0
      have c1 := upc hVX c1
      have z0 := upz hVX z0
      have RA := hid (upr hVX RA.out)
      have W0 := hid (upb hVX W0.out)
      clear hXw
      go_loopw [4] (fun i wr => ∃ (j : Nat) (u : After X), j ≤ ls.length ∧ i = .int .i64 j ∧ wr = u.w ∧ Hid (∀ i (h : i < ls.length), i < j → lkOk ls[i].1 ls[i].2 = true ∧ (0 < i → ahead (lkv (ls[i - 1]'(by omega))) (lkv ls[i]) = true))) (fun i _ => ls.length - (intOf i).toNat)
      case atStart => exact ⟨0, After.here X, by omega, rfl, rfl, hid fun i _ h => absurd h (by omega)⟩
      case round =>
        obtain ⟨j, u, hj, rfl, rfl, hX⟩ := hrel
        by_cases hlt : j < ls.length
        · obtain ⟨b, off, rfl, hb⟩ := (RA.out u).addr (by rw [flat_len lkc 2 lkc2]; omega)
          have k0 : ∀ v : After X, v.w.cell? ⟨b, off + j * 2, none⟩ = some (.int .i64 ls[j].1) := row_cell lkc2 RA.out hlt 0 (by decide) rfl rfl
          have k1 : ∀ v : After X, v.w.cell? ⟨b, off + j * 2 + 1, none⟩ = some (.int .i64 ls[j].2) := row_cell lkc2 RA.out hlt 1 (by decide) rfl rfl
          go_upto_region 12 with fail
          obtain ⟨Y, hY⟩ : ∃ Y, Y = u.w.alloc (.cells #[.int .i64 ls[j].1, .int .i64 ls[j].2] 55) := ⟨_, rfl⟩
          rw [← hY]
          have hXY : Below X.heap.size X Y := by rw [hY]; exact b_alloc u.w_below _
          have e0 : ∀ v : After Y, v.w.cell? ⟨u.w.heap.size, 0, none⟩ = some (.int .i64 ls[j].1) := new_cell hY rfl rfl
          have e1 : ∀ v : After Y, v.w.cell? ⟨u.w.heap.size, 1, none⟩ = some (.int .i64 ls[j].2) := new_cell hY rfl rfl
          have c1 := upc hXY c1
          clear hY
          obtain ⟨y, hy⟩ : ∃ y : After Y, y.w = Y := ⟨After.here Y, rfl⟩
          rw [← hy]
          clear hy
          have Hlk := hid (lk_site ls[j].1 ls[j].2)
          have bad : lkOk ls[j].1 ls[j].2 = false → chk ps ls = 60 := fun hv => chk_links (fun h => by have := (h j hlt).1; rw [hv] at this; exact absurd this (by simp))
          have Hbad := hid bad; clear bad
          go_wp2_with fail
          refine (met (site_any ls[j].1 _)).mono ?_
          rintro e _ ⟨rfl, u2, rfl⟩
          rcases h1 : siteOk ls[j].1 with _ | _
          · go_wp2_with fail
            exact bodyPost_ret (v := .int .i64 60) (by simp [results, Try.results14, go_sem]) rfl ⟨by rw [Hbad.out (by rw [Hlk.out, h1]; rfl)], W0.out (u2.up hXY)⟩
          · go_wp2_with fail
            refine (met (site_any ls[j].2 _)).mono ?_
            rintro e _ ⟨rfl, u3, rfl⟩
            rcases h2 : siteOk ls[j].2 with _ | _
            · go_wp2_with fail
              exact bodyPost_ret (v := .int .i64 60) (by simp [results, Try.results14, go_sem]) rfl ⟨by rw [Hbad.out (by rw [Hlk.out, h1, h2]; rfl)], W0.out (u3.up hXY)⟩
            · by_cases h3 : ls[j].2 ≤ ls[j].1
              · go_wp2_with fail
                exact bodyPost_ret (v := .int .i64 60) (by simp [results, Try.results14, go_sem]) rfl ⟨by rw [Hbad.out (by rw [Hlk.out, h1, h2, decide_eq_false (by omega)]; rfl)], W0.out (u3.up hXY)⟩
              · have hv : lkOk ls[j].1 ls[j].2 = true := by rw [Hlk.out, h1, h2, decide_eq_true (by omega)]; rfl
                have Hv := hid hv; clear hv
                rcases Nat.eq_zero_or_pos j with rfl | hpos
                · go_upto_region 14 with fail
                  refine wp_region_since (by kernel_rfl) (by kernel_rfl) ?_
                  repeat (go_big_quiet_step (fail))
                  refine wpQuiet_nil ?_
                  intro u4
                  go_wp2_with fail
                  go_roundw
                  case rel => exact ⟨1, u4.up hXY, by omega, by go_num, rfl, ext_lk hX (fun _ => ⟨Hv.out, fun h => absurd h (by omega)⟩)⟩
                  case measure => simp [intOf]; omega
                · obtain ⟨k, rfl⟩ : ∃ k, j = k + 1 := ⟨j - 1, by omega⟩
                  have p0 : ∀ v : After Y, v.w.cell? ⟨b, off + k * 2, none⟩ = some (.int .i64 ls[k].1) := upc hXY (row_cell lkc2 RA.out (by omega : k < ls.length) 0 (by decide) rfl rfl)
                  have p1 : ∀ v : After Y, v.w.cell? ⟨b, off + k * 2 + 1, none⟩ = some (.int .i64 ls[k].2) := upc hXY (row_cell lkc2 RA.out (by omega : k < ls.length) 1 (by decide) rfl rfl)
                  have Ha := hid (ahead_pair ls[k] ls[k + 1])
                  have worse : ahead (lkv ls[k]) (lkv ls[k + 1]) = false → chk ps ls = 60 := fun hv => chk_links (fun h => by have h2 : ahead (lkv ls[k]) (lkv ls[k + 1]) = true := (h (k + 1) hlt).2 (by omega); rw [hv] at h2; exact absurd h2 (by simp))
                  have Hw := hid worse; clear worse
                  by_cases q1 : ls[k + 1].1 < ls[k].1
                  · have hah : ahead (lkv ls[k]) (lkv ls[k + 1]) = false := by rw [Ha.out]; simp; omega
                    have Hah := hid hah; clear hah
                    go_upto_region 14 with fail
                    refine wp_region_since (by kernel_rfl) (by kernel_rfl) ?_
                    repeat (go_big_quiet_step (fail))
                    refine wpQuiet_nil ?_
                    intro u4
                    go_wp2_with fail
                    exact bodyPost_ret (v := .int .i64 60) (by simp [results, Try.results14, go_sem]) rfl ⟨by rw [Hw.out Hah.out], W0.out (u4.up hXY)⟩
                  · have q1' : decide (ls[k + 1].1 < ls[k].1) = false := by simpa using q1
                    by_cases q2 : ls[k + 1].1 = ls[k].1
                    · have q2' : (ls[k + 1].1 == ls[k].1) = true := by simpa using q2
                      have Hq2 := hid q2; clear q2
                      by_cases q3 : ls[k + 1].2 ≤ ls[k].2
                      · have hah : ahead (lkv ls[k]) (lkv ls[k + 1]) = false := by rw [Ha.out]; have := Hq2.out; simp; omega
                        have Hah := hid hah; clear hah
                        go_upto_region 14 with fail
                        refine wp_region_since (by kernel_rfl) (by kernel_rfl) ?_
                        repeat (go_big_quiet_step (fail))
                        refine wpQuiet_nil ?_
                        intro u4
                        go_wp2_with fail
                        exact bodyPost_ret (v := .int .i64 60) (by simp [results, Try.results14, go_sem]) rfl ⟨by rw [Hw.out Hah.out], W0.out (u4.up hXY)⟩
                      · have q3' : decide (ls[k + 1].2 ≤ ls[k].2) = false := by simpa using q3
                        have hah : ahead (lkv ls[k]) (lkv ls[k + 1]) = true := by rw [Ha.out]; have := Hq2.out; simp; omega
                        have Hah := hid hah; clear hah
                        go_upto_region 14 with fail
                        refine wp_region_since (by kernel_rfl) (by kernel_rfl) ?_
                        repeat (go_big_quiet_step (fail))
                        refine wpQuiet_nil ?_
                        intro u4
                        go_wp2_with fail
                        go_roundw
                        case rel => exact ⟨k + 1 + 1, u4.up hXY, by omega, by go_num, rfl, ext_lk hX (fun _ => ⟨Hv.out, fun _ => Hah.out⟩)⟩
                        case measure => simp [intOf]; omega
                    · have q2' : (ls[k + 1].1 == ls[k].1) = false := by simpa using q2
                      have hah : ahead (lkv ls[k]) (lkv ls[k + 1]) = true := by rw [Ha.out]; simp; omega
                      have Hah := hid hah; clear hah q2
                      go_upto_region 14 with fail
                      refine wp_region_since (by kernel_rfl) (by kernel_rfl) ?_
                      repeat (go_big_quiet_step (fail))
                      refine wpQuiet_nil ?_
                      intro u4
                      go_wp2_with fail
                      go_roundw
                      case rel => exact ⟨k + 1 + 1, u4.up hXY, by omega, by go_num, rfl, ext_lk hX (fun _ => ⟨Hv.out, fun _ => Hah.out⟩)⟩
                      case measure => simp [intOf]; omega
        · go_wp2_with fail
          exact bodyPost_ret (v := .int .i64 0) (by simp [results, Try.results14, go_sem]) rfl ⟨by rw [chk_ok Ho.out (fun i h => hX.out i h (by omega))], W0.out _⟩
end Go.Proofs.Ytmikhkmdcpgkfaa
