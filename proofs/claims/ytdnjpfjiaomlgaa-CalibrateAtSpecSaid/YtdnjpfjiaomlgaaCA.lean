/- At. -/
import Derived.Test.YtdnjpfjiaomlgaaC10
import Derived.Test.YtdnjpfjiaomlgaaC9
import Derived.Deep.DeepCutAuto
namespace Go.Proofs.Ytdnjpfjiaomlgaa
open Go.RowKit
open Go.Lib (hid)

set_option maxRecDepth 100000 in
set_option maxHeartbeats 4000000 in
theorem at_any (l : List Rc) (nn : Nat) (hnn : l.length = nn) (a : Option Addr) (c : Nat) (dev pos kn : Int) (w : World) (hn : nn ≤ 9223372036854775807) (hr : Rd w a (l.flatMap Rc.cs)) :
    Calls Try.prog 15 #[.slice a nn c, .int .i64 dev, .int .i64 pos, .int .i64 kn] w fun e w' => e = .returned (.tuple #[.int .i64 (atV l dev pos kn).1, .int .i64 (atV l dev pos kn).2.1, .bool (atV l dev pos kn).2.2, .int .i64 (atE l dev pos kn)]) ∧ Below w.heap.size w w' := by
  have HN := hid hnn; have HR := hid (after_rd hr)
  clear hnn hr
  go_enter Try.func15, Try.ntmps15
  go_wp2_with fail
  refine (met0 (check_any l nn HN.out a c w hn (HR.out (After.here w)))).mono ?_
  rintro e _ ⟨rfl, u1, rfl⟩
  by_cases hc : chkR l = 0
  case neg =>
    have HE := hid (atE_bad (dev := dev) (pos := pos) (kn := kn) hc)
    have hne : (chkR l != 0) = true := by simpa using hc
    obtain ⟨E, hE⟩ : ∃ E, chkR l = E := ⟨_, rfl⟩
    rw [hE] at hne HE ⊢
    have HK := hid (show ¬ E = 0 by rw [← hE]; exact hc)
    clear hc hE
    go_wp2_with fail
    exact bodyPost_ret (v := .tuple #[.int .i64 0, .int .i64 0, .bool false, .int .i64 E]) (by simp [results, Try.results15, go_sem]) rfl ⟨by rw [atV_no (by rw [HE.out]; exact HK.out), HE.out], u1.2⟩
  rw [hc]
  have HC := hid hc; clear hc
  have h256 := (chkR_good HC.out).1
  rw [HN.out] at h256
  obtain ⟨B, hB⟩ : ∃ B : Bool, decide (dev < 0 ∨ 15 < dev ∨ pos < 0 ∨ 1099511627776 < pos ∨ kn < 0 ∨ 16777216 < kn) = B := ⟨_, rfl⟩
  have HB := hid hB; clear hB
  go_upto_region 4 with (fail)
  go_cut [39] (fun q wx => CutB w B q wx)
  case first =>
    rcases h0 : decide (dev < 0) with _ | _
    · skip
      rcases h1 : decide (16 ≤ dev) with _ | _
      · skip
        rcases h2 : decide (pos < 0) with _ | _
        · skip
          rcases h3 : decide (1099511627776 < pos) with _ | _
          · skip
            rcases h4 : decide (kn < 0) with _ | _
            · skip
              rcases h5 : decide (16777216 < kn) with _ | _
              · skip
                obtain rfl : B = false := by rw [← HB.out]; simp at h0 h1 h2 h3 h4 h5; simp; omega
                go_wp2_with fail
                go_meet
                case rel => first | exact CutB.mk u1 | ((repeat apply Exists.intro); exact ⟨CutB.mk u1, rfl⟩)

              · skip
                obtain rfl : B = true := by rw [← HB.out]; simp at h0 h1 h2 h3 h4 h5; simp; omega
                go_wp2_with fail
                go_meet
                case rel => first | exact CutB.mk u1 | ((repeat apply Exists.intro); exact ⟨CutB.mk u1, rfl⟩)

            · skip
              obtain rfl : B = true := by rw [← HB.out]; simp at h0 h1 h2 h3 h4; simp; omega
              go_wp2_with fail
              go_meet
              case rel => first | exact CutB.mk u1 | ((repeat apply Exists.intro); exact ⟨CutB.mk u1, rfl⟩)

          · skip
            obtain rfl : B = true := by rw [← HB.out]; simp at h0 h1 h2 h3; simp; omega
            go_wp2_with fail
            go_meet
            case rel => first | exact CutB.mk u1 | ((repeat apply Exists.intro); exact ⟨CutB.mk u1, rfl⟩)

        · skip
          obtain rfl : B = true := by rw [← HB.out]; simp at h0 h1 h2; simp; omega
          go_wp2_with fail
          go_meet
          case rel => first | exact CutB.mk u1 | ((repeat apply Exists.intro); exact ⟨CutB.mk u1, rfl⟩)

      · skip
        obtain rfl : B = true := by rw [← HB.out]; simp at h0 h1; simp; omega
        go_wp2_with fail
        go_meet
        case rel => first | exact CutB.mk u1 | ((repeat apply Exists.intro); exact ⟨CutB.mk u1, rfl⟩)

    · skip
      obtain rfl : B = true := by rw [← HB.out]; simp at h0; simp; omega
      go_wp2_with fail
      go_meet
      case rel => first | exact CutB.mk u1 | ((repeat apply Exists.intro); exact ⟨CutB.mk u1, rfl⟩)

  case rest =>
  obtain ⟨rfl, u3, rfl⟩ := hcut
  clear u1
  cases B
  case true =>
    have HE := hid (atE_arg (l := l) (dev := dev) (pos := pos) (kn := kn) HC.out (of_decide_eq_true HB.out))
    go_wp2_with fail
    exact bodyPost_ret (v := .tuple #[.int .i64 0, .int .i64 0, .bool false, .int .i64 1]) (by simp [results, Try.results15, go_sem]) rfl ⟨by rw [atV_no (by rw [HE.out]; decide), HE.out], u3.2⟩
  have HE := hid (atE_ok (l := l) (dev := dev) (pos := pos) (kn := kn) HC.out (of_decide_eq_false HB.out))
  go_wp2_with fail
  refine (met (find_any l nn HN.out h256 a c dev pos kn u3.w (HR.out u3))).mono ?_
  rintro e _ ⟨rfl, u2, rfl⟩
  obtain ⟨R, hR⟩ : ∃ R, fnd l dev pos kn = R := ⟨_, rfl⟩
  rw [hR]
  have HV := hid (show atV l dev pos kn = resR R by rw [atV_ok HE.out, hR])
  clear hR
  obtain ⟨⟨A, B, S⟩, hq⟩ : ∃ q, resR R = q := ⟨_, rfl⟩
  rw [hq]
  have HQ := hid hq
  clear hq
  dsimp only
  go_upto_region 7 with (fail)
  obtain ⟨V, hV⟩ : ∃ V, V = u2.w.alloc (.cells #[.int .i64 A, .int .i64 B, .bool S] 55) := ⟨_, rfl⟩
  have hBV : Below w.heap.size w V := by rw [hV]; exact b_alloc u2.2 _
  have y0 : ∀ v : After V, v.w.cell? ⟨u2.w.heap.size, 0, none⟩ = some (.int .i64 A) := new_cell hV rfl rfl
  have y1 : ∀ v : After V, v.w.cell? ⟨u2.w.heap.size, 1, none⟩ = some (.int .i64 B) := new_cell hV rfl rfl
  have y2 : ∀ v : After V, v.w.cell? ⟨u2.w.heap.size, 2, none⟩ = some (.bool S) := new_cell hV rfl rfl
  rw [← hV]
  obtain ⟨u, hu⟩ : ∃ u : After V, u.w = V := ⟨After.here V, rfl⟩
  rw [← hu]
  clear hu hV
  refine wp_region_since (by kernel_rfl) (by kernel_rfl) ?_
  repeat (go_big_quiet_step (fail))
  refine wpQuiet_nil ?_
  intro u9
  go_wp2_with fail
  exact bodyPost_ret (v := .tuple #[.int .i64 A, .int .i64 B, .bool S, .int .i64 0]) (by simp [results, Try.results15, go_sem]) rfl ⟨by rw [HV.out, HE.out, HQ.out], b_then hBV u9.2⟩
end Go.Proofs.Ytdnjpfjiaomlgaa
