/- Gestures: Check. -/
import Derived.Test.YtbppajenihjfhaaGG
import Derived.Test.YtbppajenihjfhaaC4
namespace Go.Proofs.Ytbppajenihjfhaa
open Go.RowKit
open Go.Lib (hid)

def CHG (l : List Ge) (n : Nat) (V : World) (i : Value) (wr : World) : Prop := ∃ (j : Nat) (z : After V), j ≤ n ∧ i = .int .i64 j ∧ wr = z.w ∧ Hid (PreG l j)
set_option maxRecDepth 100000 in
set_option maxHeartbeats 4000000 in
theorem gcheck_any (l : List Ge) (nn : Nat) (hnn : l.length = nn) (a : Option Addr) (c : Nat) (w : World) (hn : nn ≤ 9223372036854775807) (hr : Ges w a l) :
    Calls Try.prog 29 #[.slice a nn c] w fun e w' => e = .returned (.int .i64 (chkG l)) ∧ Below w.heap.size w w' := by
  have HN := hid hnn; have HR := hid (after_ges hr); have HRD := hid (fun v : After w => (HR.out v).rd)
  clear hnn hr
  go_enter Try.func29, Try.ntmps29
  by_cases h64 : nn ≤ 64
  case neg =>
    have d2 : decide ((64 : Int) < (nn : Int)) = true := decide_eq_true (by omega)
    have hm := hid (many_ges (l := l) (by rw [HN.out]; omega))
    go_wp2_with fail
    exact bodyPost_ret (v := .int .i64 120) (by simp [results, Try.results29, go_sem]) rfl ⟨by rw [hm.out], Below.refl _ _⟩
  have d2 : decide ((64 : Int) < (nn : Int)) = false := decide_eq_false (by omega)
  go_wp2_with fail
  clear d2
  go_loopw [12] (fun i wr => CHG l nn w i wr) (fun i _ => nn - (intOf i).toNat)
  case atStart => exact ⟨0, After.here w, by omega, rfl, rfl, hid fun i hi => absurd hi (by omega)⟩
  case round =>
    obtain ⟨j, z, hj, rfl, rfl, hp⟩ := hrel
    by_cases hlt' : j < nn
    case neg =>
      have d1 : decide ((j : Int) < (nn : Int)) = false := decide_eq_false (by omega)
      have d1' : decide (j < nn) = false := decide_eq_false (by omega)
      go_wp2_with fail
      exact bodyPost_ret (v := .int .i64 0) (by simp [results, Try.results29, go_sem]) rfl ⟨by rw [chkG_ok ((gesB_iff l).2 ⟨by rw [HN.out]; omega, fun i hi => hp.out i (by rw [HN.out] at hi; omega)⟩)], z.2⟩
    have hlt : j < l.length := by rw [HN.out]; exact hlt'
    have d1 : decide ((j : Int) < (nn : Int)) = true := decide_eq_true (by omega)
    have d1' : decide (j < nn) = true := decide_eq_true (by omega)
    have hjj : (j : Int) < (nn : Int) := by omega
    obtain ⟨b, off, rfl, hb⟩ := (HR.out z).addr (by omega)
    have hat := (HR.out z).at_ j hlt
    obtain ⟨⟨gm, gf, gt, ge, ga, gn, gc, gl⟩, hg⟩ : ∃ t, ge l j = t := ⟨_, rfl⟩
    have g0 : ∀ v : After w, v.w.cell? ⟨b, off + j * 5, none⟩ = some (.int .i64 gm) := ge_cell HRD.out (j := j) (hlt) 0 (by decide) (by rw [hg]; rfl) rfl
    have g1 : ∀ v : After w, v.w.cell? ⟨b, off + j * 5 + 1, none⟩ = some (.int .i64 gf) := ge_cell HRD.out (j := j) (hlt) 1 (by decide) (by rw [hg]; rfl) (by omega)
    have g2 : ∀ v : After w, v.w.cell? ⟨b, off + j * 5 + 2, none⟩ = some (.int .i64 gt) := ge_cell HRD.out (j := j) (hlt) 2 (by decide) (by rw [hg]; rfl) (by omega)
    have g3 : ∀ v : After w, v.w.cell? ⟨b, off + j * 5 + 3, none⟩ = some (.int .i64 ge) := ge_cell HRD.out (j := j) (hlt) 3 (by decide) (by rw [hg]; rfl) (by omega)
    have g4 : ∀ v : After w, v.w.cell? ⟨b, off + j * 5 + 4, none⟩ = some (.slice ga gn gc) := ge_cell HRD.out (j := j) (hlt) 4 (by decide) (by rw [hg]; rfl) (by omega)
    rw [hg] at hat
    have Hg := hid hg; clear hg
    have k0 := g0 z
    have k1 := g1 z
    have k2 := g2 z
    have k3 := g3 z
    have k4 := g4 z
    go_upto_region 6 with (fail)
    have hbx : BoxV w z.w.heap.size [.int .i64 gm, .int .i64 gf, .int .i64 gt, .int .i64 ge, .slice ga gn gc] (z.w.alloc (.cells #[.int .i64 gm, .int .i64 gf, .int .i64 gt, .int .i64 ge, .slice ga gn gc] 38)) := BoxV.new z.w_below #[.int .i64 gm, .int .i64 gf, .int .i64 gt, .int .i64 ge, .slice ga gn gc] 38
    obtain ⟨u0, hu⟩ : ∃ u : After w, u.w = z.w.alloc (.cells #[.int .i64 gm, .int .i64 gf, .int .i64 gt, .int .i64 ge, .slice ga gn gc] 38) := ⟨z.on (b_alloc (Below.refl _ _) _), rfl⟩
    have hat0 : Ge.At ⟨gm, gf, gt, ge, ga, gn, gc, gl⟩ u0.w := by rw [hu]; exact hat.below (b_alloc (Below.refl _ _) _)
    rw [← hu] at hbx
    rw [← hu]
    have HAT := hid hat0
    clear k0 k1 k2 k3 k4 hat hat0 hu
    have k0 := hbx.cell 0 _ rfl
    have k1 := hbx.cell 1 _ rfl
    have k2 := hbx.cell 2 _ rfl
    have k3 := hbx.cell 3 _ rfl
    have k4 := hbx.cell 4 _ rfl
    clear hbx
    by_cases m1 : gm = 1
    · subst m1
      by_cases h1 : 0 ≤ gf
      case neg =>
        have dh1 : decide (0 ≤ gf) = false := decide_eq_false h1
        have hm := hid (not_ges hlt (by rw [Hg.out]; exact geB_not (fun h => by dsimp only at h; omega)))
        go_wp2_with fail
        exact bodyPost_ret (v := .int .i64 120) (by simp [results, Try.results29, go_sem]) rfl ⟨by rw [hm.out], u0.2⟩
      have dh1 : decide (0 ≤ gf) = true := decide_eq_true h1
      by_cases h2 : gf < gt
      case neg =>
        have dh2 : decide (gf < gt) = false := decide_eq_false h2
        have hm := hid (not_ges hlt (by rw [Hg.out]; exact geB_not (fun h => by dsimp only at h; omega)))
        go_wp2_with fail
        exact bodyPost_ret (v := .int .i64 120) (by simp [results, Try.results29, go_sem]) rfl ⟨by rw [hm.out], u0.2⟩
      have dh2 : decide (gf < gt) = true := decide_eq_true h2
      by_cases h3 : gt ≤ ge
      case neg =>
        have dh3 : decide (gt ≤ ge) = false := decide_eq_false h3
        have hm := hid (not_ges hlt (by rw [Hg.out]; exact geB_not (fun h => by dsimp only at h; omega)))
        go_wp2_with fail
        exact bodyPost_ret (v := .int .i64 120) (by simp [results, Try.results29, go_sem]) rfl ⟨by rw [hm.out], u0.2⟩
      have dh3 : decide (gt ≤ ge) = true := decide_eq_true h3
      by_cases h4 : ge ≤ 1099511627776
      case neg =>
        have dh4 : decide (ge ≤ 1099511627776) = false := decide_eq_false h4
        have hm := hid (not_ges hlt (by rw [Hg.out]; exact geB_not (fun h => by dsimp only at h; omega)))
        go_wp2_with fail
        exact bodyPost_ret (v := .int .i64 120) (by simp [results, Try.results29, go_sem]) rfl ⟨by rw [hm.out], u0.2⟩
      have dh4 : decide (ge ≤ 1099511627776) = true := decide_eq_true h4
      by_cases h5 : ge = gt
      case neg =>
        have e5 : (ge != gt) = true := by simpa using h5
        have hm := hid (not_ges hlt (by rw [Hg.out]; exact geB_not (fun h => by dsimp only at h; omega)))
        go_wp2_with fail
        exact bodyPost_ret (v := .int .i64 120) (by simp [results, Try.results29, go_sem]) rfl ⟨by rw [hm.out], u0.2⟩
      have e5 : (ge != gt) = false := by simpa using h5
      by_cases h0 : gn = 0
      · have d0 : ((gn : Int) == 0) = true := by rw [beq_iff_eq]; omega
        have d0' : (gn == 0) = true := by rw [beq_iff_eq]; exact h0
        have hm := hid (not_ges hlt (by rw [Hg.out]; exact geB_not (fun h => by dsimp only at h; have := HAT.out.len; dsimp only at this; omega)))
        go_wp2_with fail
        exact bodyPost_ret (v := .int .i64 120) (by simp [results, Try.results29, go_sem]) rfl ⟨by rw [hm.out], u0.2⟩
      have d0 : ((gn : Int) == 0) = false := beq_eq_false_iff_ne.2 (by omega)
      have d0' : (gn == 0) = false := beq_eq_false_iff_ne.2 h0
      have HGD := hid (show chkK gl = 0 → geB ⟨1, gf, gt, ge, ga, gn, gc, gl⟩ = true from fun h => (geB_iff _).2 (by dsimp only; have := HAT.out.len; dsimp only at this; exact ⟨by omega, by omega, by omega, by omega, by omega, by omega, by omega, by omega, h⟩))
      clear h0 h1 h2 h3 h4 h5
      go_wp2_with fail
      refine (met (kcheck_any gl gn HAT.out.len ga gc u0.w HAT.out.le HAT.out.rd)).mono ?_
      rintro e _ ⟨rfl, u1, rfl⟩
      by_cases hK : chkK gl = 0
      case neg =>
        have hm := hid (not_ges hlt (by rw [Hg.out]; exact geB_not (fun h => hK h.2.2.2.2.2.2.2.2)))
        have d9 : (chkK gl != 0) = true := by simpa using hK
        obtain ⟨K, hK2⟩ : ∃ K, chkK gl = K := ⟨_, rfl⟩
        rw [hK2] at d9 ⊢
        clear hK hK2
        go_wp2_with fail
        exact bodyPost_ret (v := .int .i64 120) (by simp [results, Try.results29, go_sem]) rfl ⟨by rw [hm.out], u1.2⟩
      rw [hK]
      have HV := hid (HGD.out hK)
      clear hK
      go_wp2_with fail
      go_roundw
      case rel => exact ⟨j + 1, u1, by omega, by go_num, rfl, hid (hp.out.next (by rw [Hg.out]; exact HV.out))⟩
      case measure => first | (simp [intOf]; done) | (simp [intOf]; omega)
    by_cases m2 : gm = 2
    · subst m2
      by_cases h1 : 0 ≤ gf
      case neg =>
        have dh1 : decide (0 ≤ gf) = false := decide_eq_false h1
        have hm := hid (not_ges hlt (by rw [Hg.out]; exact geB_not (fun h => by dsimp only at h; omega)))
        go_wp2_with fail
        exact bodyPost_ret (v := .int .i64 120) (by simp [results, Try.results29, go_sem]) rfl ⟨by rw [hm.out], u0.2⟩
      have dh1 : decide (0 ≤ gf) = true := decide_eq_true h1
      by_cases h2 : gf < gt
      case neg =>
        have dh2 : decide (gf < gt) = false := decide_eq_false h2
        have hm := hid (not_ges hlt (by rw [Hg.out]; exact geB_not (fun h => by dsimp only at h; omega)))
        go_wp2_with fail
        exact bodyPost_ret (v := .int .i64 120) (by simp [results, Try.results29, go_sem]) rfl ⟨by rw [hm.out], u0.2⟩
      have dh2 : decide (gf < gt) = true := decide_eq_true h2
      by_cases h3 : gt ≤ ge
      case neg =>
        have dh3 : decide (gt ≤ ge) = false := decide_eq_false h3
        have hm := hid (not_ges hlt (by rw [Hg.out]; exact geB_not (fun h => by dsimp only at h; omega)))
        go_wp2_with fail
        exact bodyPost_ret (v := .int .i64 120) (by simp [results, Try.results29, go_sem]) rfl ⟨by rw [hm.out], u0.2⟩
      have dh3 : decide (gt ≤ ge) = true := decide_eq_true h3
      by_cases h4 : ge ≤ 1099511627776
      case neg =>
        have dh4 : decide (ge ≤ 1099511627776) = false := decide_eq_false h4
        have hm := hid (not_ges hlt (by rw [Hg.out]; exact geB_not (fun h => by dsimp only at h; omega)))
        go_wp2_with fail
        exact bodyPost_ret (v := .int .i64 120) (by simp [results, Try.results29, go_sem]) rfl ⟨by rw [hm.out], u0.2⟩
      have dh4 : decide (ge ≤ 1099511627776) = true := decide_eq_true h4
      by_cases h0 : gn = 0
      · have d0 : ((gn : Int) == 0) = true := by rw [beq_iff_eq]; omega
        have d0' : (gn == 0) = true := by rw [beq_iff_eq]; exact h0
        have hm := hid (not_ges hlt (by rw [Hg.out]; exact geB_not (fun h => by dsimp only at h; have := HAT.out.len; dsimp only at this; omega)))
        go_wp2_with fail
        exact bodyPost_ret (v := .int .i64 120) (by simp [results, Try.results29, go_sem]) rfl ⟨by rw [hm.out], u0.2⟩
      have d0 : ((gn : Int) == 0) = false := beq_eq_false_iff_ne.2 (by omega)
      have d0' : (gn == 0) = false := beq_eq_false_iff_ne.2 h0
      have HGD := hid (show chkK gl = 0 → geB ⟨2, gf, gt, ge, ga, gn, gc, gl⟩ = true from fun h => (geB_iff _).2 (by dsimp only; have := HAT.out.len; dsimp only at this; exact ⟨by omega, by omega, by omega, by omega, by omega, by omega, by omega, by omega, h⟩))
      clear h0 h1 h2 h3 h4
      go_wp2_with fail
      refine (met (kcheck_any gl gn HAT.out.len ga gc u0.w HAT.out.le HAT.out.rd)).mono ?_
      rintro e _ ⟨rfl, u1, rfl⟩
      by_cases hK : chkK gl = 0
      case neg =>
        have hm := hid (not_ges hlt (by rw [Hg.out]; exact geB_not (fun h => hK h.2.2.2.2.2.2.2.2)))
        have d9 : (chkK gl != 0) = true := by simpa using hK
        obtain ⟨K, hK2⟩ : ∃ K, chkK gl = K := ⟨_, rfl⟩
        rw [hK2] at d9 ⊢
        clear hK hK2
        go_wp2_with fail
        exact bodyPost_ret (v := .int .i64 120) (by simp [results, Try.results29, go_sem]) rfl ⟨by rw [hm.out], u1.2⟩
      rw [hK]
      have HV := hid (HGD.out hK)
      clear hK
      go_wp2_with fail
      go_roundw
      case rel => exact ⟨j + 1, u1, by omega, by go_num, rfl, hid (hp.out.next (by rw [Hg.out]; exact HV.out))⟩
      case measure => first | (simp [intOf]; done) | (simp [intOf]; omega)
    by_cases m3 : gm = 3
    · subst m3
      by_cases h1 : 0 ≤ gf
      case neg =>
        have dh1 : decide (0 ≤ gf) = false := decide_eq_false h1
        have hm := hid (not_ges hlt (by rw [Hg.out]; exact geB_not (fun h => by dsimp only at h; omega)))
        go_wp2_with fail
        exact bodyPost_ret (v := .int .i64 120) (by simp [results, Try.results29, go_sem]) rfl ⟨by rw [hm.out], u0.2⟩
      have dh1 : decide (0 ≤ gf) = true := decide_eq_true h1
      by_cases h2 : gf < gt
      case neg =>
        have dh2 : decide (gf < gt) = false := decide_eq_false h2
        have hm := hid (not_ges hlt (by rw [Hg.out]; exact geB_not (fun h => by dsimp only at h; omega)))
        go_wp2_with fail
        exact bodyPost_ret (v := .int .i64 120) (by simp [results, Try.results29, go_sem]) rfl ⟨by rw [hm.out], u0.2⟩
      have dh2 : decide (gf < gt) = true := decide_eq_true h2
      by_cases h3 : gt ≤ ge
      case neg =>
        have dh3 : decide (gt ≤ ge) = false := decide_eq_false h3
        have hm := hid (not_ges hlt (by rw [Hg.out]; exact geB_not (fun h => by dsimp only at h; omega)))
        go_wp2_with fail
        exact bodyPost_ret (v := .int .i64 120) (by simp [results, Try.results29, go_sem]) rfl ⟨by rw [hm.out], u0.2⟩
      have dh3 : decide (gt ≤ ge) = true := decide_eq_true h3
      by_cases h4 : ge ≤ 1099511627776
      case neg =>
        have dh4 : decide (ge ≤ 1099511627776) = false := decide_eq_false h4
        have hm := hid (not_ges hlt (by rw [Hg.out]; exact geB_not (fun h => by dsimp only at h; omega)))
        go_wp2_with fail
        exact bodyPost_ret (v := .int .i64 120) (by simp [results, Try.results29, go_sem]) rfl ⟨by rw [hm.out], u0.2⟩
      have dh4 : decide (ge ≤ 1099511627776) = true := decide_eq_true h4
      by_cases h5 : ge = gt
      case neg =>
        have e5 : (ge != gt) = true := by simpa using h5
        have hm := hid (not_ges hlt (by rw [Hg.out]; exact geB_not (fun h => by dsimp only at h; omega)))
        go_wp2_with fail
        exact bodyPost_ret (v := .int .i64 120) (by simp [results, Try.results29, go_sem]) rfl ⟨by rw [hm.out], u0.2⟩
      have e5 : (ge != gt) = false := by simpa using h5
      by_cases h0 : gn = 0
      · have d0 : ((gn : Int) == 0) = true := by rw [beq_iff_eq]; omega
        have d0' : (gn == 0) = true := by rw [beq_iff_eq]; exact h0
        have hm := hid (not_ges hlt (by rw [Hg.out]; exact geB_not (fun h => by dsimp only at h; have := HAT.out.len; dsimp only at this; omega)))
        go_wp2_with fail
        exact bodyPost_ret (v := .int .i64 120) (by simp [results, Try.results29, go_sem]) rfl ⟨by rw [hm.out], u0.2⟩
      have d0 : ((gn : Int) == 0) = false := beq_eq_false_iff_ne.2 (by omega)
      have d0' : (gn == 0) = false := beq_eq_false_iff_ne.2 h0
      have HGD := hid (show chkK gl = 0 → geB ⟨3, gf, gt, ge, ga, gn, gc, gl⟩ = true from fun h => (geB_iff _).2 (by dsimp only; have := HAT.out.len; dsimp only at this; exact ⟨by omega, by omega, by omega, by omega, by omega, by omega, by omega, by omega, h⟩))
      clear h0 h1 h2 h3 h4 h5
      go_wp2_with fail
      refine (met (kcheck_any gl gn HAT.out.len ga gc u0.w HAT.out.le HAT.out.rd)).mono ?_
      rintro e _ ⟨rfl, u1, rfl⟩
      by_cases hK : chkK gl = 0
      case neg =>
        have hm := hid (not_ges hlt (by rw [Hg.out]; exact geB_not (fun h => hK h.2.2.2.2.2.2.2.2)))
        have d9 : (chkK gl != 0) = true := by simpa using hK
        obtain ⟨K, hK2⟩ : ∃ K, chkK gl = K := ⟨_, rfl⟩
        rw [hK2] at d9 ⊢
        clear hK hK2
        go_wp2_with fail
        exact bodyPost_ret (v := .int .i64 120) (by simp [results, Try.results29, go_sem]) rfl ⟨by rw [hm.out], u1.2⟩
      rw [hK]
      have HV := hid (HGD.out hK)
      clear hK
      go_wp2_with fail
      go_roundw
      case rel => exact ⟨j + 1, u1, by omega, by go_num, rfl, hid (hp.out.next (by rw [Hg.out]; exact HV.out))⟩
      case measure => first | (simp [intOf]; done) | (simp [intOf]; omega)
    have e1 : (gm == 1) = false := beq_eq_false_iff_ne.2 m1
    have e2 : (gm == 2) = false := beq_eq_false_iff_ne.2 m2
    have e3 : (gm == 3) = false := beq_eq_false_iff_ne.2 m3
    by_cases h1 : 0 ≤ gf
    case neg =>
      have dh1 : decide (0 ≤ gf) = false := decide_eq_false h1
      have hm := hid (not_ges hlt (by rw [Hg.out]; exact geB_not (fun h => by dsimp only at h; omega)))
      go_wp2_with fail
      exact bodyPost_ret (v := .int .i64 120) (by simp [results, Try.results29, go_sem]) rfl ⟨by rw [hm.out], u0.2⟩
    have dh1 : decide (0 ≤ gf) = true := decide_eq_true h1
    by_cases h2 : gf < gt
    case neg =>
      have dh2 : decide (gf < gt) = false := decide_eq_false h2
      have hm := hid (not_ges hlt (by rw [Hg.out]; exact geB_not (fun h => by dsimp only at h; omega)))
      go_wp2_with fail
      exact bodyPost_ret (v := .int .i64 120) (by simp [results, Try.results29, go_sem]) rfl ⟨by rw [hm.out], u0.2⟩
    have dh2 : decide (gf < gt) = true := decide_eq_true h2
    by_cases h3 : gt ≤ ge
    case neg =>
      have dh3 : decide (gt ≤ ge) = false := decide_eq_false h3
      have hm := hid (not_ges hlt (by rw [Hg.out]; exact geB_not (fun h => by dsimp only at h; omega)))
      go_wp2_with fail
      exact bodyPost_ret (v := .int .i64 120) (by simp [results, Try.results29, go_sem]) rfl ⟨by rw [hm.out], u0.2⟩
    have dh3 : decide (gt ≤ ge) = true := decide_eq_true h3
    by_cases h4 : ge ≤ 1099511627776
    case neg =>
      have dh4 : decide (ge ≤ 1099511627776) = false := decide_eq_false h4
      have hm := hid (not_ges hlt (by rw [Hg.out]; exact geB_not (fun h => by dsimp only at h; omega)))
      go_wp2_with fail
      exact bodyPost_ret (v := .int .i64 120) (by simp [results, Try.results29, go_sem]) rfl ⟨by rw [hm.out], u0.2⟩
    have dh4 : decide (ge ≤ 1099511627776) = true := decide_eq_true h4
    have hm := hid (not_ges hlt (by rw [Hg.out]; exact geB_not (fun h => by dsimp only at h; omega)))
    go_wp2_with fail
    exact bodyPost_ret (v := .int .i64 120) (by simp [results, Try.results29, go_sem]) rfl ⟨by rw [hm.out], u0.2⟩
end Go.Proofs.Ytbppajenihjfhaa
