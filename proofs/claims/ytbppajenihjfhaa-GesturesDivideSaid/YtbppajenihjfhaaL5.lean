/- GesturesDivide. -/
import Derived.Test.YtbppajenihjfhaaGK2
import Derived.Test.YtbppajenihjfhaaY
import Derived.IntWalk
namespace Go.Proofs.Ytbppajenihjfhaa
open Go.RowKit
open Go.Lib (hid)

theorem Rd.take {w : World} {a : Option Addr} {xs : List Value} (h : Rd w a xs) (m : Nat) : Rd w a (xs.take m) := by
  rcases h with h | ⟨b, off, ha, hb, hc⟩
  · exact .inl (by rw [h, List.take_nil])
  · refine .inr ⟨b, off, ha, hb, fun j u hj => hc j u ?_⟩
    rw [List.getElem?_take] at hj
    split at hj
    · exact hj
    · cases hj
theorem Rd.drop {w : World} {ad : Addr} {xs : List Value} (h : Rd w (some ad) xs) (m : Nat) : Rd w (some (ad.add m)) (xs.drop m) := by
  rcases h with h | ⟨b, off, ha, hb, hc⟩
  · exact .inl (by rw [h, List.drop_nil])
  · cases ha
    refine .inr ⟨b, off + m, by rw [Addr.add_lit], hb, fun j u hj => ?_⟩
    rw [List.getElem?_drop] at hj
    rw [Nat.add_assoc]
    exact hc _ _ hj
theorem Ges.take {w : World} {a : Option Addr} {l : List Ge} (h : Ges w a l) (k : Nat) : Ges w a (l.take k) := by
  refine ⟨?_, fun i hi => ?_⟩
  · have := h.rd.take (k * 5)
    rwa [flat_takek Ge.cs 5 Ge.c5] at this
  · rw [List.length_take] at hi
    rw [ge_take (by omega)]
    exact h.at_ i (by omega)
theorem Ges.drop {w : World} {ad : Addr} {l : List Ge} (h : Ges w (some ad) l) (k : Nat) : Ges w (some (ad.add (k * 5))) (l.drop k) := by
  refine ⟨?_, fun i hi => ?_⟩
  · have := h.rd.drop (k * 5)
    rwa [flat_dropk Ge.cs 5 Ge.c5] at this
  · rw [List.length_drop] at hi
    rw [ge_drop]
    exact h.at_ _ (by omega)
theorem Ges.none_ {w : World} {a : Option Addr} {l : List Ge} (h : l = []) : Ges w a l := by
  subst h
  exact ⟨.inl rfl, fun i hi => absurd hi (by simp)⟩
def DVL (l : List Ge) (n : Nat) (x : Int) (V : World) (i : Value) (wr : World) : Prop := ∃ (j : Nat) (z : After V), j ≤ n ∧ i = .int .i64 j ∧ wr = z.w ∧ Hid (∀ i, i < j → gHas (ge l i) x = false)
set_option maxRecDepth 100000 in
set_option maxHeartbeats 4000000 in
theorem gdSpec_walk (p : Int) (hp : R64 p) (x cut : Int) (l : List Ge) (nn : Nat) (hnn : l.length = nn) (a : Option Addr) (c : Nat) (hcc : nn ≤ c) (hca : a = none → nn = 0 ∧ c = 0) (hcm : c ≤ 9223372036854775807) (hb : nn ≤ 9223372036854775807) (W : World) (hr : Ges W a l) :
    Calls Try.prog 5 #[.int .i64 p, .slice a nn c, .int .i64 x, .int .i64 cut] W fun e w' => e = .returned (.bool true) ∧ Below W.heap.size W w' := by
  have HP := hid hp; clear hp
  have HN := hid hnn; have HR := hid (after_ges hr)
  clear hnn hr
  go_enter Try.func5, Try.ntmps5
  go_wp2_with fail
  refine (met0 (sane12_any W)).mono ?_
  rintro e _ ⟨rfl, u1, rfl⟩
  go_wp2_with fail
  refine (gfew_any l nn HN.out a c u1.w hb (HR.out u1)).mono ?_
  rintro e w9 ⟨rfl, rfl⟩
  rcases hfew : fewB l with _ | _
  · clear hfew
    go_wp2_with fail
    exact bodyPost_ret (v := .bool true) (by simp [results, Try.results5, go_sem]) rfl ⟨rfl, u1.2⟩
  clear hfew
  go_wp2_with fail
  refine (met (rgcheck_any l nn HN.out a c u1.w hb (HR.out u1))).mono ?_
  rintro e _ ⟨rfl, u2, rfl⟩
  by_cases hc : chkG l = 0
  case neg =>
    rw [chkG_bad hc]
    clear hc
    go_wp2_with fail
    exact bodyPost_ret (v := .bool true) (by simp [results, Try.results5, go_sem]) rfl ⟨rfl, u2.2⟩
  have h64 := ges_len hc
  rw [HN.out] at h64
  rw [hc]
  have HC := hid hc; clear hc
  obtain ⟨q, hq⟩ : ∃ q, IntKind.u64.wrap cut = q := ⟨_, rfl⟩
  have hq0 : 0 ≤ q := by rw [← hq, IntKind.wrap_u64]; omega
  obtain ⟨N1, hN1⟩ : ∃ y, (nn : Int) + 1 = y := ⟨_, rfl⟩
  have wN1 : IntKind.i64.wrap N1 = N1 := IntWalk.i64_in _ (by omega)
  have wN2 : IntKind.u64.wrap N1 = N1 := by rw [IntKind.wrap_u64]; omega
  have hN0 : (N1 == 0) = false := beq_eq_false_iff_ne.2 (by omega)
  have hk0 := Int.tmod_nonneg N1 hq0
  have hk1 := Int.tmod_lt_of_pos q (show 0 < N1 by omega)
  obtain ⟨k, hk⟩ : ∃ k : Nat, q.tmod N1 = (k : Int) := ⟨(q.tmod N1).toNat, by omega⟩
  have wk1 : IntKind.u64.wrap (k : Int) = (k : Int) := by rw [IntKind.wrap_u64]; omega
  have wk2 : IntKind.i64.wrap (k : Int) = (k : Int) := IntWalk.i64_in _ (by omega)
  go_wp2_with fail
  have hkn : k ≤ nn := by omega
  clear wk1 wk2 hk wN1 wN2 hN0 hq hq0 hk0 hk1 hN1
  refine (met (gValue_any l nn HN.out a c p x HP.out u2.w hb (HR.out u2))).mono ?_
  rintro e _ ⟨rfl, u3, rfl⟩
  rw [vgv_ok HC.out, HC.out]
  have hfar : (∀ i, i < l.length → gHas (ge l i) x = false) → allV p l x = p := fun h => allV_far h
  have hspl := allV_split p l x k
  obtain ⟨V, hV⟩ : ∃ y, allV p l x = y := ⟨_, rfl⟩
  rw [hV] at hfar hspl ⊢
  have HFAR := hid hfar
  have hr1 := allV_rng HP.out (l.take k) x
  clear hV hfar
  have i1 : (0 : Int) ≤ (k : Int) := by omega
  have i2 : (k : Int) ≤ (c : Int) := by omega
  have i3 : (k : Int) ≤ (nn : Int) := by omega
  rcases a with _ | ad
  · obtain ⟨rfl, rfl⟩ := hca rfl
    obtain rfl : k = 0 := by omega
    obtain rfl : l = [] := List.eq_nil_of_length_eq_zero HN.out
    clear i1 i2 i3 hca hr1
    go_wp2_with fail
    refine (met (gValue_any [] 0 rfl none 0 p x HP.out u3.w (by omega) (Ges.none_ rfl))).mono ?_
    rintro e _ ⟨rfl, u4, rfl⟩
    rw [vgv_ok HC.out, HC.out]
    obtain ⟨V1, hV1⟩ : ∃ y, allV p [] x = y := ⟨_, rfl⟩
    have hr1 : R64 V1 := by rw [← hV1]; exact allV_rng HP.out [] x
    have hs2 : allV V1 [] x = V := by rw [← hV1]; exact hspl
    rw [hV1]
    have HR1 := hid hr1; have HV1 := hid hs2
    clear hr1 hs2 hV1 hspl
    go_wp2_with fail
    refine (met (gValue_any [] 0 rfl none 0 V1 x HR1.out u4.w (by omega) (Ges.none_ rfl))).mono ?_
    rintro e _ ⟨rfl, u5, rfl⟩
    rw [vgv_ok HC.out, HC.out, HV1.out]
    have eV : (V != V) = false := by simp
    obtain rfl : V = p := HFAR.out fun i hi => absurd hi (by simp)
    have e1 : (V == V) = true := beq_self_eq_true _
    go_wp2_with fail
    go_loopw [78] (fun i wr => i = .int .i64 0 ∧ ∃ z : After W, wr = z.w) (fun _ _ => 0)
    case atStart => exact ⟨rfl, u5, rfl⟩
    case round =>
      obtain ⟨rfl, z, rfl⟩ := hrel
      go_wp2_with fail
      exact bodyPost_ret (v := .bool true) (by simp [results, Try.results5, go_sem]) rfl ⟨rfl, z.2⟩
  clear hca
  go_wp2_with fail
  clear i1
  refine (met (gValue_any (l.take k) k (by rw [List.length_take, HN.out]; omega) (some ad) c p x HP.out u3.w (by omega) ((HR.out u3).take k))).mono ?_
  rintro e _ ⟨rfl, u4, rfl⟩
  rw [vgv_ok (chkG_take HC.out k), chkG_take HC.out k]
  obtain ⟨V1, hV1⟩ : ∃ y, allV p (l.take k) x = y := ⟨_, rfl⟩
  rw [hV1] at hr1 hspl ⊢
  have HR1 := hid hr1; have HV1 := hid hspl
  clear hV1 hr1 hspl
  have i1 : (0 : Int) ≤ (k : Int) := by omega
  by_cases hck : c = k
  · have hd : l.drop k = [] := List.drop_eq_nil_of_le (by rw [HN.out]; omega)
    have HD := hid hd
    clear hd
    go_wp2_with fail
    refine (met (gValue_any (l.drop k) (nn - k) (by rw [List.length_drop, HN.out]) (some ad) (0) V1 x HR1.out u4.w (by omega) (Ges.none_ HD.out))).mono ?_
    rintro e _ ⟨rfl, u5, rfl⟩
    rw [vgv_ok (chkG_drop HC.out _), chkG_drop HC.out _, HV1.out]
    have eV : (V != V) = false := by simp
    go_wp2_with fail
    clear eV
    go_loopw [78] (fun i wr => DVL l nn x W i wr) (fun i _ => nn - (intOf i).toNat)
    case atStart => exact ⟨0, u5, by omega, rfl, rfl, hid fun i hi => absurd hi (by omega)⟩
    case round =>
      obtain ⟨j, z, hj, rfl, rfl, hp⟩ := hrel
      by_cases hlt' : j < nn
      case neg =>
        have d1 : decide ((j : Int) < (nn : Int)) = false := decide_eq_false (by omega)
        have d1' : decide (j < nn) = false := decide_eq_false (by omega)
        obtain rfl : V = p := HFAR.out fun i hi => hp.out i (by rw [HN.out] at hi; omega)
        have e1 : (V == V) = true := beq_self_eq_true _
        go_wp2_with fail
        exact bodyPost_ret (v := .bool true) (by simp [results, Try.results5, go_sem]) rfl ⟨rfl, z.2⟩
      have hlt : j < l.length := by rw [HN.out]; exact hlt'
      have d1 : decide ((j : Int) < (nn : Int)) = true := decide_eq_true (by omega)
      have d1' : decide (j < nn) = true := decide_eq_true (by omega)
      have hjj : (j : Int) < (nn : Int) := by omega
      obtain ⟨b, off, had, hb0⟩ := (HR.out z).addr (by omega)
      first | cases had | subst had
      have HRD := hid (fun v : After W => (HR.out v).rd)
      obtain ⟨⟨gm, gf, gt, ge, ga, gn, gc, gl⟩, hg⟩ : ∃ t, ge l j = t := ⟨_, rfl⟩
      have g0 : ∀ v : After W, v.w.cell? ⟨b, off + j * 5, none⟩ = some (.int .i64 gm) := ge_cell HRD.out (j := j) (hlt) 0 (by decide) (by rw [hg]; rfl) rfl
      have g1 : ∀ v : After W, v.w.cell? ⟨b, off + j * 5 + 1, none⟩ = some (.int .i64 gf) := ge_cell HRD.out (j := j) (hlt) 1 (by decide) (by rw [hg]; rfl) (by omega)
      have g2 : ∀ v : After W, v.w.cell? ⟨b, off + j * 5 + 2, none⟩ = some (.int .i64 gt) := ge_cell HRD.out (j := j) (hlt) 2 (by decide) (by rw [hg]; rfl) (by omega)
      have g3 : ∀ v : After W, v.w.cell? ⟨b, off + j * 5 + 3, none⟩ = some (.int .i64 ge) := ge_cell HRD.out (j := j) (hlt) 3 (by decide) (by rw [hg]; rfl) (by omega)
      have g4 : ∀ v : After W, v.w.cell? ⟨b, off + j * 5 + 4, none⟩ = some (.slice ga gn gc) := ge_cell HRD.out (j := j) (hlt) 4 (by decide) (by rw [hg]; rfl) (by omega)
      have Hg := hid hg; clear hg
      have k0 := g0 z
      have k1 := g1 z
      have k2 := g2 z
      have k3 := g3 z
      have k4 := g4 z
      go_upto_region 14 with (fail)
      have hbx : BoxV W z.w.heap.size [.int .i64 gm, .int .i64 gf, .int .i64 gt, .int .i64 ge, .slice ga gn gc] (z.w.alloc (.cells #[.int .i64 gm, .int .i64 gf, .int .i64 gt, .int .i64 ge, .slice ga gn gc] 38)) := BoxV.new z.w_below #[.int .i64 gm, .int .i64 gf, .int .i64 gt, .int .i64 ge, .slice ga gn gc] 38
      obtain ⟨u9, hu⟩ : ∃ u : After W, u.w = z.w.alloc (.cells #[.int .i64 gm, .int .i64 gf, .int .i64 gt, .int .i64 ge, .slice ga gn gc] 38) := ⟨z.on (b_alloc (Below.refl _ _) _), rfl⟩
      rw [← hu] at hbx
      rw [← hu]
      clear k0 k1 k2 k3 k4 hu
      have k1 := hbx.cell 1 _ rfl
      have k3 := hbx.cell 3 _ rfl
      clear hbx
      by_cases h2 : gf ≤ x
      case neg =>
        have e2 : decide (gf ≤ x) = false := decide_eq_false h2
        have hno := hid (show gHas (Ytbppajenihjfhaa.ge l j) x = false by rw [Hg.out]; unfold gHas; dsimp only; rw [e2]; rfl)
        go_wp2_with fail
        go_roundw
        case rel => exact ⟨j + 1, u9, by omega, by go_num, rfl, hid (fun i hi => by
          by_cases he : i = j
          · subst he; exact hno.out
          · exact hp.out i (by omega))⟩
        case measure => first | (simp [intOf]; done) | (simp [intOf]; omega)
      have e2 : decide (gf ≤ x) = true := decide_eq_true h2
      by_cases h3 : x < ge
      · have e3 : decide (x < ge) = true := decide_eq_true h3
        go_wp2_with fail
        exact bodyPost_ret (v := .bool true) (by simp [results, Try.results5, go_sem]) rfl ⟨rfl, u9.2⟩
      · have e3 : decide (x < ge) = false := decide_eq_false h3
        have hno := hid (show gHas (Ytbppajenihjfhaa.ge l j) x = false by rw [Hg.out]; unfold gHas; dsimp only; rw [e2, e3]; rfl)
        go_wp2_with fail
        go_roundw
        case rel => exact ⟨j + 1, u9, by omega, by go_num, rfl, hid (fun i hi => by
          by_cases he : i = j
          · subst he; exact hno.out
          · exact hp.out i (by omega))⟩
        case measure => first | (simp [intOf]; done) | (simp [intOf]; omega)
  · go_wp2_with fail
    refine (met (gValue_any (l.drop k) (nn - k) (by rw [List.length_drop, HN.out]) (some (ad.add (k * 5))) (c - k) V1 x HR1.out u4.w (by omega) ((HR.out u4).drop k))).mono ?_
    rintro e _ ⟨rfl, u5, rfl⟩
    rw [vgv_ok (chkG_drop HC.out _), chkG_drop HC.out _, HV1.out]
    have eV : (V != V) = false := by simp
    go_wp2_with fail
    clear eV
    go_loopw [78] (fun i wr => DVL l nn x W i wr) (fun i _ => nn - (intOf i).toNat)
    case atStart => exact ⟨0, u5, by omega, rfl, rfl, hid fun i hi => absurd hi (by omega)⟩
    case round =>
      obtain ⟨j, z, hj, rfl, rfl, hp⟩ := hrel
      by_cases hlt' : j < nn
      case neg =>
        have d1 : decide ((j : Int) < (nn : Int)) = false := decide_eq_false (by omega)
        have d1' : decide (j < nn) = false := decide_eq_false (by omega)
        obtain rfl : V = p := HFAR.out fun i hi => hp.out i (by rw [HN.out] at hi; omega)
        have e1 : (V == V) = true := beq_self_eq_true _
        go_wp2_with fail
        exact bodyPost_ret (v := .bool true) (by simp [results, Try.results5, go_sem]) rfl ⟨rfl, z.2⟩
      have hlt : j < l.length := by rw [HN.out]; exact hlt'
      have d1 : decide ((j : Int) < (nn : Int)) = true := decide_eq_true (by omega)
      have d1' : decide (j < nn) = true := decide_eq_true (by omega)
      have hjj : (j : Int) < (nn : Int) := by omega
      obtain ⟨b, off, had, hb0⟩ := (HR.out z).addr (by omega)
      first | cases had | subst had
      have HRD := hid (fun v : After W => (HR.out v).rd)
      obtain ⟨⟨gm, gf, gt, ge, ga, gn, gc, gl⟩, hg⟩ : ∃ t, ge l j = t := ⟨_, rfl⟩
      have g0 : ∀ v : After W, v.w.cell? ⟨b, off + j * 5, none⟩ = some (.int .i64 gm) := ge_cell HRD.out (j := j) (hlt) 0 (by decide) (by rw [hg]; rfl) rfl
      have g1 : ∀ v : After W, v.w.cell? ⟨b, off + j * 5 + 1, none⟩ = some (.int .i64 gf) := ge_cell HRD.out (j := j) (hlt) 1 (by decide) (by rw [hg]; rfl) (by omega)
      have g2 : ∀ v : After W, v.w.cell? ⟨b, off + j * 5 + 2, none⟩ = some (.int .i64 gt) := ge_cell HRD.out (j := j) (hlt) 2 (by decide) (by rw [hg]; rfl) (by omega)
      have g3 : ∀ v : After W, v.w.cell? ⟨b, off + j * 5 + 3, none⟩ = some (.int .i64 ge) := ge_cell HRD.out (j := j) (hlt) 3 (by decide) (by rw [hg]; rfl) (by omega)
      have g4 : ∀ v : After W, v.w.cell? ⟨b, off + j * 5 + 4, none⟩ = some (.slice ga gn gc) := ge_cell HRD.out (j := j) (hlt) 4 (by decide) (by rw [hg]; rfl) (by omega)
      have Hg := hid hg; clear hg
      have k0 := g0 z
      have k1 := g1 z
      have k2 := g2 z
      have k3 := g3 z
      have k4 := g4 z
      go_upto_region 14 with (fail)
      have hbx : BoxV W z.w.heap.size [.int .i64 gm, .int .i64 gf, .int .i64 gt, .int .i64 ge, .slice ga gn gc] (z.w.alloc (.cells #[.int .i64 gm, .int .i64 gf, .int .i64 gt, .int .i64 ge, .slice ga gn gc] 38)) := BoxV.new z.w_below #[.int .i64 gm, .int .i64 gf, .int .i64 gt, .int .i64 ge, .slice ga gn gc] 38
      obtain ⟨u9, hu⟩ : ∃ u : After W, u.w = z.w.alloc (.cells #[.int .i64 gm, .int .i64 gf, .int .i64 gt, .int .i64 ge, .slice ga gn gc] 38) := ⟨z.on (b_alloc (Below.refl _ _) _), rfl⟩
      rw [← hu] at hbx
      rw [← hu]
      clear k0 k1 k2 k3 k4 hu
      have k1 := hbx.cell 1 _ rfl
      have k3 := hbx.cell 3 _ rfl
      clear hbx
      by_cases h2 : gf ≤ x
      case neg =>
        have e2 : decide (gf ≤ x) = false := decide_eq_false h2
        have hno := hid (show gHas (Ytbppajenihjfhaa.ge l j) x = false by rw [Hg.out]; unfold gHas; dsimp only; rw [e2]; rfl)
        go_wp2_with fail
        go_roundw
        case rel => exact ⟨j + 1, u9, by omega, by go_num, rfl, hid (fun i hi => by
          by_cases he : i = j
          · subst he; exact hno.out
          · exact hp.out i (by omega))⟩
        case measure => first | (simp [intOf]; done) | (simp [intOf]; omega)
      have e2 : decide (gf ≤ x) = true := decide_eq_true h2
      by_cases h3 : x < ge
      · have e3 : decide (x < ge) = true := decide_eq_true h3
        go_wp2_with fail
        exact bodyPost_ret (v := .bool true) (by simp [results, Try.results5, go_sem]) rfl ⟨rfl, u9.2⟩
      · have e3 : decide (x < ge) = false := decide_eq_false h3
        have hno := hid (show gHas (Ytbppajenihjfhaa.ge l j) x = false by rw [Hg.out]; unfold gHas; dsimp only; rw [e2, e3]; rfl)
        go_wp2_with fail
        go_roundw
        case rel => exact ⟨j + 1, u9, by omega, by go_num, rfl, hid (fun i hi => by
          by_cases he : i = j
          · subst he; exact hno.out
          · exact hp.out i (by omega))⟩
        case measure => first | (simp [intOf]; done) | (simp [intOf]; omega)
end Go.Proofs.Ytbppajenihjfhaa
namespace Go.Proofs.Ytbppajenihjfhaa.Gs5
open Go.ChangeShapes Go.WideShapes Go.ChangeAt Go.RowKit Go.Joins

theorem own : ownKnob Try.prog.godebug = none := by kernel_rfl
theorem laidOut : laidOutB Try.prog = true := by kernel_rfl

set_option maxRecDepth 100000 in
theorem lifted (os : Os) (started : os.Started) (H : Type) (enc : TypeId × Value → H) :
    ReturnsInHanded {} Try.checked os 5 .any (Rows.gesturesDivideSpec.pre6 enc Try.prog Try.f5 Rows.gesturesDivideRow.domain false) (Rows.gesturesDivideSpec.post enc Try.prog Try.f5 false true false false) := by
  refine returnsInHanded_of_change (C := Try.checked) own started (by kernel_rfl) Try.func5
    (ChangeSpec.witness6 (enc := enc) (C := Try.checked) false ⟨#[], #[.int .i64 0, .slice none 0 0, .int .i64 0, .int .i64 0], []⟩ 8 (by kernel_rfl) (by kernel_rfl) (by kernel_rfl) (by kernel_rfl)) ?_
  intro W base args ds gs before hval0 hW hcnd _
  have hval : ∀ (j : Nat) t v, Try.f5.params[j]? = some t → args[j]? = some v → Value.okWide Try.prog W .any base t v := hval0
  have hW' := hW
  obtain ⟨p, q, hA0, hV, rfl, hfz, hnd⟩ := hW
  have hA : DataW.TrodAll enc Try.prog W 0 (fun _ => true) true Try.f5.params.toList args.toList ds p := hA0
  rw [Try.params5] at hA hval
  obtain ⟨v0, vs0, d0, ds0, p0, q0, hargs, rfl, rfl, h0, r0⟩ := trodAll_cons hA
  obtain ⟨v1, vs1, d1, ds1, p1, q1, rfl, rfl, rfl, h1, r1⟩ := trodAll_cons r0
  obtain ⟨v2, vs2, d2, ds2, p2, q2, rfl, rfl, rfl, h2, r2⟩ := trodAll_cons r1
  obtain ⟨v3, vs3, d3, ds3, p3, q3, rfl, rfl, rfl, h3, r3⟩ := trodAll_cons r2
  obtain ⟨rfl, rfl, rfl⟩ := trodAll_nil r3
  obtain rfl : args = #[v0, v1, v2, v3] := by cases args; simp_all
  obtain ⟨rfl, rfl⟩ := trodVars_none hV
  obtain ⟨a0, rfl, rfl, rfl, w0⟩ := open_int Try.underlying3 (hval 0 3 v0 rfl rfl) h0
  have k1 := h1
  have lt1 : ∀ x ∈ p1, x.block < W.heap.size := by obtain ⟨m, hm⟩ := k1; exact DataW.trod_lt m _ _ _ hm
  obtain ⟨xa1, xn1, xc1, rfl⟩ := okWide_slice Try.underlying22 (hval 1 22 v1 rfl rfl)
  obtain ⟨m1, hm1⟩ := h1
  obtain ⟨a1, n1, c1, e1, lc1, mc1, fz1, ⟨l1, ln1, rd1⟩⟩ := open_ges hm1
  cases e1
  have nb1 := Nat.le_trans lc1 (max_len mc1)
  obtain ⟨a2, rfl, rfl, rfl, w2⟩ := open_int Try.underlying3 (hval 2 3 v2 rfl rfl) h2
  obtain ⟨a3, rfl, rfl, rfl, w3⟩ := open_int Try.underlying3 (hval 3 3 v3 rfl rfl) h3
  clear hA0 hval0
  refine (gdSpec_walk a0 (i64_rng w0) a2 a3 l1 xn1 ln1 xa1 xc1 lc1 fz1 (max_len mc1) nb1 W rd1).mono fun e W' ⟨he, bel⟩ => ?_
  subst he
  exact ⟨_, rfl, _, _, _, [], _, [], hW', trodAll_mk1 (shut_bool Try.underlying4 _), (trodAll_cons_mk (shut_int Try.underlying3 w0) (trodAll_cons_mk (Below.trod laidOut (by kernel_rfl) (of_decide_eq_true (by kernel_rfl)) k1 bel lt1) (trodAll_cons_mk (shut_int Try.underlying3 w2) (trodAll_cons_mk (shut_int Try.underlying3 w3) trodAll_mk0)))), rfl, bel.frame _, fun h => by cases h⟩

theorem over : Rows.gesturesDivideRow.holds Try.pinned (OpenSpec.ofChange Rows.gesturesDivideSpec) :=
  OpenClaim.holds_of_wide 5 Try.f5 rfl rfl rfl rfl rfl rfl rfl ⟨rfl, rfl, rfl, rfl, rfl⟩ rfl rfl rfl rfl rfl (by kernel_rfl) Try.func5 (by show joinedFacts Try.prog _ _ _ _ = true; unfold joinedFacts; rw [may0, lift0, make0]; kernel_rfl)
    (of_decide_eq_true (by kernel_rfl)) (by unfold Func.isWrapper; first | (rw [if_pos (by decide +kernel)]; kernel_rfl) | (rw [if_neg (by decide +kernel)]; exact ⟨rfl, rfl⟩))
    (fun os started H enc _ => lifted os started H enc)
end Go.Proofs.Ytbppajenihjfhaa.Gs5
namespace Go.Proofs.Ytbppajenihjfhaa
/-- The statement. -/
theorem gesturesDivide_holds : Rows.GesturesDivideSaid := Gs5.over
end Go.Proofs.Ytbppajenihjfhaa
