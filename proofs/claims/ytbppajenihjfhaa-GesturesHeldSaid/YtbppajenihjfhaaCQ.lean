/- Resolve. -/
import Derived.Test.YtbppajenihjfhaaCP
import Derived.Test.YtbppajenihjfhaaO
import Derived.Test.YtbppajenihjfhaaC4
import Derived.IntWalk
import Derived.WalkSpells
namespace Go.Proofs.Ytbppajenihjfhaa
open Go.RowKit
open Go.Lib (hid)

/-- A slice that holds a list of knots. -/
def KsIs (w : World) (v : Value) (l : List Kn) : Prop := ∃ a c, v = .slice a l.length c ∧ Rd w a (l.flatMap Kn.c) ∧ l.length ≤ c
theorem KsIs.nil (w : World) : KsIs w (.slice none 0 0) [] := ⟨none, 0, rfl, Rd.nil, Nat.le_refl _⟩
theorem KsIs.below {w w' : World} {v : Value} {l : List Kn} (h : KsIs w v l) (hB : Below w.heap.size w w') : KsIs w' v l := by
  obtain ⟨a, c, h1, h2, h3⟩ := h
  exact ⟨a, c, h1, h2.below hB, h3⟩
theorem KsIs.form {w : World} {v : Value} {l : List Kn} {n : Nat} (h : KsIs w v l) (hn : l.length = n) : ∃ a c, v = .slice a n c ∧ Rd w a (l.flatMap Kn.c) ∧ n ≤ c := by
  subst hn
  exact h
theorem fts_len2 (l : List Kn) (nn j : Nat) : (ftsn l nn j).length ≤ j := fts_len l nn j
theorem resL_len (m : List Tp) (l : List Kn) : (resL m l).length ≤ l.length := by
  rw [resL, stayL, List.length_map]
  exact fts_len _ _ _
theorem resE_last {m : List Tp} {l : List Kn} (h1 : chkT m = 0) (h2 : valB 16777216 l = true) (h3 : rsE m l l.length = 0) : resE m l = chkK (resL m l) := by
  unfold resE
  rw [if_neg (fun h => h h1), if_neg (by rw [h2]; decide), if_neg (fun h => h h3)]
theorem BoxV.of_heap {V w : World} {g : Nat} {cur : Array Value} {t : TypeId} (hB : Below V.heap.size V w) (hh : w.heap[g]? = some (.cells cur t (0, 0))) : BoxV V g cur.toList w :=
  ⟨hB, (Array.getElem?_eq_some_iff.1 hh).1, fun i v hi => by rw [cell_of_row w g i cur t (0, 0) hh]; simpa using hi, fun i _ => by simp [World.frozen?, hh]⟩
set_option maxRecDepth 100000 in
set_option maxHeartbeats 4000000 in
theorem kclone_any (m : List Kn) (n : Nat) (hn : m.length = n) (a : Option Addr) (c : Nat) (hf : a = none → n = 0 ∧ c = 0) (hb : n ≤ 100000) (w : World) (hr : Rd w a (m.flatMap Kn.c)) :
    Calls Try.prog 76 #[.slice a n c] w fun e w' => (∃ v, e = .returned v ∧ w'.ownsRow w.heap.size 71 5 v n (m.flatMap Kn.c)) ∧ Below w.heap.size w w' := by
  have HN := hid hn; have HR := hid hr
  clear hn hr
  obtain ⟨i0, hi, hz0, hz1, hz2⟩ := info_parts info71
  have q1 := @Lib.run_eql_slice_nil
  cases a with
  | none =>
    obtain ⟨rfl, rfl⟩ := hf rfl
    go_enter Try.func76, Try.ntmps76
    go_wp2_with fail
    refine bodyPost_ret (v := .slice none 0 0) (by simp [results, Try.results76, go_sem]) rfl ⟨⟨_, rfl, ?_⟩, Below.refl _ _⟩
    rw [List.eq_nil_of_length_eq_zero HN.out]
    exact World.ownsRow_nil _ _ _ _
  | some ad =>
    go_enter Try.func76, Try.ntmps76
    go_wp2_with (at_builtin; refine wpList_append_rd _ rfl (.tmp 5) (.tmp 6) 36 rfl w.heap.size 71 i0 (.agg #[.int .i64 0, .int .i64 0, .int .i64 0, .int .i64 0, .int .i64 0]) 5 40 und36 hi hz0 hz1 hz2 rfl (by decide) _ _ _ rfl (World.ownsRow_made w #[] 0 (Nat.le_refl _) (by unfold maxLen; omega) (by simp)) (some ad) n c (m.flatMap Kn.c) rfl (by rw [flat_len Kn.c 5 Kn.c5, HN.out]) (HR.out.alloc _) (Kn.ones _) (by unfold maxLen; omega) (by omega) (by simp) ?_; intro v' w1 hown' hgrow)
    exact bodyPost_ret (v := v') (by simp [results, Try.results76, go_sem]) rfl ⟨⟨v', rfl, by simpa using hown'⟩, (own_below (World.ownsRow_made w #[] 0 (base := w.heap.size) (size := 5) (Nat.le_refl _) (by unfold maxLen; omega) (by simp)) hgrow (by simp) |> (((Below.refl w.heap.size w).alloc (Nat.le_refl _) _).trans ·))⟩
def RSL (m : List Tp) (l : List Kn) (nn : Nat) (V : World) (g : Nat) (i : Value) (wr : World) : Prop := ∃ (j : Nat) (vs : List Value), j ≤ nn ∧ i = .int .i64 j ∧ BoxV V g vs wr ∧ Hid (vs.take (nn * 5) = (mapTo m l j).flatMap Kn.c) ∧ Hid (rsE m l j = 0)
set_option maxRecDepth 100000 in
set_option maxHeartbeats 4000000 in
theorem Resolve_any (m : List Tp) (mn : Nat) (hmn : m.length = mn) (ma : Option Addr) (mc : Nat) (l : List Kn) (nn : Nat) (hnn : l.length = nn) (a : Option Addr) (c : Nat) (hf : a = none → nn = 0 ∧ c = 0) (w : World) (hm : mn ≤ 9223372036854775807) (hn : nn ≤ 9223372036854775807)
    (hrm : Rd w ma (m.flatMap Tp.c)) (hr : Rd w a (l.flatMap Kn.c)) :
    Calls Try.prog 55 #[.slice ma mn mc, .slice a nn c] w fun e w' => ∃ v, e = .returned (.tuple #[v, .int .i64 (resE m l)]) ∧ KsIs w' v (resV m l) ∧ Below w.heap.size w w' := by
  have HMN := hid hmn; have HMR := hid (after_rd hrm); have HN := hid hnn; have HR := hid (after_rd hr); have HF := hid hf
  clear hmn hrm hnn hr hf
  go_enter Try.func55, Try.ntmps55
  go_wp2_with fail
  refine (met0 (tcheck_any m mn HMN.out ma mc w hm (HMR.out (After.here w)))).mono ?_
  rintro e _ ⟨rfl, u1, rfl⟩
  by_cases ht : chkT m = 0
  case neg =>
    have hk := chkT_no ht
    rw [hk]
    have HE := hid (show resE m l = 90 by unfold resE; rw [if_pos ht, hk])
    clear ht hk
    go_wp2_with fail
    exact bodyPost_ret (v := .tuple #[.slice none 0 0, .int .i64 90]) (by simp [results, Try.results55, go_sem]) rfl ⟨_, by rw [HE.out], by rw [resV_no (by rw [HE.out]; first | decide | assumption)]; exact KsIs.nil _, u1.2⟩
  rw [ht]
  have HT := hid ht; clear ht
  go_wp2_with fail
  refine (met (valid_any l nn HN.out a c 16777216 u1.w hn (HR.out u1))).mono ?_
  rintro e _ ⟨rfl, u2, rfl⟩
  rcases hv : valB 16777216 l with _ | _
  · have HE := hid (show resE m l = 110 by unfold resE; rw [if_neg (fun h => h HT.out), if_pos hv])
    clear hv
    go_wp2_with fail
    exact bodyPost_ret (v := .tuple #[.slice none 0 0, .int .i64 110]) (by simp [results, Try.results55, go_sem]) rfl ⟨_, by rw [HE.out], by rw [resV_no (by rw [HE.out]; first | decide | assumption)]; exact KsIs.nil _, u2.2⟩
  have HV := hid hv; clear hv
  have hn10 := len_K HV.out
  rw [HN.out] at hn10
  go_wp2_with fail
  refine (kclone_any l nn HN.out a c HF.out (by omega) u2.w (HR.out u2)).mono ?_
  rintro e w9 ⟨⟨v8, rfl, ho8⟩, hB9⟩
  obtain ⟨V, hV⟩ : ∃ V : World, V = u2.w := ⟨_, rfl⟩
  have hwV : Below w.heap.size w V := by rw [hV]; exact u2.2
  rw [← hV] at hB9 ho8
  rcases Nat.eq_zero_or_pos nn with rfl | hpos
  · have hl0 := List.eq_nil_of_length_eq_zero HN.out
    have HXL := hid (show l.length = 0 from HN.out)
    have HE0 := hid (show rsE m l l.length = 0 by rw [HN.out]; rfl)
    have HX := hid (show stayL l 0 = resL m l by rw [resL, HN.out]; rfl)
    obtain ⟨a9, c9, rfl, -, -, hR9, -⟩ := own_slice ho8
    have HB0 := hid (b_then hwV hB9); have HR0 := hid hR9
    clear hl0 ho8 hR9 hB9 hV
    go_wp2_with fail
    go_loopw [20] (fun i wr => i = .int .i64 0 ∧ wr = w9) (fun _ _ => 0)
    case atStart => exact ⟨rfl, rfl⟩
    case round =>
      obtain ⟨rfl, rfl⟩ := hrel
      go_wp2_with fail
      refine (staying_any a9 0 c9 wr).mono ?_
      rintro e w9 ⟨rfl, hw9⟩
      have hB9 : Below wr.heap.size wr w9 := by rw [hw9]; exact b_alloc (Below.refl _ _) _
      have hbm : w9.cell? ⟨wr.heap.size, 0, none⟩ = some (.slice a9 0 c9) := by rw [hw9]; exact bn rfl rfl
      have HBM := hid hbm; have HB9 := hid (b_then HB0.out hB9); have HR9 := hid ((HR0.out).below hB9)
      clear hw9 hbm hB9
      go_wp2_with fail
      refine (collect_any (l) 0 HXL.out (by omega) a9 c9 _ w9 HBM.out HR9.out).mono ?_
      rintro e w8 ⟨⟨v8, rfl, ho8⟩, hB8⟩
      rw [HX.out] at ho8
      have HB8 := hid (b_then HB9.out hB8)
      obtain ⟨n8, hn8⟩ : ∃ n, (resL m l).length = n := ⟨_, rfl⟩
      have hlr := resL_len m l
      rw [hn8] at ho8 hlr
      rw [HN.out] at hlr
      obtain ⟨a8, c8, rfl, hc8, hz8, hR8, -⟩ := own_slice ho8
      have HR8 := hid hR8; have HN8 := hid hn8; have HC8 := hid hc8
      have hb8 : n8 ≤ 9223372036854775807 := by omega
      clear ho8 hB8 hn8 hR8 hz8 hc8
      go_wp2_with fail
      refine (kcheck_any (resL m l) n8 HN8.out a8 c8 w8 hb8 HR8.out).mono ?_
      rintro e w7 ⟨rfl, hB7⟩
      have HB7 := hid (b_then HB8.out hB7); have HR7 := hid (HR8.out.below hB7)
      clear hB7
      by_cases hck : chkK (resL m l) = 0
      · rw [hck]
        have HE := hid (show resE m l = 0 by rw [resE_last HT.out HV.out HE0.out]; exact hck)
        clear hck
        go_wp2_with fail
        exact bodyPost_ret (v := .tuple #[.slice a8 n8 c8, .int .i64 0]) (by simp [results, Try.results55, go_sem]) rfl ⟨_, by rw [HE.out], by rw [resV_ok HE.out]; exact ⟨a8, c8, by rw [HN8.out], HR7.out, by rw [HN8.out]; exact HC8.out⟩, HB7.out⟩
      · have hk := chkK_no (fun h => hck (chkK_ok h))
        rw [hk]
        have HE := hid (show resE m l = 110 by rw [resE_last HT.out HV.out HE0.out]; exact hk)
        clear hck hk
        go_wp2_with fail
        exact bodyPost_ret (v := .tuple #[.slice none 0 0, .int .i64 110]) (by simp [results, Try.results55, go_sem]) rfl ⟨_, by rw [HE.out], by rw [resV_no (by rw [HE.out]; first | decide | assumption)]; exact KsIs.nil _, HB7.out⟩
  obtain ⟨va8, vc8, hva8, -, -, hrow0, -⟩ := own_slice ho8
  obtain ⟨hl8, h8⟩ := ho8
  rcases h8 with ⟨hv0, hz⟩ | ⟨g, cap, cur, hv0, hg, hh, hnc, hm8, hs8, ht8⟩
  · omega
  subst hv0
  have HBX := hid (BoxV.of_heap hB9 hh)
  have HT8 := hid ht8
  have hzg : V.heap.size ≤ g := hg
  have hcapn : nn ≤ cap := hnc
  clear hva8 hrow0 hl8 hh hnc hm8 hs8 ht8 hg hV hB9
  go_wp2_with fail
  go_loopw [20] (fun i wr => RSL m l nn V g i wr) (fun i _ => nn - (intOf i).toNat)
  case atStart => exact ⟨0, _, Nat.zero_le _, rfl, HBX.out, HT8.out |> hid, hid rfl⟩
  case round =>
    obtain ⟨j, vs, hj, rfl, hbx, hvs, hes⟩ := hrel
    have HBR := hid hbx
    have hRw := hbx.rd hvs.out
    have HWR := hid (b_then hwV hbx.below)
    have HRW := hid (after_rd hRw)
    clear HBX HT8 hbx hRw
    by_cases hlt : j < nn
    · have hjj : (j : Int) < (nn : Int) := by omega
      have e1 : decide (j < nn) = true := decide_eq_true hlt
      have hjl : j < (mapTo m l j).length := by rw [mapTo_len, HN.out]; exact hlt
      have hkj : kn (mapTo m l j) j = kn l j := by rw [kn_mapTo m l (by rw [HN.out]; omega), if_neg (by omega)]
      obtain ⟨⟨xk, xv, xs, xa, xb⟩, hx⟩ : ∃ t, kn l j = t := ⟨_, rfl⟩
      have c0 : wr.cell? ⟨g, j * 5, none⟩ = some (.int .i64 xk) := kn_cell HRW.out (j := j) hjl 0 (by decide) (by rw [hkj, hx]; rfl) (by omega) (After.here wr)
      have Hx := hid hx; have HKJ := hid hkj
      have hvl : nn * 5 ≤ vs.length := by
        have := congrArg List.length hvs.out
        rw [List.length_take, flat_len Kn.c 5 Kn.c5, mapTo_len, HN.out] at this
        omega
      clear hx hkj
      go_wp2_with fail
      refine (Sample_any m mn HMN.out ma mc xk hm wr (HMR.out (After.to HWR.out))).mono ?_
      rintro e w7 ⟨rfl, hB7⟩
      have HB7 := hid (HBR.out.after hB7)
      have pj := HB7.out.cell (j * 5) _ (List.getElem?_eq_getElem (by omega))
      have pf := HB7.out.froz (j * 5) (by omega)
      have HW7 := hid (b_then hwV HB7.out.below)
      obtain ⟨S, hS⟩ : ∃ S, smV m xk = S := ⟨_, rfl⟩
      rw [hS]
      have HS := hid hS; clear hS c0 hB7
      by_cases he : smE m xk = 0
      · rw [he]
        have HE1 := hid (show rsE m l (j + 1) = 0 by rw [rsE, if_pos hes.out, Hx.out]; exact he)
        clear he
        go_wp2_with fail
        go_roundw
        case rel => exact ⟨j + 1, _, by omega, by go_num, HB7.out.set1 hzg (j * 5) (.int .i64 S), hid (by rw [List.take_set, hvs.out, flat_set5 _ j (mv m (kn l j)) _ hjl (by rw [HKJ.out, Hx.out, mv, HS.out]; rfl)]; rfl), HE1⟩
        case measure => first | (simp [intOf]; done) | (simp [intOf]; omega)
      · have HE1 := hid (show resE m l = smE m xk by
          have h1 : rsE m l (j + 1) = smE m xk := by rw [rsE, if_pos hes.out, Hx.out]
          have h2 : rsE m l l.length = smE m xk := by rw [rsE_up (by rw [h1]; exact he) l.length (by rw [HN.out]; omega), h1]
          unfold resE
          rw [if_neg (fun h => h HT.out), if_neg (by rw [HV.out]; decide), h2, if_pos he])
        have HNE := hid he
        have d1 : (smE m xk != 0) = true := by simpa using he
        obtain ⟨E, hE⟩ : ∃ E, smE m xk = E := ⟨_, rfl⟩
        rw [hE] at d1 HE1 HNE
        rw [hE]
        clear he hE
        go_wp2_with fail
        exact bodyPost_ret (v := .tuple #[.slice none 0 0, .int .i64 E]) (by simp [results, Try.results55, go_sem]) rfl ⟨_, by rw [HE1.out], by rw [resV_no (by rw [HE1.out]; exact HNE.out)]; exact KsIs.nil _, b_set HW7.out (by have := hwV.size; omega) _⟩
    · have e1 : decide (j < nn) = false := decide_eq_false hlt
      obtain rfl : j = nn := by omega
      have HXL := hid (show (mapTo m l j).length = j by rw [mapTo_len, HN.out])
      have HE0 := hid (show rsE m l l.length = 0 by rw [HN.out]; exact hes.out)
      have HX := hid (show stayL (mapTo m l j) j = resL m l by rw [resL, HN.out])
      have HRA := hid (HBR.out.rd hvs.out)
      go_wp2_with fail
      refine (staying_any (some ⟨g, 0, none⟩) j cap wr).mono ?_
      rintro e w9 ⟨rfl, hw9⟩
      have hB9 : Below wr.heap.size wr w9 := by rw [hw9]; exact b_alloc (Below.refl _ _) _
      have hbm : w9.cell? ⟨wr.heap.size, 0, none⟩ = some (.slice (some ⟨g, 0, none⟩) j cap) := by rw [hw9]; exact bn rfl rfl
      have HBM := hid hbm; have HB9 := hid (b_then HWR.out hB9); have HR9 := hid ((HRA.out).below hB9)
      clear hw9 hbm hB9
      go_wp2_with fail
      refine (collect_any (mapTo m l j) j HXL.out (by omega) (some ⟨g, 0, none⟩) cap _ w9 HBM.out HR9.out).mono ?_
      rintro e w8 ⟨⟨v8, rfl, ho8⟩, hB8⟩
      rw [HX.out] at ho8
      have HB8 := hid (b_then HB9.out hB8)
      obtain ⟨n8, hn8⟩ : ∃ n, (resL m l).length = n := ⟨_, rfl⟩
      have hlr := resL_len m l
      rw [hn8] at ho8 hlr
      rw [HN.out] at hlr
      obtain ⟨a8, c8, rfl, hc8, hz8, hR8, -⟩ := own_slice ho8
      have HR8 := hid hR8; have HN8 := hid hn8; have HC8 := hid hc8
      have hb8 : n8 ≤ 9223372036854775807 := by omega
      clear ho8 hB8 hn8 hR8 hz8 hc8
      go_wp2_with fail
      refine (kcheck_any (resL m l) n8 HN8.out a8 c8 w8 hb8 HR8.out).mono ?_
      rintro e w7 ⟨rfl, hB7⟩
      have HB7 := hid (b_then HB8.out hB7); have HR7 := hid (HR8.out.below hB7)
      clear hB7
      by_cases hck : chkK (resL m l) = 0
      · rw [hck]
        have HE := hid (show resE m l = 0 by rw [resE_last HT.out HV.out HE0.out]; exact hck)
        clear hck
        go_wp2_with fail
        exact bodyPost_ret (v := .tuple #[.slice a8 n8 c8, .int .i64 0]) (by simp [results, Try.results55, go_sem]) rfl ⟨_, by rw [HE.out], by rw [resV_ok HE.out]; exact ⟨a8, c8, by rw [HN8.out], HR7.out, by rw [HN8.out]; exact HC8.out⟩, HB7.out⟩
      · have hk := chkK_no (fun h => hck (chkK_ok h))
        rw [hk]
        have HE := hid (show resE m l = 110 by rw [resE_last HT.out HV.out HE0.out]; exact hk)
        clear hck hk
        go_wp2_with fail
        exact bodyPost_ret (v := .tuple #[.slice none 0 0, .int .i64 110]) (by simp [results, Try.results55, go_sem]) rfl ⟨_, by rw [HE.out], by rw [resV_no (by rw [HE.out]; first | decide | assumption)]; exact KsIs.nil _, HB7.out⟩
end Go.Proofs.Ytbppajenihjfhaa
