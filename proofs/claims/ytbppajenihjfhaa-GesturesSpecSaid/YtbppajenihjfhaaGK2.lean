/- Several texts in one. -/
import Derived.Test.YtbppajenihjfhaaGO
import Derived.Test.YtbppajenihjfhaaGK1
import Derived.Test.YtbppajenihjfhaaCS
import Derived.IntWalk
import Derived.Test.YtbppajenihjfhaaCX
import Derived.Test.YtbppajenihjfhaaCW
/- Gestures: Value, and the reference's. -/
namespace Go.Proofs.Ytbppajenihjfhaa
open Go.RowKit
open Go.Lib (hid)

set_option maxRecDepth 100000 in
set_option maxHeartbeats 4000000 in
theorem gValue_any (l : List Ge) (nn : Nat) (hnn : l.length = nn) (a : Option Addr) (c : Nat) (b at_ : Int) (hv : R64 b) (w : World) (hn : nn ≤ 9223372036854775807) (hr : Ges w a l) :
    Calls Try.prog 27 #[.int .i64 b, .slice a nn c, .int .i64 at_] w fun e w' => e = .returned (.tuple #[.int .i64 (vgv b l at_), .int .i64 (chkG l)]) ∧ Below w.heap.size w w' := by
  have HN := hid hnn; have HR := hid (after_ges hr); have HRD := hid (fun v : After w => (HR.out v).rd)
  clear hnn hr
  have HV := hid hv; clear hv
  go_enter Try.func27, Try.ntmps27
  go_wp2_with fail
  refine (met0 (gcheck_any l nn HN.out a c w hn (HR.out (After.here w)))).mono ?_
  rintro e _ ⟨rfl, u1, rfl⟩
  by_cases hc : chkG l = 0
  case neg =>
    have hk := chkG_bad hc
    have HE := hid (vgv_no (b := b) (at_ := at_) hc)
    have HK := hid hk
    rw [hk]
    clear hc hk
    go_wp2_with fail
    exact bodyPost_ret (v := .tuple #[.int .i64 0, .int .i64 120]) (by simp [results, Try.results27, go_sem]) rfl ⟨by rw [HE.out, HK.out], u1.2⟩
  rw [hc]
  have HC := hid hc; clear hc
  go_wp2_with fail
  refine (met (made_any l nn HN.out a c b at_ HV.out u1.w hn (HR.out u1) HC.out)).mono ?_
  rintro e _ ⟨rfl, u2, rfl⟩
  obtain ⟨X, hX⟩ : ∃ X, allV b l at_ = X := ⟨_, rfl⟩
  rw [hX]
  have HX := hid hX
  clear hX
  go_wp2_with fail
  exact bodyPost_ret (v := .tuple #[.int .i64 X, .int .i64 0]) (by simp [results, Try.results27, go_sem]) rfl ⟨by rw [vgv_ok HC.out, HX.out, HC.out], u2.2⟩
set_option maxRecDepth 100000 in
set_option maxHeartbeats 4000000 in
theorem rgValue_any (l : List Ge) (nn : Nat) (hnn : l.length = nn) (a : Option Addr) (c : Nat) (b at_ : Int) (hv : R64 b) (w : World) (hn : nn ≤ 9223372036854775807) (hr : Ges w a l) :
    Calls Try.prog 28 #[.int .i64 b, .slice a nn c, .int .i64 at_] w fun e w' => e = .returned (.tuple #[.int .i64 (vgv b l at_), .int .i64 (chkG l)]) ∧ Below w.heap.size w w' := by
  have HN := hid hnn; have HR := hid (after_ges hr); have HRD := hid (fun v : After w => (HR.out v).rd)
  clear hnn hr
  have HV := hid hv; clear hv
  go_enter Try.func28, Try.ntmps28
  go_wp2_with fail
  refine (met0 (rgcheck_any l nn HN.out a c w hn (HR.out (After.here w)))).mono ?_
  rintro e _ ⟨rfl, u1, rfl⟩
  by_cases hc : chkG l = 0
  case neg =>
    have hk := chkG_bad hc
    have HE := hid (vgv_no (b := b) (at_ := at_) hc)
    have HK := hid hk
    rw [hk]
    clear hc hk
    go_wp2_with fail
    exact bodyPost_ret (v := .tuple #[.int .i64 0, .int .i64 120]) (by simp [results, Try.results28, go_sem]) rfl ⟨by rw [HE.out, HK.out], u1.2⟩
  rw [hc]
  have HC := hid hc; clear hc
  go_wp2_with fail
  refine (met (rAll_any l nn HN.out a c b at_ HV.out u1.w hn (HR.out u1) HC.out)).mono ?_
  rintro e _ ⟨rfl, u2, rfl⟩
  obtain ⟨X, hX⟩ : ∃ X, allV b l at_ = X := ⟨_, rfl⟩
  rw [hX]
  have HX := hid hX
  clear hX
  go_wp2_with fail
  exact bodyPost_ret (v := .tuple #[.int .i64 X, .int .i64 0]) (by simp [results, Try.results28, go_sem]) rfl ⟨by rw [vgv_ok HC.out, HX.out, HC.out], u2.2⟩
end Go.Proofs.Ytbppajenihjfhaa
/- Gestures: Values, and the reference's. -/
namespace Go.Proofs.Ytbppajenihjfhaa
open Go.RowKit
open Go.Lib (hid)

def SVL (b : List Int) (fr : Int) (l : List Ge) (k : Nat) (V : World) (v i : Value) (wr : World) : Prop := ∃ (j : Nat) (z : After V), j ≤ k ∧ i = .int .i64 j ∧ wr = z.w ∧ Hid (z.w.ownsRow V.heap.size 3 1 v j (ivs (vgJ b fr l j)))
set_option maxRecDepth 100000 in
set_option maxHeartbeats 4000000 in
theorem gValues_any (b : List Int) (k : Nat) (hk : b.length = k) (hbr : ∀ i, i < k → R64 (b.getD i 0)) (ba : Option Addr) (bc : Nat) (fr : Int) (hf : R64 fr) (l : List Ge) (nn : Nat) (hnn : l.length = nn) (a : Option Addr) (c : Nat) (w : World) (hrb : Rd w ba (ivs b)) (hn : nn ≤ 9223372036854775807) (hr : Ges w a l) :
    Calls Try.prog 31 #[.slice ba k bc, .int .i64 fr, .slice a nn c] w fun e w' => ∃ v, e = .returned (.tuple #[v, .int .i64 (vgE b l)]) ∧ IntsIs w' v (vgV b fr l) ∧ Below w.heap.size w w' := by
  have HN := hid hnn; have HR := hid (after_ges hr); have HRD := hid (fun v : After w => (HR.out v).rd)
  clear hnn hr
  have HK := hid hk; have HBR := hid hbr; have HRB := hid (after_rd hrb)
  clear hk hbr hrb
  obtain ⟨i0, hi, hz0, hz1, hz2⟩ := info_parts info3
  go_enter Try.func31, Try.ntmps31
  go_wp2_with fail
  refine (met0 (gcheck_any l nn HN.out a c w hn (HR.out (After.here w)))).mono ?_
  rintro e _ ⟨rfl, u1, rfl⟩
  by_cases hc : chkG l = 0
  case neg =>
    have hkk := chkG_bad hc
    rw [hkk]
    have HE := hid (show vgE b l = 120 by unfold vgE; rw [if_pos hc])
    clear hc hkk
    go_wp2_with fail
    exact bodyPost_ret (v := .tuple #[.slice none 0 0, .int .i64 120]) (by simp [results, Try.results31, go_sem]) rfl ⟨_, by rw [HE.out], by rw [vgV_no (by rw [HE.out]; decide)]; exact IntsIs.nil _, u1.2⟩
  rw [hc]
  have HC := hid hc; clear hc
  by_cases h4 : k ≤ 65536
  case neg =>
    have d4 : decide ((65536 : Int) < (k : Int)) = true := decide_eq_true (by omega)
    have HE := hid (show vgE b l = 2 by unfold vgE; rw [if_neg (fun h => h HC.out), if_pos (by rw [HK.out]; omega)])
    go_wp2_with fail
    exact bodyPost_ret (v := .tuple #[.slice none 0 0, .int .i64 2]) (by simp [results, Try.results31, go_sem]) rfl ⟨_, by rw [HE.out], by rw [vgV_no (by rw [HE.out]; decide)]; exact IntsIs.nil _, u1.2⟩
  have d4 : decide ((65536 : Int) < (k : Int)) = false := decide_eq_false (by omega)
  have HE := hid (show vgE b l = 0 by unfold vgE; rw [if_neg (fun h => h HC.out), if_neg (by rw [HK.out]; omega)])
  go_wp2_with fail
  clear d4
  obtain ⟨V, hV⟩ : ∃ V : World, V = u1.w := ⟨_, rfl⟩
  have hwV : Below w.heap.size w V := by rw [hV]; exact u1.2
  have HRV := hid (upg hwV HR.out)
  have HBV := hid (upr hwV HRB.out)
  rw [← hV]
  go_loopw [6, 22] (fun v i wr => SVL b fr l k V v i wr) (fun _ i _ => k - (intOf i).toNat)
  case atStart => exact ⟨0, After.here V, Nat.zero_le _, rfl, rfl, hid (World.ownsRow_nil _ _ _ _)⟩
  case round =>
    clear hV
    obtain ⟨j, z, hj, rfl, rfl, hown⟩ := hrel
    by_cases hlt : j < k
    case neg =>
      have e1 : decide ((j : Int) < (k : Int)) = false := decide_eq_false (by omega)
      have e2 : decide (j < k) = false := decide_eq_false hlt
      obtain rfl : j = k := by omega
      go_wp2_with fail
      exact bodyPost_ret (v := .tuple #[u6, .int .i64 0]) (by simp [results, Try.results31, go_sem]) rfl ⟨_, by rw [HE.out], by rw [vgV_ok HE.out, HK.out]; exact IntsIs.own hown.out (vgJ_len _ _ _ _), b_then hwV z.w_below⟩
    have e1 : decide ((j : Int) < (k : Int)) = true := decide_eq_true (by omega)
    have e2 : decide (j < k) = true := decide_eq_true hlt
    have hjk : (j : Int) < (k : Int) := by omega
    obtain ⟨bb, off, rfl, hbb⟩ := (HBV.out z).addr (by rw [ivs_len, HK.out]; omega)
    obtain ⟨x, hx⟩ : ∃ x, b[j]? = some x := ⟨_, List.getElem?_eq_getElem (by rw [HK.out]; exact hlt)⟩
    have hgd : b.getD j 0 = x := by rw [List.getD_eq_getElem?_getD, hx]; rfl
    have hxr : R64 x := by rw [← hgd]; exact HBR.out j hlt
    have c0 : z.w.cell? ⟨bb, off + j, none⟩ = some (.int .i64 x) := iv_cell HBV.out hx z
    have HXR := hid hxr; have HGD := hid hgd
    clear hx hxr hgd
    obtain ⟨hf1, hf2⟩ := hf
    by_cases hov : fr + (j : Int) ≤ 9223372036854775807
    · obtain ⟨q, hq⟩ : ∃ q, fr + (j : Int) = q := ⟨_, rfl⟩
      have hw : IntKind.i64.wrap q = q := IntWalk.i64_in _ (by omega)
      have d2 : decide (q < fr) = false := decide_eq_false (by omega)
      have HSA := hid (show satA fr j = q by unfold satA; rw [if_pos hov, hq])
      clear hov
      go_wp2_with fail
      clear hq hw d2
      refine (made_any l nn HN.out a c x (q) HXR.out z.w hn (HRV.out z) HC.out).mono ?_
      rintro e w9 ⟨rfl, hB9⟩
      have HO9 := hid (own_after hown.out hB9)
      obtain ⟨z9, rfl⟩ : ∃ y9 : After V, w9 = y9.w := ⟨z.on hB9, rfl⟩
      have hsz := z9.w_below.size
      obtain ⟨X, hX⟩ : ∃ X, allV x l (q) = X := ⟨_, rfl⟩
      rw [hX]
      have HX := hid hX; clear hX hB9
      go_wp2_with (at_builtin; refine wpList_append_rd _ rfl (.tmp 33) (.tmp 38) 30 rfl V.heap.size 3 i0 (.int .i64 0) 1 8 und30 hi hz0 hz1 hz2 rfl (by decide) _ _ _ rfl (own_after HO9.out (b_alloc (Below.refl _ _) _)) (some ⟨z9.w.heap.size, 0, none⟩) 1 1 [.int .i64 X] rfl rfl (rd_new _ _ _ rfl) (by simp [Value.oneCell']) (by unfold maxLen; omega) (by omega) (by first | (simp; done) | (simp; omega)) ?_; intro v' w1 hown' hgrow)
      have HO1 := hid hown'
      obtain ⟨z1, hz1w⟩ : ∃ y9 : After V, y9.w = w1 := ⟨After.to (Below.trans (b_alloc z9.w_below _) (own_below (own_after HO9.out (b_alloc (Below.refl _ _) _)) hgrow (by first | (simp; done) | (simp; omega)))), rfl⟩
      clear hown' hgrow
      go_roundw
      case rel => exact ⟨j + 1, z1, by omega, by go_num, hz1w.symm, hid (by rw [hz1w, vgJ_next, HGD.out, HSA.out, HX.out]; simpa [ivs] using HO1.out)⟩
      case measure => first | (simp [intOf]; done) | (simp [intOf]; omega)
    · obtain ⟨q, hq⟩ : ∃ q, IntKind.i64.wrap (fr + (j : Int)) = q := ⟨_, rfl⟩
      have d2 : decide (q < fr) = true := decide_eq_true (by rw [← hq, IntKind.wrap_i64]; omega)
      have HSA := hid (show satA fr j = 9223372036854775807 by unfold satA; rw [if_neg hov])
      clear hov
      go_wp2_with fail
      clear hq d2
      refine (made_any l nn HN.out a c x (9223372036854775807) HXR.out z.w hn (HRV.out z) HC.out).mono ?_
      rintro e w9 ⟨rfl, hB9⟩
      have HO9 := hid (own_after hown.out hB9)
      obtain ⟨z9, rfl⟩ : ∃ y9 : After V, w9 = y9.w := ⟨z.on hB9, rfl⟩
      have hsz := z9.w_below.size
      obtain ⟨X, hX⟩ : ∃ X, allV x l (9223372036854775807) = X := ⟨_, rfl⟩
      rw [hX]
      have HX := hid hX; clear hX hB9
      go_wp2_with (at_builtin; refine wpList_append_rd _ rfl (.tmp 33) (.tmp 38) 30 rfl V.heap.size 3 i0 (.int .i64 0) 1 8 und30 hi hz0 hz1 hz2 rfl (by decide) _ _ _ rfl (own_after HO9.out (b_alloc (Below.refl _ _) _)) (some ⟨z9.w.heap.size, 0, none⟩) 1 1 [.int .i64 X] rfl rfl (rd_new _ _ _ rfl) (by simp [Value.oneCell']) (by unfold maxLen; omega) (by omega) (by first | (simp; done) | (simp; omega)) ?_; intro v' w1 hown' hgrow)
      have HO1 := hid hown'
      obtain ⟨z1, hz1w⟩ : ∃ y9 : After V, y9.w = w1 := ⟨After.to (Below.trans (b_alloc z9.w_below _) (own_below (own_after HO9.out (b_alloc (Below.refl _ _) _)) hgrow (by first | (simp; done) | (simp; omega)))), rfl⟩
      clear hown' hgrow
      go_roundw
      case rel => exact ⟨j + 1, z1, by omega, by go_num, hz1w.symm, hid (by rw [hz1w, vgJ_next, HGD.out, HSA.out, HX.out]; simpa [ivs] using HO1.out)⟩
      case measure => first | (simp [intOf]; done) | (simp [intOf]; omega)

theorem satA_next_lt {fr : Int} {j : Nat} (h : satA fr j < 9223372036854775807) : satA fr (j + 1) = satA fr j + 1 := by
  unfold satA at *
  by_cases h1 : fr + (j : Int) ≤ 9223372036854775807
  · rw [if_pos h1] at *
    rw [if_pos (by omega)]; omega
  · rw [if_neg h1] at h; omega
theorem satA_next_ge {fr : Int} {j : Nat} (h : 9223372036854775807 ≤ satA fr j) : satA fr (j + 1) = satA fr j := by
  unfold satA at *
  by_cases h1 : fr + (j : Int) ≤ 9223372036854775807
  · rw [if_pos h1] at h ⊢
    rw [if_neg (by omega)]; omega
  · rw [if_neg h1, if_neg (by omega)]
theorem satA_rng {fr : Int} (h : R64 fr) (j : Nat) : R64 (satA fr j) := by
  unfold R64 satA at *
  split <;> omega
theorem satA_zero {fr : Int} (h : R64 fr) : satA fr 0 = fr := by
  unfold R64 at h
  unfold satA
  rw [if_pos (by omega)]; omega
def SVM (b : List Int) (fr : Int) (l : List Ge) (k : Nat) (V : World) (v at_ i : Value) (wr : World) : Prop := ∃ (j : Nat) (z : After V), j ≤ k ∧ i = .int .i64 j ∧ at_ = .int .i64 (satA fr j) ∧ wr = z.w ∧ Hid (z.w.ownsRow V.heap.size 3 1 v j (ivs (vgJ b fr l j)))
set_option maxRecDepth 100000 in
set_option maxHeartbeats 4000000 in
theorem rgValues_any (b : List Int) (k : Nat) (hk : b.length = k) (hbr : ∀ i, i < k → R64 (b.getD i 0)) (ba : Option Addr) (bc : Nat) (fr : Int) (hf : R64 fr) (l : List Ge) (nn : Nat) (hnn : l.length = nn) (a : Option Addr) (c : Nat) (w : World) (hrb : Rd w ba (ivs b)) (hn : nn ≤ 9223372036854775807) (hr : Ges w a l) :
    Calls Try.prog 32 #[.slice ba k bc, .int .i64 fr, .slice a nn c] w fun e w' => ∃ v, e = .returned (.tuple #[v, .int .i64 (vgE b l)]) ∧ IntsIs w' v (vgV b fr l) ∧ Below w.heap.size w w' := by
  have HN := hid hnn; have HR := hid (after_ges hr); have HRD := hid (fun v : After w => (HR.out v).rd)
  clear hnn hr
  have HK := hid hk; have HBR := hid hbr; have HRB := hid (after_rd hrb)
  clear hk hbr hrb
  obtain ⟨i0, hi, hz0, hz1, hz2⟩ := info_parts info3
  go_enter Try.func32, Try.ntmps32
  go_wp2_with fail
  refine (met0 (rgcheck_any l nn HN.out a c w hn (HR.out (After.here w)))).mono ?_
  rintro e _ ⟨rfl, u1, rfl⟩
  by_cases hc : chkG l = 0
  case neg =>
    have hkk := chkG_bad hc
    rw [hkk]
    have HE := hid (show vgE b l = 120 by unfold vgE; rw [if_pos hc])
    clear hc hkk
    go_wp2_with fail
    exact bodyPost_ret (v := .tuple #[.slice none 0 0, .int .i64 120]) (by simp [results, Try.results32, go_sem]) rfl ⟨_, by rw [HE.out], by rw [vgV_no (by rw [HE.out]; decide)]; exact IntsIs.nil _, u1.2⟩
  rw [hc]
  have HC := hid hc; clear hc
  by_cases h4 : k ≤ 65536
  case neg =>
    have d4 : decide ((65536 : Int) < (k : Int)) = true := decide_eq_true (by omega)
    have HE := hid (show vgE b l = 2 by unfold vgE; rw [if_neg (fun h => h HC.out), if_pos (by rw [HK.out]; omega)])
    go_wp2_with fail
    exact bodyPost_ret (v := .tuple #[.slice none 0 0, .int .i64 2]) (by simp [results, Try.results32, go_sem]) rfl ⟨_, by rw [HE.out], by rw [vgV_no (by rw [HE.out]; decide)]; exact IntsIs.nil _, u1.2⟩
  have d4 : decide ((65536 : Int) < (k : Int)) = false := decide_eq_false (by omega)
  have HE := hid (show vgE b l = 0 by unfold vgE; rw [if_neg (fun h => h HC.out), if_neg (by rw [HK.out]; omega)])
  go_wp2_with fail
  clear d4
  obtain ⟨V, hV⟩ : ∃ V : World, V = u1.w := ⟨_, rfl⟩
  have hwV : Below w.heap.size w V := by rw [hV]; exact u1.2
  have HRV := hid (upg hwV HR.out)
  have HBV := hid (upr hwV HRB.out)
  rw [← hV]
  go_loopw [9, 10, 11] (fun v at_ i wr => SVM b fr l k V v at_ i wr) (fun _ _ i _ => k - (intOf i).toNat)
  case atStart => exact ⟨0, After.here V, Nat.zero_le _, rfl, by rw [satA_zero hf], rfl, hid (World.ownsRow_nil _ _ _ _)⟩
  case round =>
    clear hV
    obtain ⟨j, z, hj, rfl, rfl, rfl, hown⟩ := hrel
    by_cases hlt : j < k
    case neg =>
      have e1 : decide ((j : Int) < (k : Int)) = false := decide_eq_false (by omega)
      have e2 : decide (j < k) = false := decide_eq_false hlt
      obtain rfl : j = k := by omega
      go_wp2_with fail
      exact bodyPost_ret (v := .tuple #[u9, .int .i64 0]) (by simp [results, Try.results32, go_sem]) rfl ⟨_, by rw [HE.out], by rw [vgV_ok HE.out, HK.out]; exact IntsIs.own hown.out (vgJ_len _ _ _ _), b_then hwV z.w_below⟩
    have e1 : decide ((j : Int) < (k : Int)) = true := decide_eq_true (by omega)
    have e2 : decide (j < k) = true := decide_eq_true hlt
    have hjk : (j : Int) < (k : Int) := by omega
    obtain ⟨bb, off, rfl, hbb⟩ := (HBV.out z).addr (by rw [ivs_len, HK.out]; omega)
    obtain ⟨x, hx⟩ : ∃ x, b[j]? = some x := ⟨_, List.getElem?_eq_getElem (by rw [HK.out]; exact hlt)⟩
    have hgd : b.getD j 0 = x := by rw [List.getD_eq_getElem?_getD, hx]; rfl
    have hxr : R64 x := by rw [← hgd]; exact HBR.out j hlt
    have c0 : z.w.cell? ⟨bb, off + j, none⟩ = some (.int .i64 x) := iv_cell HBV.out hx z
    have HXR := hid hxr; have HGD := hid hgd
    clear hx hxr hgd
    have hsr := satA_rng hf j
    have hn1 := satA_next_lt (fr := fr) (j := j)
    have hn2 := satA_next_ge (fr := fr) (j := j)
    obtain ⟨q, hq⟩ : ∃ q, satA fr j = q := ⟨_, rfl⟩
    rw [hq] at hsr hn1 hn2 ⊢
    have HSA := hid hq
    obtain ⟨hs1, hs2⟩ := hsr
    clear hq
    go_wp2_with fail
    refine (rAll_any l nn HN.out a c x (q) HXR.out z.w hn (HRV.out z) HC.out).mono ?_
    rintro e w9 ⟨rfl, hB9⟩
    have HO9 := hid (own_after hown.out hB9)
    obtain ⟨z9, rfl⟩ : ∃ y9 : After V, w9 = y9.w := ⟨z.on hB9, rfl⟩
    have hsz := z9.w_below.size
    obtain ⟨X, hX⟩ : ∃ X, allV x l (q) = X := ⟨_, rfl⟩
    rw [hX]
    have HX := hid hX; clear hX hB9
    go_upto_region 12 with (at_builtin; refine wpList_append_rd _ rfl (.tmp 27) (.tmp 35) 30 rfl V.heap.size 3 i0 (.int .i64 0) 1 8 und30 hi hz0 hz1 hz2 rfl (by decide) _ _ _ rfl (own_after HO9.out (b_alloc (Below.refl _ _) _)) (some ⟨z9.w.heap.size, 0, none⟩) 1 1 [.int .i64 X] rfl rfl (rd_new _ _ _ rfl) (by simp [Value.oneCell']) (by unfold maxLen; omega) (by omega) (by first | (simp; done) | (simp; omega)) ?_; intro v' w1 hown' hgrow)
    have HO1 := hid hown'
    obtain ⟨z1, hz1w⟩ : ∃ y9 : After V, y9.w = w1 := ⟨After.to (Below.trans (b_alloc z9.w_below _) (own_below (own_after HO9.out (b_alloc (Below.refl _ _) _)) hgrow (by first | (simp; done) | (simp; omega)))), rfl⟩
    clear hown' hgrow
    by_cases hlast : q < 9223372036854775807
    · obtain ⟨q1, hq1⟩ : ∃ y, q + 1 = y := ⟨_, rfl⟩
      have hw : IntKind.i64.wrap q1 = q1 := IntWalk.i64_in _ (by omega)
      have d2 : decide (q < q1) = true := decide_eq_true (by omega)
      have HN1 := hid ((hn1 hlast).trans hq1)
      clear hn1 hn2 hlast
      go_wp2_with fail
      clear hq1 hw d2
      go_roundw
      case rel => exact ⟨j + 1, z1, by omega, by go_num, by rw [HN1.out], hz1w.symm, hid (by rw [hz1w, vgJ_next, HGD.out, HSA.out, HX.out]; simpa [ivs] using HO1.out)⟩
      case measure => first | (simp [intOf]; done) | (simp [intOf]; omega)
    · have hq2 : q = 9223372036854775807 := by omega
      have HN1 := hid (hn2 (by omega))
      clear hn1 hn2 hlast
      subst hq2
      have hw : IntKind.i64.wrap 9223372036854775808 = -9223372036854775808 := by decide
      go_wp2_with fail
      go_roundw
      case rel => exact ⟨j + 1, z1, by omega, by go_num, by rw [HN1.out], hz1w.symm, hid (by rw [hz1w, vgJ_next, HGD.out, HSA.out, HX.out]; simpa [ivs] using HO1.out)⟩
      case measure => first | (simp [intOf]; done) | (simp [intOf]; omega)
end Go.Proofs.Ytbppajenihjfhaa
/- Gestures: same, constant. -/
namespace Go.Proofs.Ytbppajenihjfhaa
open Go.RowKit
open Go.Lib (hid)

def SML12 (m m2 : List Int) (n : Nat) (w : World) (i : Value) (wr : World) : Prop := ∃ (j : Nat) (z : After w), j ≤ n ∧ i = .int .i64 j ∧ wr = z.w ∧ Hid (∀ x, x < j → m[x]? = m2[x]?)
set_option maxRecDepth 100000 in
set_option maxHeartbeats 4000000 in
theorem gsame_any (m m2 : List Int) (n n2 : Nat) (hn : m.length = n) (hn2 : m2.length = n2) (a a2 : Option Addr) (c c2 : Nat) (hb : n ≤ 9223372036854775807) (w : World) (hr : Rd w a (ivs m)) (hr2 : Rd w a2 (ivs m2)) :
    Calls Try.prog 33 #[.slice a n c, .slice a2 n2 c2] w fun e w' => e = .returned (.bool (decide (m = m2))) ∧ Below w.heap.size w w' := by
  have HN := hid hn; have HN2 := hid hn2; have HR := hid hr; have HR2 := hid hr2
  clear hn hn2 hr hr2
  go_enter Try.func33, Try.ntmps33
  by_cases hl : n = n2
  case neg =>
    have hne : ((n : Int) != (n2 : Int)) = true := by simp; omega
    have hne2 : (n == n2) = false := beq_eq_false_iff_ne.2 hl
    go_wp2_with fail
    exact bodyPost_ret (v := .bool false) (by simp [results, Try.results33, go_sem]) rfl ⟨by rw [decide_eq_false (fun h => hl (by rw [← HN.out, ← HN2.out, h]))], Below.refl _ _⟩
  subst hl
  go_wp2_with fail
  go_loopw [13] (fun i wr => SML12 m m2 n w i wr) (fun i _ => n - (intOf i).toNat)
  case atStart => exact ⟨0, After.here w, by omega, rfl, rfl, hid fun x h => absurd h (by omega)⟩
  case round =>
    obtain ⟨j, z, hj, rfl, rfl, hp⟩ := hrel
    by_cases hlt : j < n
    · have d1 : decide (j < n) = true := decide_eq_true hlt
      have d1' : decide ((j : Int) < (n : Int)) = true := decide_eq_true (by omega)
      have R1 := hid (fun v : After z.w => HR.out.below (b_then z.2 v.2))
      have R2 := hid (fun v : After z.w => HR2.out.below (b_then z.2 v.2))
      obtain ⟨b, off, rfl, hb1⟩ := HR.out.addr (by rw [ivs_len, HN.out]; omega)
      obtain ⟨b2, off2, rfl, hb2⟩ := HR2.out.addr (by rw [ivs_len, HN2.out]; omega)
      obtain ⟨x, hx⟩ : ∃ x, m[j]? = some x := ⟨_, List.getElem?_eq_getElem (by rw [HN.out]; exact hlt)⟩
      obtain ⟨y, hy⟩ : ∃ x, m2[j]? = some x := ⟨_, List.getElem?_eq_getElem (by rw [HN2.out]; exact hlt)⟩
      have c0 := iv_cell R1.out hx
      have c1 := iv_cell R2.out hy
      have HX := hid hx; have HY := hid hy
      clear hx hy
      go_upto_region 6 with fail
      obtain ⟨u, hu⟩ : ∃ u : After z.w, u.w = z.w := ⟨After.here z.w, rfl⟩
      rw [← hu]
      clear hu
      rcases hne : (x != y) with _ | _
      · have hxy := hid (show x = y by simpa using hne)
        refine wp_region_since (by kernel_rfl) (by kernel_rfl) ?_
        repeat (go_big_quiet_step (fail))
        refine wpQuiet_nil ?_
        intro u7
        clear hne
        go_wp2_with fail
        go_roundw
        case rel => exact ⟨j + 1, ⟨u7.w, b_then z.2 u7.2⟩, by omega, by go_num, rfl, hid fun q hq => by rcases Nat.lt_succ_iff_lt_or_eq.1 hq with h | rfl; exact hp.out q h; rw [HX.out, HY.out, hxy.out]⟩
        case measure => first | (simp [intOf]; done) | (simp [intOf]; omega)
      · have hxy := hid (show ¬ x = y by simpa using hne)
        refine wp_region_since (by kernel_rfl) (by kernel_rfl) ?_
        repeat (go_big_quiet_step (fail))
        refine wpQuiet_nil ?_
        intro u7
        go_wp2_with fail
        exact bodyPost_ret (v := .bool false) (by simp [results, Try.results33, go_sem]) rfl ⟨by rw [decide_eq_false (fun h => by have h1 := HX.out; rw [h, HY.out] at h1; exact hxy.out (by cases h1; rfl))], b_then z.2 u7.2⟩
    · have d1 : decide (j < n) = false := decide_eq_false hlt
      have d1' : decide ((j : Int) < (n : Int)) = false := decide_eq_false (by omega)
      go_wp2_with fail
      exact bodyPost_ret (v := .bool true) (by simp [results, Try.results33, go_sem]) rfl ⟨by rw [decide_eq_true (List.ext_getElem? fun i => by
        by_cases hi : i < n
        · exact hp.out i (by omega)
        · rw [List.getElem?_eq_none (by rw [HN.out]; omega), List.getElem?_eq_none (by rw [HN2.out]; omega)])], z.2⟩
set_option maxRecDepth 100000 in
set_option maxHeartbeats 4000000 in
theorem constant_any (m x y e v : Int) (w : World) :
    Calls Try.prog 35 #[.int .i64 m, .int .i64 x, .int .i64 y, .int .i64 e, .int .i64 v] w fun r w' => ∃ a, r = .returned (geC m x y e v a 1 1).v' ∧ (geC m x y e v a 1 1).At w' ∧ Below w.heap.size w w' := by
  go_enter Try.func35, Try.ntmps35
  go_upto_region 1 with (fail)
  obtain ⟨V, hV⟩ : ∃ V, V = w.alloc (.cells #[.int .i64 0, .int .i64 0, .int .i64 0, .int .i64 0, .slice none 0 0] 38) := ⟨_, rfl⟩
  have hb0 : BoxV w w.heap.size [.int .i64 0, .int .i64 0, .int .i64 0, .int .i64 0, .slice none 0 0] V := by rw [hV]; exact BoxV.new (Below.refl _ _) #[.int .i64 0, .int .i64 0, .int .i64 0, .int .i64 0, .slice none 0 0] 38
  have hsV : V.heap.size = w.heap.size + 1 := by rw [hV]; simp
  rw [← hV]
  clear hV
  obtain ⟨B, hB⟩ : ∃ B, w.heap.size = B := ⟨_, rfl⟩
  have hBB : w.heap.size ≤ B := by omega
  rw [hB] at hb0 ⊢
  have c0 := hb0.cell 0 _ rfl
  have c1 := hb0.cell 1 _ rfl
  have c2 := hb0.cell 2 _ rfl
  have c3 := hb0.cell 3 _ rfl
  have c4 := hb0.cell 4 _ rfl
  have f0 := hb0.froz 0 (by simp)
  have f1 := hb0.froz 1 (by simp)
  have f2 := hb0.froz 2 (by simp)
  have f3 := hb0.froz 3 (by simp)
  have f4 := hb0.froz 4 (by simp)
  have hBV : B < V.heap.size := hb0.size
  have hb2 := ((((hb0.set1 hBB 0 (.int .i64 m)).set1 hBB 1 (.int .i64 x)).set1 hBB 2 (.int .i64 y)).set1 hBB 3 (.int .i64 e)).set1 hBB 4 (.slice (some ⟨B + 1, 0, none⟩) 1 1)
  have HB2 := hid hb2
  have HSV := hid hsV
  clear hb0 hb2
  rw [hB] at hsV
  go_wp2_with fail
  generalize hZ : World.setCell _ _ _ = Z
  have hb2 := HB2.out
  rw [hZ] at hb2
  have hzs : Z.heap.size = B + 1 := by rw [← hZ]; simpa using hsV
  have hb3 := hb2.alloc (.cells #[.int .i64 x, .int .i64 v, .int .i64 1, .int .i64 0, .int .i64 0] 71)
  have hrd := rd_new Z #[.int .i64 x, .int .i64 v, .int .i64 1, .int .i64 0, .int .i64 0] 71 (xs := (kn1 x v).flatMap Kn.c) rfl
  rw [hzs] at hrd
  have q0 := hb3.cell 0 _ rfl
  have q1 := hb3.cell 1 _ rfl
  have q2 := hb3.cell 2 _ rfl
  have q3 := hb3.cell 3 _ rfl
  have q4 := hb3.cell 4 _ rfl
  generalize hY : World.alloc _ _ = Y at q0 q1 q2 q3 q4 hrd hb3 ⊢
  exact bodyPost_ret (v := (geC m x y e v (some ⟨B + 1, 0, none⟩) 1 1).v') (by simp [results, Try.results35, go_sem, q0, q1, q2, q3, q4, geC, Ge.v']) rfl ⟨_, rfl, ⟨rfl, by show (1 : Nat) ≤ _; omega, hrd⟩, by rw [hB]; exact hB ▸ hb3.below⟩
end Go.Proofs.Ytbppajenihjfhaa
/- Gestures: the chapter's examples. -/
namespace Go.Proofs.Ytbppajenihjfhaa
open Go.RowKit
open Go.Lib (hid)

theorem constant_ag (m x y e v : Int) (w : World) :
    Calls Try.prog 35 #[.int .i64 m, .int .i64 x, .int .i64 y, .int .i64 e, .int .i64 v] w fun r w' => ∃ a, r = .returned (.agg #[.int .i64 m, .int .i64 x, .int .i64 y, .int .i64 e, .slice a 1 1]) ∧ (geC m x y e v a 1 1).At w' ∧ Below w.heap.size w w' := constant_any m x y e v w
theorem Ges.nil {w : World} : Ges w none [] := ⟨Rd.nil, fun i hi => absurd hi (by simp)⟩
theorem Ges.one {w : World} {a : Option Addr} {g : Ge} (hr : Rd w a (([g] : List Ge).flatMap Ge.cs)) (h : g.At w) : Ges w a [g] := ⟨hr, fun i hi => by
  have : i = 0 := by simp at hi; omega
  subst this; exact h⟩
theorem Ges.two {w : World} {a : Option Addr} {g k : Ge} (hr : Rd w a (([g, k] : List Ge).flatMap Ge.cs)) (h : g.At w) (h2 : k.At w) : Ges w a [g, k] := ⟨hr, fun i hi => by
  have : i = 0 ∨ i = 1 := by simp at hi; omega
  rcases this with rfl | rfl
  · exact h
  · exact h2⟩
section
variable (a1 a2 a3 : Option Addr)
theorem gb1 : geB (geC 1 0 10 10 1 a1 1 1) = true := geB_geC (by omega) (by omega) (by omega) (by omega) (by omega) (by omega) (by omega) (by omega)
theorem gb2 : geB (geC 3 0 10 10 4 a2 1 1) = true := geB_geC (by omega) (by omega) (by omega) (by omega) (by omega) (by omega) (by omega) (by omega)
theorem gb3 : geB (geC 2 10 20 30 7 a3 1 1) = true := geB_geC (by omega) (by omega) (by omega) (by omega) (by omega) (by omega) (by omega) (by omega)
theorem chk_one {g : Ge} (h : geB g = true) : chkG [g] = 0 := chkG_ok ((gesB_iff _).2 ⟨by simp, fun i hi => by
  have : i = 0 := by simp at hi; omega
  subst this; exact h⟩)
theorem chk_two {g k : Ge} (h : geB g = true) (h2 : geB k = true) : chkG [g, k] = 0 := chkG_ok ((gesB_iff _).2 ⟨by simp, fun i hi => by
  have : i = 0 ∨ i = 1 := by simp at hi; omega
  rcases this with rfl | rfl
  · exact h
  · exact h2⟩)
theorem ev1c : chkG [geC 3 0 10 10 4 a2 1 1, geC 1 0 10 10 1 a1 1 1] = 0 := chk_two (gb2 a2) (gb1 a1)
theorem ev2c : chkG [geC 1 0 10 10 1 a1 1 1, geC 3 0 10 10 4 a2 1 1] = 0 := chk_two (gb1 a1) (gb2 a2)
theorem ev3c : chkG [geC 2 10 20 30 7 a3 1 1] = 0 := chk_one (gb3 a3)
theorem ev4c : chkG [geC 2 10 20 30 7 a3 1 1] = 0 := chk_one (gb3 a3)
theorem ev1v : vgv 3 [geC 3 0 10 10 4 a2 1 1, geC 1 0 10 10 1 a1 1 1] 9 = 1 := by
  rw [vgv_ok (ev1c a1 a2)]; unfold allV; simp only [List.foldl_cons, List.foldl_nil]
  rw [madeV_geC (by omega) (by omega) (by omega) (by omega), madeV_geC (by omega) (by omega) (by omega) (by omega)]; rfl
theorem ev2v : vgv 3 [geC 1 0 10 10 1 a1 1 1, geC 3 0 10 10 4 a2 1 1] 9 = 5 := by
  rw [vgv_ok (ev2c a1 a2)]; unfold allV; simp only [List.foldl_cons, List.foldl_nil]
  rw [madeV_geC (by omega) (by omega) (by omega) (by omega), madeV_geC (by omega) (by omega) (by omega) (by omega)]; rfl
theorem ev3v : vgv 3 [geC 2 10 20 30 7 a3 1 1] 29 = 7 := by
  rw [vgv_ok (ev3c a3)]; unfold allV; simp only [List.foldl_cons, List.foldl_nil]
  rw [madeV_geC (by omega) (by omega) (by omega) (by omega)]; rfl
theorem ev4v : vgv 3 [geC 2 10 20 30 7 a3 1 1] 30 = 3 := by
  rw [vgv_ok (ev4c a3)]; unfold allV; simp only [List.foldl_cons, List.foldl_nil]
  rw [madeV_geC (by omega) (by omega) (by omega) (by omega)]; rfl
theorem ev5e : vgE [3, 3] [geC 3 0 10 10 4 a2 1 1] = 0 := by
  unfold vgE; rw [if_neg (fun h => h (chk_one (gb2 a2))), if_neg (by simp)]
theorem ev5v : vgV [3, 3] 9 [geC 3 0 10 10 4 a2 1 1] = [7, 3] := by
  rw [vgV_ok (ev5e a2)]
  have e0 : allV 3 [geC 3 0 10 10 4 a2 1 1] 9 = 7 := by
    unfold allV; simp only [List.foldl_cons, List.foldl_nil]
    rw [madeV_geC (by omega) (by omega) (by omega) (by omega)]; rfl
  have e1 : allV 3 [geC 3 0 10 10 4 a2 1 1] 10 = 3 := by
    unfold allV; simp only [List.foldl_cons, List.foldl_nil]
    rw [madeV_geC (by omega) (by omega) (by omega) (by omega)]; rfl
  have s0 : satA 9 0 = 9 := by decide
  have s1 : satA 9 1 = 10 := by decide
  show [allV 3 _ (satA 9 0), allV 3 _ (satA 9 1)] = _
  rw [s0, s1, e0, e1]
theorem rng33 : ∀ i, i < 2 → R64 (([3, 3] : List Int).getD i 0) := fun i hi => by
  have : i = 0 ∨ i = 1 := by omega
  rcases this with rfl | rfl <;> (show R64 3; unfold R64; omega)
theorem ev6 : chkG [] = 0 := by decide
theorem ev7 : chkG [Ge.zero] = 120 := by decide
end
set_option maxRecDepth 100000 in
set_option maxHeartbeats 4000000 in
theorem sane12_any (w : World) : Calls Try.prog 25 #[] w fun e w' => e = .returned (.bool true) ∧ Below w.heap.size w w' := by
  go_enter Try.func25, Try.ntmps25
  have hwW : Below w.heap.size w w := Below.refl _ _
  skip
  go_wp2_with fail
  refine (constant_ag 1 0 10 10 1 _).mono ?_
  rintro e9 w9 ⟨a1, rfl, h1, hB9⟩
  replace hwW := b_then hwW hB9
  clear hB9
  go_upto_region 2 with (fail)
  replace h1 := h1.below (b_alloc (Below.refl _ _) (.cells #[.int .i64 1, .int .i64 0, .int .i64 10, .int .i64 10, .slice a1 1 1] 38))
  have b1 : BoxV w w9.heap.size [.int .i64 1, .int .i64 0, .int .i64 10, .int .i64 10, .slice a1 1 1] (w9.alloc (.cells #[.int .i64 1, .int .i64 0, .int .i64 10, .int .i64 10, .slice a1 1 1] 38)) := BoxV.new hwW #[.int .i64 1, .int .i64 0, .int .i64 10, .int .i64 10, .slice a1 1 1] 38
  replace hwW := b_alloc hwW (.cells #[.int .i64 1, .int .i64 0, .int .i64 10, .int .i64 10, .slice a1 1 1] 38)
  obtain ⟨B1, hB1⟩ : ∃ y, w9.heap.size = y := ⟨_, rfl⟩
  rw [hB1] at b1 ⊢
  generalize hW9 : w9.alloc (.cells #[.int .i64 1, .int .i64 0, .int .i64 10, .int .i64 10, .slice a1 1 1] 38) = W1 at hwW h1 b1 ⊢
  clear hW9
  clear hB1
  go_wp2_with fail
  refine (constant_ag 3 0 10 10 4 _).mono ?_
  rintro e9 w9 ⟨a2, rfl, h2, hB9⟩
  replace h1 := h1.below hB9
  replace b1 := b1.after hB9
  replace hwW := b_then hwW hB9
  clear hB9
  go_upto_region 3 with (fail)
  replace h1 := h1.below (b_alloc (Below.refl _ _) (.cells #[.int .i64 3, .int .i64 0, .int .i64 10, .int .i64 10, .slice a2 1 1] 38))
  replace b1 := b1.alloc (.cells #[.int .i64 3, .int .i64 0, .int .i64 10, .int .i64 10, .slice a2 1 1] 38)
  replace h2 := h2.below (b_alloc (Below.refl _ _) (.cells #[.int .i64 3, .int .i64 0, .int .i64 10, .int .i64 10, .slice a2 1 1] 38))
  have b2 : BoxV w w9.heap.size [.int .i64 3, .int .i64 0, .int .i64 10, .int .i64 10, .slice a2 1 1] (w9.alloc (.cells #[.int .i64 3, .int .i64 0, .int .i64 10, .int .i64 10, .slice a2 1 1] 38)) := BoxV.new hwW #[.int .i64 3, .int .i64 0, .int .i64 10, .int .i64 10, .slice a2 1 1] 38
  replace hwW := b_alloc hwW (.cells #[.int .i64 3, .int .i64 0, .int .i64 10, .int .i64 10, .slice a2 1 1] 38)
  obtain ⟨B2, hB2⟩ : ∃ y, w9.heap.size = y := ⟨_, rfl⟩
  rw [hB2] at b2 ⊢
  generalize hW9 : w9.alloc (.cells #[.int .i64 3, .int .i64 0, .int .i64 10, .int .i64 10, .slice a2 1 1] 38) = W2 at hwW h1 b1 h2 b2 ⊢
  clear hW9
  clear hB2
  go_wp2_with fail
  refine (constant_ag 2 10 20 30 7 _).mono ?_
  rintro e9 w9 ⟨a3, rfl, h3, hB9⟩
  replace h1 := h1.below hB9
  replace b1 := b1.after hB9
  replace h2 := h2.below hB9
  replace b2 := b2.after hB9
  replace hwW := b_then hwW hB9
  clear hB9
  go_upto_region 4 with (fail)
  replace h1 := h1.below (b_alloc (Below.refl _ _) (.cells #[.int .i64 2, .int .i64 10, .int .i64 20, .int .i64 30, .slice a3 1 1] 38))
  replace b1 := b1.alloc (.cells #[.int .i64 2, .int .i64 10, .int .i64 20, .int .i64 30, .slice a3 1 1] 38)
  replace h2 := h2.below (b_alloc (Below.refl _ _) (.cells #[.int .i64 2, .int .i64 10, .int .i64 20, .int .i64 30, .slice a3 1 1] 38))
  replace b2 := b2.alloc (.cells #[.int .i64 2, .int .i64 10, .int .i64 20, .int .i64 30, .slice a3 1 1] 38)
  replace h3 := h3.below (b_alloc (Below.refl _ _) (.cells #[.int .i64 2, .int .i64 10, .int .i64 20, .int .i64 30, .slice a3 1 1] 38))
  have b3 : BoxV w w9.heap.size [.int .i64 2, .int .i64 10, .int .i64 20, .int .i64 30, .slice a3 1 1] (w9.alloc (.cells #[.int .i64 2, .int .i64 10, .int .i64 20, .int .i64 30, .slice a3 1 1] 38)) := BoxV.new hwW #[.int .i64 2, .int .i64 10, .int .i64 20, .int .i64 30, .slice a3 1 1] 38
  replace hwW := b_alloc hwW (.cells #[.int .i64 2, .int .i64 10, .int .i64 20, .int .i64 30, .slice a3 1 1] 38)
  obtain ⟨B3, hB3⟩ : ∃ y, w9.heap.size = y := ⟨_, rfl⟩
  rw [hB3] at b3 ⊢
  generalize hW9 : w9.alloc (.cells #[.int .i64 2, .int .i64 10, .int .i64 20, .int .i64 30, .slice a3 1 1] 38) = W3 at hwW h1 b1 h2 b2 h3 b3 ⊢
  clear hW9
  clear hB3
  have p20 := b2.cell 0 _ rfl
  have p21 := b2.cell 1 _ rfl
  have p22 := b2.cell 2 _ rfl
  have p23 := b2.cell 3 _ rfl
  have p24 := b2.cell 4 _ rfl
  have p10 := b1.cell 0 _ rfl
  have p11 := b1.cell 1 _ rfl
  have p12 := b1.cell 2 _ rfl
  have p13 := b1.cell 3 _ rfl
  have p14 := b1.cell 4 _ rfl
  go_wp2_with fail
  refine (gValue_any [(geC 3 0 10 10 4 a2 1 1), (geC 1 0 10 10 1 a1 1 1)] 2 rfl (some ⟨W3.heap.size, 0, none⟩) 2 3 9 (by unfold R64; omega) (W3.alloc (.cells #[.int .i64 3, .int .i64 0, .int .i64 10, .int .i64 10, .slice a2 1 1, .int .i64 1, .int .i64 0, .int .i64 10, .int .i64 10, .slice a1 1 1] 38)) (by omega) (Ges.two (rd_new W3 #[.int .i64 3, .int .i64 0, .int .i64 10, .int .i64 10, .slice a2 1 1, .int .i64 1, .int .i64 0, .int .i64 10, .int .i64 10, .slice a1 1 1] 38 rfl) (h2.below (b_alloc (Below.refl _ _) (.cells #[.int .i64 3, .int .i64 0, .int .i64 10, .int .i64 10, .slice a2 1 1, .int .i64 1, .int .i64 0, .int .i64 10, .int .i64 10, .slice a1 1 1] 38))) (h1.below (b_alloc (Below.refl _ _) (.cells #[.int .i64 3, .int .i64 0, .int .i64 10, .int .i64 10, .slice a2 1 1, .int .i64 1, .int .i64 0, .int .i64 10, .int .i64 10, .slice a1 1 1] 38))))).mono ?_
  rintro e9 w9 ⟨rfl, hB9⟩
  rw [ev1v, ev1c]
  have hS : Below W3.heap.size W3 w9 := b_then (b_alloc (Below.refl _ _) _) hB9
  clear p20 p21 p22 p23 p24 p10 p11 p12 p13 p14
  replace h1 := h1.below hS
  replace b1 := b1.after hS
  replace h2 := h2.below hS
  replace b2 := b2.after hS
  replace h3 := h3.below hS
  replace b3 := b3.after hS
  replace hwW := b_then hwW hS
  clear hS hB9
  generalize hW9 : w9 = W4 at hwW h1 b1 h2 b2 h3 b3 ⊢
  clear hW9
  have p10 := b1.cell 0 _ rfl
  have p11 := b1.cell 1 _ rfl
  have p12 := b1.cell 2 _ rfl
  have p13 := b1.cell 3 _ rfl
  have p14 := b1.cell 4 _ rfl
  have p20 := b2.cell 0 _ rfl
  have p21 := b2.cell 1 _ rfl
  have p22 := b2.cell 2 _ rfl
  have p23 := b2.cell 3 _ rfl
  have p24 := b2.cell 4 _ rfl
  go_wp2_with fail
  refine (gValue_any [(geC 1 0 10 10 1 a1 1 1), (geC 3 0 10 10 4 a2 1 1)] 2 rfl (some ⟨W4.heap.size, 0, none⟩) 2 3 9 (by unfold R64; omega) (W4.alloc (.cells #[.int .i64 1, .int .i64 0, .int .i64 10, .int .i64 10, .slice a1 1 1, .int .i64 3, .int .i64 0, .int .i64 10, .int .i64 10, .slice a2 1 1] 38)) (by omega) (Ges.two (rd_new W4 #[.int .i64 1, .int .i64 0, .int .i64 10, .int .i64 10, .slice a1 1 1, .int .i64 3, .int .i64 0, .int .i64 10, .int .i64 10, .slice a2 1 1] 38 rfl) (h1.below (b_alloc (Below.refl _ _) (.cells #[.int .i64 1, .int .i64 0, .int .i64 10, .int .i64 10, .slice a1 1 1, .int .i64 3, .int .i64 0, .int .i64 10, .int .i64 10, .slice a2 1 1] 38))) (h2.below (b_alloc (Below.refl _ _) (.cells #[.int .i64 1, .int .i64 0, .int .i64 10, .int .i64 10, .slice a1 1 1, .int .i64 3, .int .i64 0, .int .i64 10, .int .i64 10, .slice a2 1 1] 38))))).mono ?_
  rintro e9 w9 ⟨rfl, hB9⟩
  rw [ev2v, ev2c]
  have hS : Below W4.heap.size W4 w9 := b_then (b_alloc (Below.refl _ _) _) hB9
  clear p10 p11 p12 p13 p14 p20 p21 p22 p23 p24
  replace h1 := h1.below hS
  replace b1 := b1.after hS
  replace h2 := h2.below hS
  replace b2 := b2.after hS
  replace h3 := h3.below hS
  replace b3 := b3.after hS
  replace hwW := b_then hwW hS
  clear hS hB9
  generalize hW9 : w9 = W5 at hwW h1 b1 h2 b2 h3 b3 ⊢
  clear hW9
  have p30 := b3.cell 0 _ rfl
  have p31 := b3.cell 1 _ rfl
  have p32 := b3.cell 2 _ rfl
  have p33 := b3.cell 3 _ rfl
  have p34 := b3.cell 4 _ rfl
  go_wp2_with fail
  refine (gValue_any [(geC 2 10 20 30 7 a3 1 1)] 1 rfl (some ⟨W5.heap.size, 0, none⟩) 1 3 29 (by unfold R64; omega) (W5.alloc (.cells #[.int .i64 2, .int .i64 10, .int .i64 20, .int .i64 30, .slice a3 1 1] 38)) (by omega) (Ges.one (rd_new W5 #[.int .i64 2, .int .i64 10, .int .i64 20, .int .i64 30, .slice a3 1 1] 38 rfl) (h3.below (b_alloc (Below.refl _ _) (.cells #[.int .i64 2, .int .i64 10, .int .i64 20, .int .i64 30, .slice a3 1 1] 38))))).mono ?_
  rintro e9 w9 ⟨rfl, hB9⟩
  rw [ev3v, ev3c]
  have hS : Below W5.heap.size W5 w9 := b_then (b_alloc (Below.refl _ _) _) hB9
  clear p30 p31 p32 p33 p34
  replace h1 := h1.below hS
  replace b1 := b1.after hS
  replace h2 := h2.below hS
  replace b2 := b2.after hS
  replace h3 := h3.below hS
  replace b3 := b3.after hS
  replace hwW := b_then hwW hS
  clear hS hB9
  generalize hW9 : w9 = W6 at hwW h1 b1 h2 b2 h3 b3 ⊢
  clear hW9
  have p30 := b3.cell 0 _ rfl
  have p31 := b3.cell 1 _ rfl
  have p32 := b3.cell 2 _ rfl
  have p33 := b3.cell 3 _ rfl
  have p34 := b3.cell 4 _ rfl
  go_wp2_with fail
  refine (gValue_any [(geC 2 10 20 30 7 a3 1 1)] 1 rfl (some ⟨W6.heap.size, 0, none⟩) 1 3 30 (by unfold R64; omega) (W6.alloc (.cells #[.int .i64 2, .int .i64 10, .int .i64 20, .int .i64 30, .slice a3 1 1] 38)) (by omega) (Ges.one (rd_new W6 #[.int .i64 2, .int .i64 10, .int .i64 20, .int .i64 30, .slice a3 1 1] 38 rfl) (h3.below (b_alloc (Below.refl _ _) (.cells #[.int .i64 2, .int .i64 10, .int .i64 20, .int .i64 30, .slice a3 1 1] 38))))).mono ?_
  rintro e9 w9 ⟨rfl, hB9⟩
  rw [ev4v, ev4c]
  have hS : Below W6.heap.size W6 w9 := b_then (b_alloc (Below.refl _ _) _) hB9
  clear p30 p31 p32 p33 p34
  replace h1 := h1.below hS
  replace b1 := b1.after hS
  replace h2 := h2.below hS
  replace b2 := b2.after hS
  replace h3 := h3.below hS
  replace b3 := b3.after hS
  replace hwW := b_then hwW hS
  clear hS hB9
  generalize hW9 : w9 = W7 at hwW h1 b1 h2 b2 h3 b3 ⊢
  clear hW9
  have p20 := b2.cell 0 _ rfl
  have p21 := b2.cell 1 _ rfl
  have p22 := b2.cell 2 _ rfl
  have p23 := b2.cell 3 _ rfl
  have p24 := b2.cell 4 _ rfl
  have hsb2 := b2.size
  have s20 := (b2.alloc (.cells #[.int .i64 3, .int .i64 3] 3)).cell 0 _ rfl
  have s21 := (b2.alloc (.cells #[.int .i64 3, .int .i64 3] 3)).cell 1 _ rfl
  have s22 := (b2.alloc (.cells #[.int .i64 3, .int .i64 3] 3)).cell 2 _ rfl
  have s23 := (b2.alloc (.cells #[.int .i64 3, .int .i64 3] 3)).cell 3 _ rfl
  have s24 := (b2.alloc (.cells #[.int .i64 3, .int .i64 3] 3)).cell 4 _ rfl
  go_wp2_with fail
  have hsz1 : (W7.alloc (.cells #[.int .i64 3, .int .i64 3] 3)).heap.size = W7.heap.size + 1 := by simp
  have hr9 := rd_new (W7.alloc (.cells #[.int .i64 3, .int .i64 3] 3)) #[.int .i64 3, .int .i64 0, .int .i64 10, .int .i64 10, .slice a2 1 1] 38 (xs := ([(geC 3 0 10 10 4 a2 1 1)] : List Ge).flatMap Ge.cs) rfl
  rw [hsz1] at hr9
  refine (gValues_any [3, 3] 2 rfl rng33 (some ⟨W7.heap.size, 0, none⟩) 2 9 (by unfold R64; omega) [(geC 3 0 10 10 4 a2 1 1)] 1 rfl (some ⟨W7.heap.size + 1, 0, none⟩) 1 ((W7.alloc (.cells #[.int .i64 3, .int .i64 3] 3)).alloc (.cells #[.int .i64 3, .int .i64 0, .int .i64 10, .int .i64 10, .slice a2 1 1] 38)) ((rd_new W7 #[.int .i64 3, .int .i64 3] 3 rfl).alloc _) (by omega) (Ges.one hr9 ((h2.below (b_alloc (Below.refl _ _) (.cells #[.int .i64 3, .int .i64 3] 3))).below (b_alloc (Below.refl _ _) (.cells #[.int .i64 3, .int .i64 0, .int .i64 10, .int .i64 10, .slice a2 1 1] 38))))).mono ?_
  rintro e9 w9 ⟨v9, rfl, hi9, hB9⟩
  rw [ev5e]
  rw [ev5v] at hi9
  obtain ⟨la, lc, rfl, hR9, -⟩ := hi9.form (n := 2) rfl
  obtain ⟨lb, lo, rfl, hlb⟩ := hR9.addr (by decide)
  have q0 : w9.cell? ⟨lb, lo, none⟩ = some (.int .i64 7) := after_row (after_rd hR9) (j := 0) rfl (After.here w9)
  have q1 : w9.cell? ⟨lb, lo + 1, none⟩ = some (.int .i64 3) := after_row (after_rd hR9) (j := 1) rfl (After.here w9)
  replace hwW := b_then hwW (b_then (b_alloc (b_alloc (Below.refl _ _) (.cells #[.int .i64 3, .int .i64 3] 3)) (.cells #[.int .i64 3, .int .i64 0, .int .i64 10, .int .i64 10, .slice a2 1 1] 38)) hB9)
  clear hr9 hsz1 hi9 hB9
  go_wp2_with fail
  refine (gcheck_any [] 0 rfl none 0 _ (by omega) Ges.nil).mono ?_
  rintro e9 w8 ⟨rfl, hB8⟩
  rw [ev6]
  replace hwW := b_then hwW hB8
  clear hB8 q0 q1
  go_wp2_with fail
  refine (gcheck_any [Ge.zero] 1 rfl (some ⟨w8.heap.size, 0, none⟩) 1 _ (by omega) (Ges.one (rd_new w8 #[.int .i64 0, .int .i64 0, .int .i64 0, .int .i64 0, .slice none 0 0] 38 rfl) ⟨rfl, Nat.zero_le _, Rd.nil⟩)).mono ?_
  rintro e9 w7 ⟨rfl, hB7⟩
  rw [ev7]
  replace hwW := b_then hwW (b_then (b_alloc (Below.refl _ _) _) hB7)
  go_wp2_with fail
  exact bodyPost_ret (v := .bool true) (by simp [results, Try.results25, go_sem]) rfl ⟨rfl, hwW⟩
end Go.Proofs.Ytbppajenihjfhaa
/- The laws' arguments, opened: gestures. -/
namespace Go.Proofs.Ytbppajenihjfhaa
open Go.RowKit Go.ChangeShapes Go.WideShapes Go.ChangeAt Go.Joins Go.Deep
open Go.Lib (hid)

theorem rows_rdP {α : Type} {P : α → Prop} {w : World} {a : Addr} {n k : Nat} (hk0 : 0 < k) (c : α → List Value) (hk : ∀ x, (c x).length = k)
    (h : ∀ i, i < n → ∃ x : α, P x ∧ ∀ j, j < k → w.cell? (a.add (i * k + j)) = (c x)[j]?) : ∃ xs : List α, xs.length = n ∧ (∀ x ∈ xs, P x) ∧ Rd w (some a) (xs.flatMap c) := by
  obtain ⟨xs, hl, hr⟩ := rows_rd (α := {x : α // P x}) hk0 (fun x => c x.1) (fun x => hk x.1) (fun i hi => by
    obtain ⟨x, hp, hx⟩ := h i hi
    exact ⟨⟨x, hp⟩, hx⟩)
  refine ⟨xs.map Subtype.val, by rw [List.length_map, hl], fun x hx => ?_, ?_⟩
  · obtain ⟨y, _, rfl⟩ := List.mem_map.1 hx
    exact y.2
  · rw [List.flatMap_map]; exact hr
section
variable {H : Type} {enc : TypeId × Value → H} {w : World} {base : Nat} {spare : Nat → Bool} {held : Bool} {fuel : Nat} {v : Value} {y : DataW H × List MemPlace}

theorem open_gec {cs : List Value} (h : DataW.trod enc Try.prog w base spare held fuel 38 cs = some y) (hl : cs.length = 5) : ∃ p : Ge, cs = p.cs ∧ p.At w := by
  match cs, hl with
  | [c0, c1, c2, c3, c4], _ =>
    obtain ⟨xs, n, _, hy, _, hyl, hf⟩ := DataW.trod_struct Try.underlying38 h
    have k3 : Try.prog.cellsOf 3 = 1 := by kernel_rfl
    have k36 : Try.prog.cellsOf 36 = 1 := by kernel_rfl
    match xs, hyl with
    | [y0, y1, y2, y3, y4], _ =>
      have h0 : DataW.trod enc Try.prog w base spare held n 3 [c0] = some y0 := by simpa [k3, k36] using hf 0 _ rfl
      have h1 : DataW.trod enc Try.prog w base spare held n 3 [c1] = some y1 := by simpa [k3, k36] using hf 1 _ rfl
      have h2 : DataW.trod enc Try.prog w base spare held n 3 [c2] = some y2 := by simpa [k3, k36] using hf 2 _ rfl
      have h3 : DataW.trod enc Try.prog w base spare held n 3 [c3] = some y3 := by simpa [k3, k36] using hf 3 _ rfl
      have h4 : DataW.trod enc Try.prog w base spare held n 36 [c4] = some y4 := by simpa [k3, k36] using hf 4 _ rfl
      obtain ⟨a0, e0, _, _⟩ := DataW.trod_int Try.underlying3 h0
      obtain ⟨a1, e1, _, _⟩ := DataW.trod_int Try.underlying3 h1
      obtain ⟨a2, e2, _, _⟩ := DataW.trod_int Try.underlying3 h2
      obtain ⟨a3, e3, _, _⟩ := DataW.trod_int Try.underlying3 h3
      obtain ⟨ga, gn, gc, e4, lc, mc, _, ⟨m, ml, mr⟩⟩ := open_kns h4
      simp at e0 e1 e2 e3
      exact ⟨⟨a0, a1, a2, a3, ga, gn, gc, m⟩, by rw [e0, e1, e2, e3, e4]; rfl, ⟨ml, Nat.le_trans lc (max_len mc), mr⟩⟩
theorem open_ges (h : DataW.trod enc Try.prog w base spare held fuel 22 [v] = some y) : ∃ a n c, v = .slice a n c ∧ n ≤ c ∧ c ≤ maxLen ∧ (a = none → n = 0 ∧ c = 0) ∧ (∃ m : List Ge, m.length = n ∧ Ges w a m) := by
  rcases open_slice Try.underlying22 h with ⟨hc, _⟩ | ⟨a, len, cap, m, n, D, Pl, hcs, hb, hl, hm, hmm, hx, hi⟩
  · simp only [List.cons.injEq, and_true] at hc
    exact ⟨none, 0, 0, hc, Nat.le_refl _, Nat.zero_le _, fun _ => ⟨rfl, rfl⟩, ⟨[], rfl, ⟨.inl rfl, fun i hi => absurd hi (by simp)⟩⟩⟩
  · simp only [List.cons.injEq, and_true] at hcs
    refine ⟨some a, len, cap, hcs, hl, hm, fun h => (by cases h), ?_⟩
    have hC : Try.prog.cellsOf 38 = 5 := by kernel_rfl
    have hcell : ∀ i, i < len → ∃ p : Ge, p.At w ∧ ∀ j, j < 5 → w.cell? (a.add (i * 5 + j)) = (Ge.cs p)[j]? := fun i hil => by
      obtain ⟨cs', hc, ht'⟩ := hi i (by split at hmm <;> omega)
      rw [hC] at hc
      obtain ⟨_, hcl, hat⟩ := World.cells?_some hc
      obtain ⟨p, rfl, hp⟩ := open_gec ht' hcl
      exact ⟨p, hp, fun j hj => by rw [← Go.Deep.add_add]; exact hat j hj⟩
    obtain ⟨xs, hl2, hp, hr⟩ := rows_rdP (by decide) Ge.cs (fun _ => rfl) hcell
    exact ⟨xs, hl2, hr, fun i hi => hp _ (ge_mem hi)⟩
set_option maxRecDepth 100000 in
theorem open_gev {r : Reach} {b0 : Nat} {d : DataW H} {q : List MemPlace} (hv : Value.okWide Try.prog w r b0 38 v) (h : DataW.Trod enc Try.prog w base spare held 38 v d q) :
    ∃ p : Ge, v = p.v' ∧ p.At w := by
  obtain ⟨cs, rfl, hsz⟩ := okWide_struct Try.underlying38 hv
  obtain ⟨f, hf⟩ := h
  have hC : Try.prog.cellsOf 38 = 5 := by kernel_rfl
  obtain ⟨p, hp, ha⟩ := open_gec (cs := cs.toList) (by simpa [Value.cells] using hf) (by rw [Array.length_toList]; exact hsz.trans hC)
  exact ⟨p, by rw [show cs = p.cs.toArray by rw [← hp]]; rfl, ha⟩
end
end Go.Proofs.Ytbppajenihjfhaa
/- The laws' arguments, opened: ranges. -/
namespace Go.Proofs.Ytbppajenihjfhaa
open Go.RowKit Go.ChangeShapes Go.WideShapes Go.ChangeAt Go.Joins Go.Deep
open Go.Lib (hid)

theorem i64_rng {n : Int} (h : (Lit.int .i64 n).wf = true) : R64 n := by
  unfold R64
  simp [Lit.wf, IntKind.min, IntKind.max, IntKind.bits, IntKind.signed] at h; omega
theorem gu16_rng {n : Int} (h : (Lit.int .u16 n).wf = true) : 0 ≤ n ∧ n ≤ 65535 := by
  simp [Lit.wf, IntKind.min, IntKind.max, IntKind.bits, IntKind.signed] at h; omega
theorem gu32_rng {n : Int} (h : (Lit.int .u32 n).wf = true) : 0 ≤ n ∧ n ≤ 4294967295 := by
  simp [Lit.wf, IntKind.min, IntKind.max, IntKind.bits, IntKind.signed] at h; omega
section
variable {H : Type} {enc : TypeId × Value → H} {w : World} {base : Nat} {spare : Nat → Bool} {held : Bool} {fuel : Nat} {v : Value} {y : DataW H × List MemPlace}
theorem open_ints3 (h : DataW.trod enc Try.prog w base spare held fuel 30 [v] = some y) : ∃ a n c, v = .slice a n c ∧ n ≤ c ∧ c ≤ maxLen ∧ (a = none → n = 0 ∧ c = 0) ∧ (∃ m : List Int, m.length = n ∧ Rd w a (ivs m) ∧ ∀ i, i < n → R64 (m.getD i 0)) := by
  rcases open_slice Try.underlying30 h with ⟨hc, _⟩ | ⟨a, len, cap, m, n, D, Pl, hcs, hb, hl, hm, hmm, hx, hi⟩
  · simp only [List.cons.injEq, and_true] at hc
    exact ⟨none, 0, 0, hc, Nat.le_refl _, Nat.zero_le _, fun _ => ⟨rfl, rfl⟩, ⟨[], rfl, .inl rfl, fun i hi => absurd hi (by omega)⟩⟩
  · simp only [List.cons.injEq, and_true] at hcs
    refine ⟨some a, len, cap, hcs, hl, hm, fun h => (by cases h), ?_⟩
    have hC : Try.prog.cellsOf 3 = 1 := by kernel_rfl
    have hcell : ∀ i, i < len → ∃ p : Int, R64 p ∧ ∀ j, j < 1 → w.cell? (a.add (i * 1 + j)) = ([Value.int .i64 p] : List Value)[j]? := fun i hil => by
      obtain ⟨cs', hc, ht'⟩ := hi i (by split at hmm <;> omega)
      rw [hC] at hc
      obtain ⟨_, hcl, hat⟩ := World.cells?_some hc
      match cs', hcl with
      | [c0], _ =>
        obtain ⟨a0, e0, _, hw⟩ := DataW.trod_int Try.underlying3 ht'
        simp at e0
        subst e0
        exact ⟨a0, i64_rng hw, fun j hj => by rw [← Go.Deep.add_add]; exact hat j hj⟩
    obtain ⟨xs, hxl, hp, hr⟩ := rows_rdP (α := Int) (by decide) (fun p => [Value.int .i64 p]) (fun _ => rfl) hcell
    refine ⟨xs, hxl, by rw [ivs_flat]; exact hr, fun i hi => ?_⟩
    have hlt : i < xs.length := by omega
    rw [List.getD_eq_getElem?_getD, List.getElem?_eq_getElem hlt]
    exact hp _ (List.getElem_mem hlt)
end
end Go.Proofs.Ytbppajenihjfhaa
