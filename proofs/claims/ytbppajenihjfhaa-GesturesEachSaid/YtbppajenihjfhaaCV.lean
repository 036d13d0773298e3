/- Values, and the reference's. -/
import Derived.Test.YtbppajenihjfhaaCB
import Derived.Deep.OwnRows
namespace Go.Proofs.Ytbppajenihjfhaa
open Go.RowKit
open Go.Lib (hid)

/-- A list of numbers as cells. -/
def ivs (l : List Int) : List Value := l.map (Value.int .i64)
theorem ivs_len (l : List Int) : (ivs l).length = l.length := List.length_map ..
theorem ivs_one (l : List Int) : ∀ u ∈ ivs l, u.oneCell' = true := by
  intro u hu
  obtain ⟨x, _, rfl⟩ := List.mem_map.1 hu
  rfl
theorem ivs_get {l : List Int} {i : Nat} (h : i < l.length) : (ivs l)[i]? = some (.int .i64 l[i]) := by simp [ivs, h]
/-- A slice that holds a list of numbers. -/
def IntsIs (w : World) (v : Value) (l : List Int) : Prop := ∃ a c, v = .slice a l.length c ∧ Rd w a (ivs l) ∧ l.length ≤ c
theorem IntsIs.nil (w : World) : IntsIs w (.slice none 0 0) [] := ⟨none, 0, rfl, Rd.nil, Nat.le_refl _⟩
theorem IntsIs.below {w w' : World} {v : Value} {l : List Int} (h : IntsIs w v l) (hB : Below w.heap.size w w') : IntsIs w' v l := by
  obtain ⟨a, c, h1, h2, h3⟩ := h
  exact ⟨a, c, h1, h2.below hB, h3⟩
theorem IntsIs.form {w : World} {v : Value} {l : List Int} {n : Nat} (h : IntsIs w v l) (hn : l.length = n) : ∃ a c, v = .slice a n c ∧ Rd w a (ivs l) ∧ n ≤ c := by
  subst hn
  exact h
theorem IntsIs.own {w : World} {B n : Nat} {v : Value} {l : List Int} (h : w.ownsRow B 3 1 v n (ivs l)) (hn : l.length = n) : IntsIs w v l := by
  obtain ⟨a, c, hv, hc, _, hr, _⟩ := own_slice h
  subst hn
  exact ⟨a, c, hv, hr, hc⟩
/-- What Values answers. -/
def vsE (l : List Kn) (fr n : Int) : Int := if ¬ chkK l = 0 then 110 else if fr < -1099511627776 ∨ 1099511627776 < fr ∨ n < 0 then 1 else if 65536 < n then 2 else 0
def vsL (l : List Kn) (fr : Int) (k : Nat) : List Int := (List.range k).map fun (i : Nat) => ofK l (fr + (i : Int))
def vsV (l : List Kn) (fr n : Int) : List Int := if vsE l fr n = 0 then vsL l fr n.toNat else []
theorem vsV_no {l : List Kn} {fr n : Int} (h : ¬ vsE l fr n = 0) : vsV l fr n = [] := if_neg h
theorem vsV_ok {l : List Kn} {fr : Int} {k : Nat} (h : vsE l fr k = 0) : vsV l fr k = vsL l fr k := if_pos h
theorem vsL_next (l : List Kn) (fr : Int) (k : Nat) : vsL l fr (k + 1) = vsL l fr k ++ [ofK l (fr + (k : Int))] := by simp [vsL, List.range_succ]
theorem vsL_len (l : List Kn) (fr : Int) (k : Nat) : (vsL l fr k).length = k := by simp [vsL]
theorem take_set {α : Type} {l : List α} {j : Nat} (h : j < l.length) (x : α) : (l.set j x).take (j + 1) = l.take j ++ [x] := by
  rw [List.take_succ_eq_append_getElem (by simpa using h), List.getElem_set_self, List.take_set_of_le (Nat.le_refl _)]
theorem und30 : Try.prog.underlying 30 = some (.slice 3) := by kernel_rfl
theorem info3 : (Try.prog.info? 3).map (fun i => (i.zero, i.size, i.bytes)) = some (some (.int .i64 0), 1, 8) := by kernel_rfl
theorem BoxV.rd {V w : World} {b : Nat} {vs xs : List Value} (h : BoxV V b vs w) {n : Nat} (hx : vs.take n = xs) : Rd w (some ⟨b, 0, none⟩) xs :=
  .inr ⟨b, 0, rfl, h.size, fun j u hj => by
    rw [Nat.zero_add]
    refine h.cell j u ?_
    rw [← hx, List.getElem?_take] at hj
    split at hj
    · exact hj
    · cases hj⟩
def VLR (l : List Kn) (fr : Int) (k : Nat) (V : World) (g : Nat) (i : Value) (wr : World) : Prop := ∃ (j : Nat) (vs : List Value), j ≤ k ∧ i = .int .i64 j ∧ BoxV V g vs wr ∧ vs.length = k ∧ Hid (vs.take j = ivs (vsL l fr j))
set_option maxRecDepth 100000 in
set_option maxHeartbeats 4000000 in
theorem Values_any (l : List Kn) (nn : Nat) (hnn : l.length = nn) (a : Option Addr) (c : Nat) (fr n : Int) (w : World) (hn : nn ≤ 9223372036854775807) (hr : Rd w a (l.flatMap Kn.c)) :
    Calls Try.prog 52 #[.slice a nn c, .int .i64 fr, .int .i64 n] w fun e w' => ∃ v, e = .returned (.tuple #[v, .int .i64 (vsE l fr n)]) ∧ IntsIs w' v (vsV l fr n) ∧ Below w.heap.size w w' := by
  have HR := hid (after_rd hr); have HN := hid hnn
  clear hr hnn
  go_enter Try.func52, Try.ntmps52
  go_wp2_with fail
  refine (met0 (kcheck_any l nn HN.out a c w hn (HR.out (After.here w)))).mono ?_
  rintro e _ ⟨rfl, u1, rfl⟩
  by_cases hc : chkK l = 0
  case neg =>
    have hk := chkK_no (fun h => hc (chkK_ok h))
    rw [hk]
    have HE := hid (show vsE l fr n = 110 by unfold vsE; rw [if_pos hc])
    clear hc hk
    go_wp2_with fail
    exact bodyPost_ret (v := .tuple #[.slice none 0 0, .int .i64 110]) (by simp [results, Try.results52, go_sem]) rfl ⟨_, by rw [HE.out], by rw [vsV_no (by rw [HE.out]; decide)]; exact IntsIs.nil _, u1.2⟩
  rw [hc]
  have HC := hid hc; clear hc
  rcases h1 : decide (fr < -1099511627776) with _ | _
  case true =>
    have HE := hid (show vsE l fr n = 1 by unfold vsE; rw [if_neg (fun h => h HC.out), if_pos (.inl (by simpa using h1))])
    go_wp2_with fail
    exact bodyPost_ret (v := .tuple #[.slice none 0 0, .int .i64 1]) (by simp [results, Try.results52, go_sem]) rfl ⟨_, by rw [HE.out], by rw [vsV_no (by rw [HE.out]; decide)]; exact IntsIs.nil _, u1.2⟩
  rcases h2 : decide (1099511627776 < fr) with _ | _
  case true =>
    have HE := hid (show vsE l fr n = 1 by unfold vsE; rw [if_neg (fun h => h HC.out), if_pos (.inr (.inl (by simpa using h2)))])
    go_wp2_with fail
    exact bodyPost_ret (v := .tuple #[.slice none 0 0, .int .i64 1]) (by simp [results, Try.results52, go_sem]) rfl ⟨_, by rw [HE.out], by rw [vsV_no (by rw [HE.out]; decide)]; exact IntsIs.nil _, u1.2⟩
  rcases h3 : decide (n < 0) with _ | _
  case true =>
    have HE := hid (show vsE l fr n = 1 by unfold vsE; rw [if_neg (fun h => h HC.out), if_pos (.inr (.inr (by simpa using h3)))])
    go_wp2_with fail
    exact bodyPost_ret (v := .tuple #[.slice none 0 0, .int .i64 1]) (by simp [results, Try.results52, go_sem]) rfl ⟨_, by rw [HE.out], by rw [vsV_no (by rw [HE.out]; decide)]; exact IntsIs.nil _, u1.2⟩
  have hr1 : -1099511627776 ≤ fr := by simpa using h1
  have hr2 : fr ≤ 1099511627776 := by simpa using h2
  have hr3 : 0 ≤ n := by simpa using h3
  rcases h4 : decide (65536 < n) with _ | _
  case true =>
    have HE := hid (show vsE l fr n = 2 by unfold vsE; rw [if_neg (fun h => h HC.out), if_neg (by omega), if_pos (by simpa using h4)])
    go_wp2_with fail
    exact bodyPost_ret (v := .tuple #[.slice none 0 0, .int .i64 2]) (by simp [results, Try.results52, go_sem]) rfl ⟨_, by rw [HE.out], by rw [vsV_no (by rw [HE.out]; decide)]; exact IntsIs.nil _, u1.2⟩
  have hr4 : n ≤ 65536 := by simpa using h4
  have HE := hid (show vsE l fr n = 0 by unfold vsE; rw [if_neg (fun h => h HC.out), if_neg (by omega), if_neg (by omega)])
  obtain ⟨k, rfl⟩ : ∃ k : Nat, n = (k : Int) := ⟨n.toNat, by omega⟩
  have hk : k ≤ 65536 := by omega
  clear h1 h2 h3 h4 hr3 hr4
  have d1 : decide (fr < -1099511627776) = false := decide_eq_false (by omega)
  have d2 : decide (1099511627776 < fr) = false := decide_eq_false (by omega)
  have d3 : decide (65536 < (k : Int)) = false := decide_eq_false (by omega)
  have d4 : decide ((k : Int) < 0) = false := decide_eq_false (by omega)
  have hmk := run_make_row' (P := Try.prog) 30 3 (.int .i64 0) 8 und30 info3 rfl .i64 .i64 k (by omega) (by omega)
  go_wp2_with fail
  refine (shapes_any u1.w).mono ?_
  rintro e w9 ⟨rfl, hs, hB9⟩
  obtain ⟨V, hV⟩ : ∃ V : World, V = w9 := ⟨_, rfl⟩
  have hwV : Below w.heap.size w V := by rw [hV]; exact b_then u1.2 hB9
  rw [← hV] at hs
  have HS := hid (fun v : After V => hs.below v.2)
  rw [← hV]
  generalize u1.w.heap.size = bs at HS hs ⊢
  clear hB9 hV hs
  go_wp2_with fail
  have hbx := BoxV.new (Below.refl V.heap.size V) (madeCells #[.int .i64 0] k) 3
  have hml : (madeCells #[Value.int .i64 0] k).toList.length = k := by rw [Array.length_toList]; exact size_madeCells _ _
  obtain ⟨g, hg⟩ : ∃ g, V.heap.size = g := ⟨_, rfl⟩
  have hzg : V.heap.size ≤ g := by omega
  rw [hg] at hbx
  have HBX := hid hbx; have HML := hid hml
  simp only [hg]
  clear hbx hml hmk hg
  go_loopw [33] (fun i wr => VLR l fr k V g i wr) (fun i _ => k - (intOf i).toNat)
  case atStart => exact ⟨0, _, Nat.zero_le _, rfl, HBX.out, HML.out, hid (by simp [ivs, vsL])⟩
  case round =>
    obtain ⟨j, vs, hj, rfl, hbx, hvl, htk⟩ := hrel
    clear HBX HML
    have HBR := hid hbx; have HVL := hid hvl
    clear hbx hvl
    by_cases hlt : j < k
    · have e1 : decide ((j : Int) < (k : Int)) = true := decide_eq_true (by omega)
      have e2 : decide (j < k) = true := decide_eq_true hlt
      have hjk : (j : Int) < (k : Int) := by omega
      go_wp2_with fail
      refine (value_any l nn HN.out a c (fr + (j : Int)) bs wr (chkK_good HC.out) (HR.out (After.to (b_then hwV HBR.out.below))) (HS.out (After.to HBR.out.below))).mono ?_
      rintro e w9 ⟨rfl, hB9⟩
      have HBX9 := hid (HBR.out.after hB9)
      have pj := HBX9.out.cell j _ (List.getElem?_eq_getElem (by rw [HVL.out]; exact hlt))
      have pf := HBX9.out.froz j (by rw [HVL.out]; exact hlt)
      obtain ⟨X, hX⟩ : ∃ X, ofK l (fr + (j : Int)) = X := ⟨_, rfl⟩
      rw [hX]
      have HX := hid hX; clear hX
      go_wp2_with fail
      go_roundw
      case rel => exact ⟨j + 1, _, by omega, by go_num, HBX9.out.set1 hzg j (.int .i64 X), by rw [List.length_set, HVL.out], hid (by rw [take_set (by rw [HVL.out]; exact hlt), htk.out, vsL_next, HX.out]; simp [ivs])⟩
      case measure => first | (simp [intOf]; done) | (simp [intOf]; omega)
    · have e1 : decide ((j : Int) < (k : Int)) = false := decide_eq_false (by omega)
      have e2 : decide (j < k) = false := decide_eq_false hlt
      obtain rfl : j = k := by omega
      go_wp2_with fail
      exact bodyPost_ret (v := .tuple #[.slice (some ⟨g, 0, none⟩) j j, .int .i64 0]) (by simp [results, Try.results52, go_sem]) rfl ⟨_, by rw [HE.out], by rw [vsV_ok HE.out]; exact ⟨_, j, by rw [vsL_len], HBR.out.rd htk.out, by rw [vsL_len]; exact Nat.le_refl _⟩, b_then hwV HBR.out.below⟩
def RVL (l : List Kn) (fr : Int) (k : Nat) (V : World) (v i : Value) (wr : World) : Prop := ∃ (j : Nat) (z : After V), j ≤ k ∧ i = .int .i64 j ∧ wr = z.w ∧ Hid (z.w.ownsRow V.heap.size 3 1 v j (ivs (vsL l fr j)))
set_option maxRecDepth 100000 in
set_option maxHeartbeats 4000000 in
theorem rValues_any (l : List Kn) (nn : Nat) (hnn : l.length = nn) (a : Option Addr) (c : Nat) (fr n : Int) (w : World) (hn : nn ≤ 9223372036854775807) (hr : Rd w a (l.flatMap Kn.c)) :
    Calls Try.prog 53 #[.slice a nn c, .int .i64 fr, .int .i64 n] w fun e w' => ∃ v, e = .returned (.tuple #[v, .int .i64 (vsE l fr n)]) ∧ IntsIs w' v (vsV l fr n) ∧ Below w.heap.size w w' := by
  have HR := hid (after_rd hr); have HN := hid hnn
  clear hr hnn
  obtain ⟨i0, hi, hz0, hz1, hz2⟩ := info_parts info3
  go_enter Try.func53, Try.ntmps53
  go_wp2_with fail
  refine (met0 (rkcheck_any l nn HN.out a c w hn (HR.out (After.here w)))).mono ?_
  rintro e _ ⟨rfl, u1, rfl⟩
  by_cases hc : chkK l = 0
  case neg =>
    have hk := chkK_no (fun h => hc (chkK_ok h))
    rw [hk]
    have HE := hid (show vsE l fr n = 110 by unfold vsE; rw [if_pos hc])
    clear hc hk
    go_wp2_with fail
    exact bodyPost_ret (v := .tuple #[.slice none 0 0, .int .i64 110]) (by simp [results, Try.results53, go_sem]) rfl ⟨_, by rw [HE.out], by rw [vsV_no (by rw [HE.out]; decide)]; exact IntsIs.nil _, u1.2⟩
  rw [hc]
  have HC := hid hc; clear hc
  rcases h1 : decide (fr < -1099511627776) with _ | _
  case true =>
    have HE := hid (show vsE l fr n = 1 by unfold vsE; rw [if_neg (fun h => h HC.out), if_pos (.inl (by simpa using h1))])
    go_wp2_with fail
    exact bodyPost_ret (v := .tuple #[.slice none 0 0, .int .i64 1]) (by simp [results, Try.results53, go_sem]) rfl ⟨_, by rw [HE.out], by rw [vsV_no (by rw [HE.out]; decide)]; exact IntsIs.nil _, u1.2⟩
  rcases h2 : decide (1099511627776 < fr) with _ | _
  case true =>
    have HE := hid (show vsE l fr n = 1 by unfold vsE; rw [if_neg (fun h => h HC.out), if_pos (.inr (.inl (by simpa using h2)))])
    go_wp2_with fail
    exact bodyPost_ret (v := .tuple #[.slice none 0 0, .int .i64 1]) (by simp [results, Try.results53, go_sem]) rfl ⟨_, by rw [HE.out], by rw [vsV_no (by rw [HE.out]; decide)]; exact IntsIs.nil _, u1.2⟩
  rcases h3 : decide (n < 0) with _ | _
  case true =>
    have HE := hid (show vsE l fr n = 1 by unfold vsE; rw [if_neg (fun h => h HC.out), if_pos (.inr (.inr (by simpa using h3)))])
    go_wp2_with fail
    exact bodyPost_ret (v := .tuple #[.slice none 0 0, .int .i64 1]) (by simp [results, Try.results53, go_sem]) rfl ⟨_, by rw [HE.out], by rw [vsV_no (by rw [HE.out]; decide)]; exact IntsIs.nil _, u1.2⟩
  have hr1 : -1099511627776 ≤ fr := by simpa using h1
  have hr2 : fr ≤ 1099511627776 := by simpa using h2
  have hr3 : 0 ≤ n := by simpa using h3
  rcases h4 : decide (65536 < n) with _ | _
  case true =>
    have HE := hid (show vsE l fr n = 2 by unfold vsE; rw [if_neg (fun h => h HC.out), if_neg (by omega), if_pos (by simpa using h4)])
    go_wp2_with fail
    exact bodyPost_ret (v := .tuple #[.slice none 0 0, .int .i64 2]) (by simp [results, Try.results53, go_sem]) rfl ⟨_, by rw [HE.out], by rw [vsV_no (by rw [HE.out]; decide)]; exact IntsIs.nil _, u1.2⟩
  have hr4 : n ≤ 65536 := by simpa using h4
  have HE := hid (show vsE l fr n = 0 by unfold vsE; rw [if_neg (fun h => h HC.out), if_neg (by omega), if_neg (by omega)])
  obtain ⟨k, rfl⟩ : ∃ k : Nat, n = (k : Int) := ⟨n.toNat, by omega⟩
  have hk : k ≤ 65536 := by omega
  clear h1 h2 h3 h4 hr3 hr4
  have d1 : decide (fr < -1099511627776) = false := decide_eq_false (by omega)
  have d2 : decide (1099511627776 < fr) = false := decide_eq_false (by omega)
  have d3 : decide (65536 < (k : Int)) = false := decide_eq_false (by omega)
  have d4 : decide ((k : Int) < 0) = false := decide_eq_false (by omega)
  have HO := hid (World.ownsRow_made u1.w #[] 0 (base := u1.w.heap.size) (e := 3) (size := 1) (Nat.le_refl _) (by unfold maxLen; omega) (by simp))
  go_wp2_with fail
  obtain ⟨V, hV⟩ : ∃ V : World, V = u1.w := ⟨_, rfl⟩
  have hwV : Below w.heap.size w V := by rw [hV]; exact u1.2
  have HOV := hid (show (V.alloc (.cells #[] 3)).ownsRow V.heap.size 3 1 (.slice (some ⟨V.heap.size, 0, none⟩) 0 0) 0 [] by rw [hV]; exact HO.out)
  rw [← hV]
  clear HO
  go_loopw [8, 9] (fun v i wr => RVL l fr k V v i wr) (fun _ i _ => k - (intOf i).toNat)
  case atStart => exact ⟨0, After.to (b_alloc (Below.refl _ _) (.cells #[] 3)), Nat.zero_le _, rfl, rfl, hid (by rw [show ivs (vsL l fr 0) = [] from by simp [vsL, ivs]]; exact HOV.out)⟩
  case round =>
    clear HOV hV
    obtain ⟨j, z, hj, rfl, rfl, hown⟩ := hrel
    by_cases hlt : j < k
    · have e1 : decide ((j : Int) < (k : Int)) = true := decide_eq_true (by omega)
      have e2 : decide (j < k) = true := decide_eq_true hlt
      have hjk : (j : Int) < (k : Int) := by omega
      go_wp2_with fail
      refine (of_any l nn HN.out a c (fr + (j : Int)) z.w (chkK_good HC.out) (HR.out (After.to (b_then hwV z.w_below)))).mono ?_
      rintro e w9 ⟨rfl, hB9⟩
      have HO9 := hid (own_after hown.out hB9)
      have hs9 := hB9.size
      obtain ⟨z9, rfl⟩ : ∃ y9 : After V, w9 = y9.w := ⟨z.on hB9, rfl⟩
      have hsz := z9.w_below.size
      obtain ⟨X, hX⟩ : ∃ X, ofK l (fr + (j : Int)) = X := ⟨_, rfl⟩
      rw [hX]
      have HX := hid hX; clear hX hB9
      go_wp2_with (at_builtin; refine wpList_append_rd _ rfl (.tmp 31) (.tmp 37) 30 rfl V.heap.size 3 i0 (.int .i64 0) 1 8 und30 hi hz0 hz1 hz2 rfl (by decide) _ _ _ rfl (own_after HO9.out (b_alloc (Below.refl _ _) _)) (some ⟨z9.w.heap.size, 0, none⟩) 1 1 [.int .i64 X] rfl rfl (rd_new _ _ _ rfl) (by simp [Value.oneCell']) (by unfold maxLen; omega) (by omega) (by first | (simp; done) | (simp; omega)) ?_; intro v' w1 hown' hgrow)
      have HO1 := hid hown'
      obtain ⟨z1, rfl⟩ : ∃ y9 : After V, w1 = y9.w := ⟨After.to (Below.trans (b_alloc z9.w_below _) (own_below (own_after HO9.out (b_alloc (Below.refl _ _) _)) hgrow (by first | (simp; done) | (simp; omega)))), rfl⟩
      clear hown' hgrow
      go_roundw
      case rel => exact ⟨j + 1, z1, by omega, by go_num, rfl, hid (by rw [vsL_next, HX.out]; simpa [ivs] using HO1.out)⟩
      case measure => first | (simp [intOf]; done) | (simp [intOf]; omega)
    · have e1 : decide ((j : Int) < (k : Int)) = false := decide_eq_false (by omega)
      have e2 : decide (j < k) = false := decide_eq_false hlt
      obtain rfl : j = k := by omega
      go_wp2_with fail
      exact bodyPost_ret (v := .tuple #[u8, .int .i64 0]) (by simp [results, Try.results53, go_sem]) rfl ⟨_, by rw [HE.out], by rw [vsV_ok HE.out]; exact IntsIs.own hown.out (vsL_len _ _ _), b_then hwV z.w_below⟩
end Go.Proofs.Ytbppajenihjfhaa
