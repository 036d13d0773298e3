/- Curves: one knot more. -/
import Derived.Test.YtbppajenihjfhaaCL
import Derived.Test.YtbppajenihjfhaaC2
namespace Go.Proofs.Ytbppajenihjfhaa
open Go.RowKit
open Go.Lib (hid)

/-- One knot more: has it been laid when j knots are over; the knot before it; the knot behind it; the list so far. -/
def lcD (l : List Kn) (x : Kn) : Nat → Bool
  | 0 => false
  | j + 1 => lcD l x j || decide (x.k < (kn l j).k)
def lcB (l : List Kn) (x : Kn) : Nat → Int
  | 0 => -1
  | j + 1 => if (kn l j).k < x.k then (kn l j).k else lcB l x j
def lcA (l : List Kn) (x : Kn) : Nat → Int
  | 0 => 1099511627777
  | j + 1 => if x.k < (kn l j).k ∧ lcD l x j = false then (kn l j).k else lcA l x j
def lcM (l : List Kn) (x : Kn) : Nat → List Kn
  | 0 => []
  | j + 1 => if (kn l j).k < x.k then lcM l x j ++ [kn l j] else if x.k < (kn l j).k then (if lcD l x j = true then lcM l x j else lcM l x j ++ [x]) ++ [kn l j] else lcM l x j
def lcG (l : List Kn) (x : Kn) (j : Nat) : List Kn := if lcD l x j = true then lcM l x j else lcM l x j ++ [x]
theorem kn_app_lt {A : List Kn} {y : Kn} {i : Nat} (h : i < A.length) : kn (A ++ [y]) i = kn A i := by
  unfold kn
  rw [List.getD_eq_getElem?_getD, List.getElem?_append_left h, ← List.getD_eq_getElem?_getD]
theorem kn_app_eq {A : List Kn} {y : Kn} {i : Nat} (h : i = A.length) : kn (A ++ [y]) i = y := by
  subst h
  unfold kn
  rw [List.getD_eq_getElem?_getD, List.getElem?_append_right (Nat.le_refl _), Nat.sub_self]
  rfl
structure LcIs (l : List Kn) (x : Kn) (j n d : Nat) (F : List Kn) : Prop where
  nd : n ≤ d
  dj : d ≤ j
  len : F.length = n + 1 + (j - d)
  lo : ∀ i, i < n → kn F i = kn l i
  hi : ∀ i, d ≤ i → i < j → kn F (n + 1 + (i - d)) = kn l i
  kmid : ∀ i, n ≤ i → i < d → (kn l i).k = x.k
  khi : d < j → x.k < (kn l d).k
theorem lc_inv {most : Int} {l : List Kn} (x : Kn) (hv : valB most l = true) : ∀ j, j ≤ l.length → ∃ n d, LcIs l x j n d (lcG l x j) ∧ (lcD l x j = true ↔ d < j) ∧ lcB l x j = (if n = 0 then -1 else (kn l (n - 1)).k) ∧ lcA l x j = (if d < j then (kn l d).k else 1099511627777) := by
  intro j
  induction j with
  | zero =>
    intro _
    exact ⟨0, 0, ⟨Nat.le_refl _, Nat.le_refl _, rfl, fun i hi => by omega, fun i h1 h2 => by omega, fun i h1 h2 => by omega, fun h => by omega⟩, by simp [lcD], rfl, rfl⟩
  | succ j ih =>
    intro hj
    obtain ⟨n, d, h, hD, hB, hA⟩ := ih (by omega)
    have hjl : j < l.length := by omega
    have hdj := h.dj
    have hnd := h.nd
    have hlen := h.len
    by_cases hgt : x.k < (kn l j).k
    · have eD : lcD l x (j + 1) = true := by rw [lcD, decide_eq_true hgt, Bool.or_true]
      have eM : lcM l x (j + 1) = lcG l x j ++ [kn l j] := by rw [lcM, if_neg (by omega), if_pos hgt]; rfl
      have eG : lcG l x (j + 1) = lcG l x j ++ [kn l j] := by
        rw [← eM]
        exact if_pos eD
      refine ⟨n, d, ⟨hnd, by omega, by rw [eG, List.length_append, List.length_singleton, hlen]; omega, fun i hi => ?_, fun i h1 h2 => ?_, h.kmid, fun _ => ?_⟩, ⟨fun _ => by omega, fun _ => eD⟩, ?_, ?_⟩
      · rw [eG, kn_app_lt (by omega)]; exact h.lo i hi
      · rw [eG]
        by_cases he : i = j
        · subst he; exact kn_app_eq (by omega)
        · rw [kn_app_lt (by omega)]; exact h.hi i h1 (by omega)
      · by_cases hc : d < j
        · exact h.khi hc
        · rw [show d = j by omega]; exact hgt
      · rw [lcB, if_neg (by omega)]; exact hB
      · rw [lcA, if_pos (show d < j + 1 by omega)]
        by_cases hc : d < j
        · rw [if_neg (fun c => by have := hD.2 hc; rw [c.2] at this; exact Bool.false_ne_true this), hA, if_pos hc]
        · have hf : lcD l x j = false := by
            rw [Bool.eq_false_iff]; exact fun c => hc (hD.1 c)
          rw [if_pos ⟨hgt, hf⟩, show d = j by omega]
    · have hc : ¬ d < j := fun hc => by
        have := h.khi hc
        have := kn_lt hv hc hjl
        omega
      have hf : lcD l x j = false := by
        rw [Bool.eq_false_iff]; exact fun c => hc (hD.1 c)
      have eD : lcD l x (j + 1) = false := by rw [lcD, decide_eq_false hgt, hf]; rfl
      have eg : lcG l x j = lcM l x j ++ [x] := if_neg (by rw [hf]; exact Bool.false_ne_true)
      have hml : (lcM l x j).length = n := by rw [eg, List.length_append, List.length_singleton] at hlen; omega
      have hA2 : lcA l x (j + 1) = 1099511627777 := by rw [lcA, if_neg (fun c => hgt c.1), hA, if_neg hc]
      by_cases hlt : (kn l j).k < x.k
      · have hn : n = j := by
          by_cases hc : n < j
          · have := h.kmid n (Nat.le_refl _) (by omega)
            have := kn_lt hv hc hjl
            omega
          · omega
        have eG : lcG l x (j + 1) = (lcM l x j ++ [kn l j]) ++ [x] := by
          have : lcM l x (j + 1) = lcM l x j ++ [kn l j] := by rw [lcM, if_pos hlt]
          rw [← this]
          exact if_neg (by rw [eD]; exact Bool.false_ne_true)
        refine ⟨j + 1, j + 1, ⟨Nat.le_refl _, Nat.le_refl _, by rw [eG]; simp; omega, fun i hi => ?_, fun i h1 h2 => by omega, fun i h1 h2 => by omega, fun c => by omega⟩, ⟨fun c => by rw [eD] at c; exact absurd c Bool.false_ne_true, fun c => by omega⟩, ?_, ?_⟩
        · rw [eG, kn_app_lt (by rw [List.length_append, List.length_singleton]; omega)]
          by_cases he : i = j
          · subst he; exact kn_app_eq (by omega)
          · rw [kn_app_lt (by omega)]
            have := h.lo i (by omega)
            rw [eg, kn_app_lt (by omega)] at this
            exact this
        · rw [lcB, if_pos hlt, if_neg (by omega), Nat.add_sub_cancel]
        · rw [hA2, if_neg (by omega)]
      · have eG : lcG l x (j + 1) = lcG l x j := by
          have : lcM l x (j + 1) = lcM l x j := by rw [lcM, if_neg hlt, if_neg hgt]
          rw [eg, ← this]
          exact if_neg (by rw [eD]; exact Bool.false_ne_true)
        refine ⟨n, j + 1, ⟨by omega, Nat.le_refl _, by rw [eG, hlen]; omega, fun i hi => by rw [eG]; exact h.lo i hi, fun i h1 h2 => by omega, fun i h1 h2 => ?_, fun c => by omega⟩, ⟨fun c => by rw [eD] at c; exact absurd c Bool.false_ne_true, fun c => by omega⟩, ?_, ?_⟩
        · by_cases he : i = j
          · subst he; omega
          · exact h.kmid i h1 (by omega)
        · rw [lcB, if_neg hlt]; exact hB
        · rw [hA2, if_neg (by omega)]
/-- CurvesLocal. -/
theorem lc_local {most : Int} {l : List Kn} {x : Kn} {at_ : Int} (hv : valB most l = true) (hF : valB most (lcG l x l.length) = true) (hin : (0 ≤ lcB l x l.length ∧ at_ ≤ lcB l x l.length) ∨ (lcA l x l.length ≤ 1099511627776 ∧ lcA l x l.length ≤ at_)) : ofK l at_ = ofK (lcG l x l.length) at_ := by
  obtain ⟨n, d, h, -, hB, hA⟩ := lc_inv x hv l.length (Nat.le_refl _)
  obtain ⟨F, hFe⟩ : ∃ F, lcG l x l.length = F := ⟨_, rfl⟩
  rw [hFe] at h hF ⊢
  have hdj := h.dj
  have hnd := h.nd
  have hlen := h.len
  rw [hB, hA] at hin
  have hc := ex_cnt hv at_
  obtain ⟨c, hce⟩ : ∃ c, cntK l at_ = c := ⟨_, rfl⟩
  rw [hce] at hc
  have hcl := hc.1
  rcases hin with ⟨h0, h1⟩ | ⟨h0, h1⟩
  · by_cases hn : n = 0
    · rw [if_pos hn] at h0; omega
    rw [if_neg hn] at h1
    have hk := h.lo (n - 1) (by omega)
    by_cases he : at_ = (kn l (n - 1)).k
    · have e1 := ofK_at hv (show n - 1 < l.length by omega)
      have e2 := ofK_at hF (show n - 1 < F.length by omega)
      rw [hk] at e2
      rw [he, e1, e2]
    · have hcn : c < n := by
        by_cases hx : c < n
        · exact hx
        · have := hc.2.1 (n - 1) (by omega); omega
      have e1 := h.lo c hcn
      have hc2 : IsCnt F at_ c := cnt_of hF (by omega) (fun h9 => by rw [h.lo (c - 1) (by omega)]; exact hc.2.1 (c - 1) (by omega)) (fun _ => by rw [e1]; exact hc.2.2 c (Nat.le_refl _) (by omega))
      exact ofK_same hc hc2 Iff.rfl ⟨fun _ => by omega, fun _ => by omega⟩ (fun h9 => (h.lo (c - 1) (by omega)).symm) (fun _ => e1.symm)
  · by_cases hd : d < l.length
    · rw [if_pos hd] at h1
      have hcd : d < c := by
        by_cases hx : d < c
        · exact hx
        · have := hc.2.2 d (by omega) hd; omega
      have e1 := h.hi (c - 1) (by omega) (by omega)
      have hi1 : n + 1 + (c - d) - 1 = n + 1 + (c - 1 - d) := by omega
      have hc2 : IsCnt F at_ (n + 1 + (c - d)) := cnt_of hF (by omega) (fun _ => by rw [hi1, e1]; exact hc.2.1 (c - 1) (by omega)) (fun h9 => by rw [h.hi c (by omega) (by omega)]; exact hc.2.2 c (Nat.le_refl _) (by omega))
      exact ofK_same hc hc2 ⟨fun _ => by omega, fun _ => by omega⟩ ⟨fun _ => by omega, fun _ => by omega⟩ (fun _ => by rw [hi1]; exact e1.symm) (fun h9 => (h.hi c (by omega) h9).symm)
    · rw [if_neg hd] at h0; omega
theorem lcM_len (l : List Kn) (x : Kn) : ∀ j, (lcM l x j).length ≤ 2 * j
  | 0 => Nat.le_refl _
  | j + 1 => by
    have := lcM_len l x j
    rw [lcM]
    split
    · simp; omega
    · split
      · split <;> (simp; omega)
      · omega
end Go.Proofs.Ytbppajenihjfhaa
