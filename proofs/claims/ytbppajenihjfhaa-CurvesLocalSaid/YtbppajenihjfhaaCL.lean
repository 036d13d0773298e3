/- Curves: lanes resolved, curves moved. -/
import Derived.Test.YtbppajenihjfhaaCQ
namespace Go.Proofs.Ytbppajenihjfhaa
open Go.RowKit
open Go.Lib (hid)

/-- The last knot of a lane, among the first j, that lies on the sample of the i-th. -/
def lstJ (m : List Tp) (l : List Kn) (i : Nat) : Nat → Nat
  | 0 => i
  | j + 1 => if i < j ∧ smV m (kn l j).k = smV m (kn l i).k then j else lstJ m l i j
theorem lstJ_low {m : List Tp} {l : List Kn} {i : Nat} : ∀ j, j ≤ i + 1 → lstJ m l i j = i
  | 0, _ => rfl
  | j + 1, h => by rw [lstJ, if_neg (fun c => by omega), lstJ_low j (by omega)]
theorem lstJ_is (m : List Tp) (l : List Kn) (i : Nat) : ∀ j, i < j → i ≤ lstJ m l i j ∧ lstJ m l i j < j ∧ smV m (kn l (lstJ m l i j)).k = smV m (kn l i).k ∧ ∀ x, lstJ m l i j < x → x < j → smV m (kn l x).k ≠ smV m (kn l i).k := by
  intro j
  induction j with
  | zero => intro h; omega
  | succ j ih =>
    intro h
    by_cases he : i = j
    · rw [lstJ_low (j + 1) (by omega)]
      exact ⟨Nat.le_refl _, by omega, rfl, fun x h1 h2 => by omega⟩
    · obtain ⟨a, b, c, d⟩ := ih (by omega)
      rw [lstJ]
      by_cases hc : i < j ∧ smV m (kn l j).k = smV m (kn l i).k
      · rw [if_pos hc]
        exact ⟨by omega, by omega, hc.2, fun x h1 h2 => by omega⟩
      · rw [if_neg hc]
        refine ⟨a, by omega, c, fun x h1 h2 => ?_⟩
        by_cases hx : x = j
        · subst hx; exact fun e => hc ⟨by omega, e⟩
        · exact d x h1 (by omega)
theorem resE_good {m : List Tp} {l : List Kn} (h : resE m l = 0) : crvB (resL m l) = true ∧ rsE m l l.length = 0 := by
  unfold resE at h
  split at h
  · rename_i h1; exact absurd h h1
  · split at h
    · simp at h
    · split at h
      · rename_i h1; exact absurd h h1
      · rename_i h1; exact ⟨chkK_good h, Decidable.not_not.1 h1⟩
/-- CurvesResolved. -/
theorem resolved_val {m : List Tp} {l : List Kn} (h : resE m l = 0) {i : Nat} (hi : i < l.length) : ofK (resL m l) (smV m (kn l i).k) = (kn l (lstJ m l i l.length)).v := by
  have hg := ((crvB_iff _).1 (resE_good h).1).1
  obtain ⟨a, b, c, d⟩ := lstJ_is m l i l.length hi
  obtain ⟨J, hJ⟩ : ∃ J, lstJ m l i l.length = J := ⟨_, rfl⟩
  rw [hJ] at a b c d ⊢
  have hst : stB (mapTo m l l.length) J = true := by
    unfold stB
    rw [mapTo_len, Bool.or_eq_true]
    by_cases he : J + 1 = l.length
    · exact .inl (decide_eq_true he)
    · right
      rw [kn_mapTo m l (Nat.le_refl _), kn_mapTo m l (Nat.le_refl _), if_pos (by omega), if_pos b]
      have := d (J + 1) (by omega) (by omega)
      simp only [mv, Bool.not_eq_true', beq_eq_false_iff_ne]
      rw [c]
      exact this
  have hmem : mv m (kn l J) ∈ resL m l := by
    unfold resL stayL
    refine List.mem_map.2 ⟨⟨J, b⟩, ?_, ?_⟩
    · unfold ftsn fto
      rw [List.mem_filter]
      exact ⟨by rw [List.take_of_length_le (by simp)]; exact List.mem_finRange _, hst⟩
    · rw [kn_mapTo m l (Nat.le_refl _), if_pos b]
  obtain ⟨p, hp, he⟩ := List.getElem_of_mem hmem
  have he2 : kn (resL m l) p = mv m (kn l J) := by rw [← kn_eq hp]; exact he
  have := ofK_at hg hp
  rw [he2] at this
  simp only [mv, c] at this
  exact this
/-- A curve moved. -/
def shK (x : Kn) (d : Int) : Kn := ⟨x.k + d, x.v, x.s, x.a, x.b⟩
theorem kn_map {l : List Kn} {f : Kn → Kn} {i : Nat} (h : i < l.length) : kn (l.map f) i = f (kn l i) := by
  rw [← kn_eq (by simpa using h), ← kn_eq h, List.getElem_map]
theorem shp_sh (x y : Kn) (d num den : Int) : shp (shK x d) (shK y d) num den = shp x y num den := rfl
/-- CurvesMoved. -/
theorem moved {most : Int} {l : List Kn} (hv : valB most l = true) (d p : Int) : ofK (l.map fun x => shK x d) (p + d) = ofK l p := by
  have hc := ex_cnt hv p
  obtain ⟨n, hn⟩ : ∃ n, cntK l p = n := ⟨_, rfl⟩
  rw [hn] at hc
  have hm : IsCnt (l.map fun x => shK x d) (p + d) n := by
    refine ⟨by simpa using hc.1, fun i hi => ?_, fun i h1 h2 => ?_⟩
    · have := hc.2.1 i hi
      rw [kn_map (by have := hc.1; omega)]
      simp only [shK]; omega
    · rw [List.length_map] at h2
      have := hc.2.2 i h1 h2
      rw [kn_map h2]
      simp only [shK]; omega
  unfold ofK
  rw [cnt_is hm, hn, List.length_map]
  have h1 := hc.1
  by_cases h0 : l.length = 0
  · rw [if_pos h0, if_pos h0]
  rw [if_neg h0, if_neg h0]
  by_cases hz : n = 0
  · rw [if_pos hz, if_pos hz, kn_map (by omega)]; rfl
  rw [if_neg hz, if_neg hz]
  by_cases he : n = l.length
  · rw [if_pos he, if_pos he, kn_map (by omega)]; rfl
  rw [if_neg he, if_neg he, kn_map (by omega), kn_map (by omega), shp_sh]
  congr 1 <;> simp only [shK] <;> omega
end Go.Proofs.Ytbppajenihjfhaa
