/- The reference's Cut. -/
import Derived.Test.YtmikhkmdcpgkfaaW
import Derived.Test.YtmikhkmdcpgkfaaC5
namespace Go.Proofs.Ytmikhkmdcpgkfaa
open Go.RowKit
open Go.Lib (hid)

theorem lk_sites (a b : Int) : lkOk (min a b) (max a b) = (siteOk a && siteOk b && (a != b)) := by
  rw [Bool.eq_iff_iff]
  simp only [lkOk, siteOk, Bool.and_eq_true, decide_eq_true_eq, bne_iff_ne]
  omega
theorem keep_pair (ls : List (Int × Int)) (a b x y : Int) (on : Bool) : keepCut ls (min a b, max a b) on (x, y) = if x = min a b ∧ y = max a b then on else ls.contains (x, y) := by
  simp [keepCut]

theorem cut_parts {ps : List Pk} {ls : List (Int × Int)} {a b : Int} (h : cutE ps ls a b = 0) : chk ps ls = 0 ∧ lkOk (min a b) (max a b) = true := by
  unfold cutE at h
  split at h
  · rename_i hc
    split at h
    · exact ⟨hc, by assumption⟩
    · simp at h
  · simp at h
theorem cut_sites {ps : List Pk} {ls : List (Int × Int)} {a b : Int} (h : cutE ps ls a b = 0) : chk ps ls = 0 ∧ siteOk a = true ∧ siteOk b = true := by
  obtain ⟨h1, h2⟩ := cut_parts h
  rw [lk_sites] at h2
  simp only [Bool.and_eq_true] at h2
  exact ⟨h1, h2.1⟩
def CutOut {V : World} (u2 : After V) (ls : List (Int × Int)) (ch : Int × Int) (on : Bool) (l i : Value) (wr : World) : Prop :=
  ∃ (x : Nat) (z : After V), x ≤ 16 ∧ i = .int .i64 x ∧ wr = z.w ∧ u2.w.heap.size ≤ z.w.heap.size ∧ z.w.ownsRow u2.w.heap.size 55 2 l (cutTo ls ch on x (x + 1)).length ((cutTo ls ch on x (x + 1)).flatMap lkc)
def CutInn {V : World} (u2 : After V) (ls : List (Int × Int)) (ch : Int × Int) (on : Bool) (x : Nat) (l j : Value) (wr : World) : Prop :=
  ∃ (y : Nat) (z : After V), x + 1 ≤ y ∧ y ≤ 16 ∧ j = .int .i64 y ∧ wr = z.w ∧ u2.w.heap.size ≤ z.w.heap.size ∧ z.w.ownsRow u2.w.heap.size 55 2 l (cutTo ls ch on x y).length ((cutTo ls ch on x y).flatMap lkc)

set_option maxRecDepth 100000 in
set_option maxHeartbeats 4000000 in
theorem rCut_no (ok : Nat → Prop) (ps : List Pk) (ls : List (Int × Int)) (a b : Int) (on : Bool) (v : Value) (w : World) (hp : ps.length ≤ 1000) (hl : ls.length ≤ 1000) (hv : NetIs ok w v ps ls) (hno : ¬ cutE ps ls a b = 0) :
    Calls Try.prog 21 #[v, .int .i64 a, .int .i64 b, .bool on] w fun e w' => CutTo ok ps ls a b on w w' e := by
  obtain ⟨qa, aa, qc, ac, rfl, hq, ha, hfq, hfa, hsq, hsa⟩ := hv
  have HQ := hid hq; have HA := hid ha; have HFQ := hid hfq; have HSQ := hid hsq; have HFA := hid hfa; have HSA := hid hsa
  clear hq ha hfq hfa hsq hsa
  unfold netV
  go_enter Try.func21, Try.ntmps21
  go_wp2_with fail
  obtain ⟨V, hV⟩ : ∃ V, V = ((w.alloc (.cells #[.slice qa ps.length qc, .slice aa ls.length ac] 25)).alloc (.cells #[.slice none 0 0, .slice none 0 0] 25)) := ⟨_, rfl⟩
  have c0 : ∀ v : After V, v.w.cell? ⟨w.heap.size, 0, none⟩ = some (.slice qa ps.length qc) := after_cell (by rw [hV]; first | (simp; done) | omega | (simp; omega)) (by rw [hV]; (repeat (first | with_reducible assumption | exact bn (by first | (simp; done) | omega | (simp; omega)) rfl | refine bo (by first | (simp; done) | omega | (simp; omega)) ?_)))
  have fc0 : ∀ v : After V, v.w.frozen? ⟨w.heap.size, 0, none⟩ = false := after_frozen (by rw [hV]; first | (simp; done) | omega | (simp; omega)) (by rw [hV]; (repeat (first | exact fn (by first | (simp; done) | omega | (simp; omega)) | refine fo (by first | (simp; done) | omega | (simp; omega)) ?_)))
  have c1 : ∀ v : After V, v.w.cell? ⟨w.heap.size, 1, none⟩ = some (.slice aa ls.length ac) := after_cell (by rw [hV]; first | (simp; done) | omega | (simp; omega)) (by rw [hV]; (repeat (first | with_reducible assumption | exact bn (by first | (simp; done) | omega | (simp; omega)) rfl | refine bo (by first | (simp; done) | omega | (simp; omega)) ?_)))
  have fc1 : ∀ v : After V, v.w.frozen? ⟨w.heap.size, 1, none⟩ = false := after_frozen (by rw [hV]; first | (simp; done) | omega | (simp; omega)) (by rw [hV]; (repeat (first | exact fn (by first | (simp; done) | omega | (simp; omega)) | refine fo (by first | (simp; done) | omega | (simp; omega)) ?_)))
  have zc : ∀ v : After V, w.heap.size < v.w.heap.size := after_size (by rw [hV]; first | (simp; done) | omega | (simp; omega))
  have e0 : ∀ v : After V, v.w.cell? ⟨w.heap.size + 1, 0, none⟩ = some (.slice none 0 0) := after_cell (by rw [hV]; first | (simp; done) | omega | (simp; omega)) (by rw [hV]; (repeat (first | with_reducible assumption | exact bn (by first | (simp; done) | omega | (simp; omega)) rfl | refine bo (by first | (simp; done) | omega | (simp; omega)) ?_)))
  have fe0 : ∀ v : After V, v.w.frozen? ⟨w.heap.size + 1, 0, none⟩ = false := after_frozen (by rw [hV]; first | (simp; done) | omega | (simp; omega)) (by rw [hV]; (repeat (first | exact fn (by first | (simp; done) | omega | (simp; omega)) | refine fo (by first | (simp; done) | omega | (simp; omega)) ?_)))
  have e1 : ∀ v : After V, v.w.cell? ⟨w.heap.size + 1, 1, none⟩ = some (.slice none 0 0) := after_cell (by rw [hV]; first | (simp; done) | omega | (simp; omega)) (by rw [hV]; (repeat (first | with_reducible assumption | exact bn (by first | (simp; done) | omega | (simp; omega)) rfl | refine bo (by first | (simp; done) | omega | (simp; omega)) ?_)))
  have fe1 : ∀ v : After V, v.w.frozen? ⟨w.heap.size + 1, 1, none⟩ = false := after_frozen (by rw [hV]; first | (simp; done) | omega | (simp; omega)) (by rw [hV]; (repeat (first | exact fn (by first | (simp; done) | omega | (simp; omega)) | refine fo (by first | (simp; done) | omega | (simp; omega)) ?_)))
  have ze : ∀ v : After V, w.heap.size + 1 < v.w.heap.size := after_size (by rw [hV]; first | (simp; done) | omega | (simp; omega))
  have hwV : Below w.heap.size w V := by rw [hV]; exact (by repeat (first | exact Below.refl _ _ | assumption | refine b_then ?_ (by assumption) | refine b_alloc ?_ _ | refine b_drewN ?_ _ | refine b_drew ?_ | refine b_set ?_ (by omega) _ | refine b_set ?_ (by simp) _))
  have WV := hid (after_below hwV)
  rw [← hV]
  obtain ⟨u0, hu⟩ : ∃ u : After V, u.w = V := ⟨After.here V, rfl⟩
  rw [← hu]
  clear hu hV
  refine (met (rCheck_any ps ls qa aa qc ac _ hp hl (HQ.out.below (WV.out u0)) (HA.out.below (WV.out u0)))).mono ?_
  rintro e _ ⟨rfl, u1, rfl⟩
  have yz := ze u1
  by_cases hc : chk ps ls = 0
  case neg =>
    rw [chk_60 hc]
    have HE := hid (show cutE ps ls a b = 60 by simp [cutE, hc])
    clear hc
    have r0 := two0 (e0 u1)
    have r1 := two1 (e1 u1)
    go_wp2_with fail
    refine bodyPost_ret (v := .tuple #[.agg #[.slice none 0 0, .slice none 0 0], .int .i64 60]) (by simp [results, Try.results21, go_sem, r0, r1]) rfl ⟨_, by rw [show cutE ps ls a b = 60 from HE.out], ?_, b_set (b_set (WV.out _) (by omega) _) (by omega) _⟩
    rw [show cutQ ps ls a b = [] by rw [cutQ, HE.out]; rfl, show cutL ps ls a b on = [] by rw [cutL, HE.out]; rfl]
    exact NetIs.zero _ _
  have Hc := hid hc
  rw [hc]
  clear hc
  go_wp2_with fail
  refine (met (site_any a _)).mono ?_
  rintro e _ ⟨rfl, u1, rfl⟩
  have yz := ze u1
  by_cases hlk : lkOk (min a b) (max a b) = true
  case neg =>
    have HE := hid (show cutE ps ls a b = 1 by simp [cutE, Hc.out, hlk])
    rw [lk_sites] at hlk
    rcases h1 : siteOk a with _ | _
    · have r0 := two0 (e0 u1)
      have r1 := two1 (e1 u1)
      go_wp2_with fail
      refine bodyPost_ret (v := .tuple #[.agg #[.slice none 0 0, .slice none 0 0], .int .i64 1]) (by simp [results, Try.results21, go_sem, r0, r1]) rfl ⟨_, by rw [show cutE ps ls a b = 1 from HE.out], ?_, b_set (b_set (WV.out _) (by omega) _) (by omega) _⟩
      rw [show cutQ ps ls a b = [] by rw [cutQ, HE.out]; rfl, show cutL ps ls a b on = [] by rw [cutL, HE.out]; rfl]
      exact NetIs.zero _ _
    · go_wp2_with fail
      refine (met (site_any b _)).mono ?_
      rintro e _ ⟨rfl, u1, rfl⟩
      have yz := ze u1
      rcases h2 : siteOk b with _ | _
      · have r0 := two0 (e0 u1)
        have r1 := two1 (e1 u1)
        go_wp2_with fail
        refine bodyPost_ret (v := .tuple #[.agg #[.slice none 0 0, .slice none 0 0], .int .i64 1]) (by simp [results, Try.results21, go_sem, r0, r1]) rfl ⟨_, by rw [show cutE ps ls a b = 1 from HE.out], ?_, b_set (b_set (WV.out _) (by omega) _) (by omega) _⟩
        rw [show cutQ ps ls a b = [] by rw [cutQ, HE.out]; rfl, show cutL ps ls a b on = [] by rw [cutL, HE.out]; rfl]
        exact NetIs.zero _ _
      · have h3 : (a == b) = true := by simpa [h1, h2] using hlk
        clear hlk
        have r0 := two0 (e0 u1)
        have r1 := two1 (e1 u1)
        go_wp2_with fail
        refine bodyPost_ret (v := .tuple #[.agg #[.slice none 0 0, .slice none 0 0], .int .i64 1]) (by simp [results, Try.results21, go_sem, r0, r1]) rfl ⟨_, by rw [show cutE ps ls a b = 1 from HE.out], ?_, b_set (b_set (WV.out _) (by omega) _) (by omega) _⟩
        rw [show cutQ ps ls a b = [] by rw [cutQ, HE.out]; rfl, show cutL ps ls a b on = [] by rw [cutL, HE.out]; rfl]
        exact NetIs.zero _ _
  exact absurd (cut_yes Hc.out hlk) hno

set_option maxRecDepth 100000 in
set_option maxHeartbeats 4000000 in
theorem rCut_lt (ok : Nat → Prop) (ps : List Pk) (ls : List (Int × Int)) (a b : Int) (on : Bool) (v : Value) (w : World) (hp : ps.length ≤ 1000) (hl : ls.length ≤ 1000) (hv : NetIs ok w v ps ls) (hE : cutE ps ls a b = 0) (hab : a < b) (_hba : ¬ b < a) :
    Calls Try.prog 21 #[v, .int .i64 a, .int .i64 b, .bool on] w fun e w' => CutTo ok ps ls a b on w w' e := by
  have HE := hid hE; clear hE
  obtain ⟨qa, aa, qc, ac, rfl, hq, ha, hfq, hfa, hsq, hsa⟩ := hv
  have HQ := hid hq; have HA := hid ha; have HFQ := hid hfq; have HSQ := hid hsq; have HFA := hid hfa; have HSA := hid hsa
  clear hq ha hfq hfa hsq hsa
  unfold netV
  go_enter Try.func21, Try.ntmps21
  go_wp2_with fail
  obtain ⟨V, hV⟩ : ∃ V, V = ((w.alloc (.cells #[.slice qa ps.length qc, .slice aa ls.length ac] 25)).alloc (.cells #[.slice none 0 0, .slice none 0 0] 25)) := ⟨_, rfl⟩
  have c0 : ∀ v : After V, v.w.cell? ⟨w.heap.size, 0, none⟩ = some (.slice qa ps.length qc) := after_cell (by rw [hV]; first | (simp; done) | omega | (simp; omega)) (by rw [hV]; (repeat (first | with_reducible assumption | exact bn (by first | (simp; done) | omega | (simp; omega)) rfl | refine bo (by first | (simp; done) | omega | (simp; omega)) ?_)))
  have fc0 : ∀ v : After V, v.w.frozen? ⟨w.heap.size, 0, none⟩ = false := after_frozen (by rw [hV]; first | (simp; done) | omega | (simp; omega)) (by rw [hV]; (repeat (first | exact fn (by first | (simp; done) | omega | (simp; omega)) | refine fo (by first | (simp; done) | omega | (simp; omega)) ?_)))
  have c1 : ∀ v : After V, v.w.cell? ⟨w.heap.size, 1, none⟩ = some (.slice aa ls.length ac) := after_cell (by rw [hV]; first | (simp; done) | omega | (simp; omega)) (by rw [hV]; (repeat (first | with_reducible assumption | exact bn (by first | (simp; done) | omega | (simp; omega)) rfl | refine bo (by first | (simp; done) | omega | (simp; omega)) ?_)))
  have fc1 : ∀ v : After V, v.w.frozen? ⟨w.heap.size, 1, none⟩ = false := after_frozen (by rw [hV]; first | (simp; done) | omega | (simp; omega)) (by rw [hV]; (repeat (first | exact fn (by first | (simp; done) | omega | (simp; omega)) | refine fo (by first | (simp; done) | omega | (simp; omega)) ?_)))
  have zc : ∀ v : After V, w.heap.size < v.w.heap.size := after_size (by rw [hV]; first | (simp; done) | omega | (simp; omega))
  have e0 : ∀ v : After V, v.w.cell? ⟨w.heap.size + 1, 0, none⟩ = some (.slice none 0 0) := after_cell (by rw [hV]; first | (simp; done) | omega | (simp; omega)) (by rw [hV]; (repeat (first | with_reducible assumption | exact bn (by first | (simp; done) | omega | (simp; omega)) rfl | refine bo (by first | (simp; done) | omega | (simp; omega)) ?_)))
  have fe0 : ∀ v : After V, v.w.frozen? ⟨w.heap.size + 1, 0, none⟩ = false := after_frozen (by rw [hV]; first | (simp; done) | omega | (simp; omega)) (by rw [hV]; (repeat (first | exact fn (by first | (simp; done) | omega | (simp; omega)) | refine fo (by first | (simp; done) | omega | (simp; omega)) ?_)))
  have e1 : ∀ v : After V, v.w.cell? ⟨w.heap.size + 1, 1, none⟩ = some (.slice none 0 0) := after_cell (by rw [hV]; first | (simp; done) | omega | (simp; omega)) (by rw [hV]; (repeat (first | with_reducible assumption | exact bn (by first | (simp; done) | omega | (simp; omega)) rfl | refine bo (by first | (simp; done) | omega | (simp; omega)) ?_)))
  have fe1 : ∀ v : After V, v.w.frozen? ⟨w.heap.size + 1, 1, none⟩ = false := after_frozen (by rw [hV]; first | (simp; done) | omega | (simp; omega)) (by rw [hV]; (repeat (first | exact fn (by first | (simp; done) | omega | (simp; omega)) | refine fo (by first | (simp; done) | omega | (simp; omega)) ?_)))
  have ze : ∀ v : After V, w.heap.size + 1 < v.w.heap.size := after_size (by rw [hV]; first | (simp; done) | omega | (simp; omega))
  have hwV : Below w.heap.size w V := by rw [hV]; exact (by repeat (first | exact Below.refl _ _ | assumption | refine b_then ?_ (by assumption) | refine b_alloc ?_ _ | refine b_drewN ?_ _ | refine b_drew ?_ | refine b_set ?_ (by omega) _ | refine b_set ?_ (by simp) _))
  have WV := hid (after_below hwV)
  rw [← hV]
  obtain ⟨u0, hu⟩ : ∃ u : After V, u.w = V := ⟨After.here V, rfl⟩
  rw [← hu]
  clear hu hV
  refine (met (rCheck_any ps ls qa aa qc ac _ hp hl (HQ.out.below (WV.out u0)) (HA.out.below (WV.out u0)))).mono ?_
  rintro e _ ⟨rfl, u1, rfl⟩
  obtain ⟨hc, h1, h2⟩ := cut_sites HE.out
  rw [hc]
  have Hc := hid hc; clear hc
  go_wp2_with fail
  refine (met (site_any a _)).mono ?_
  rintro e _ ⟨rfl, u1, rfl⟩
  have h3' : (a == b) = false := beq_eq_false_iff_ne.2 (by omega)
  rw [h1]
  go_wp2_with fail
  refine (met (site_any b _)).mono ?_
  rintro e _ ⟨rfl, u2, rfl⟩
  rw [h2]
  clear h1 h2
  go_wp2_with fail
  obtain ⟨i0, hi, hz0, hz1, hz2⟩ := info_parts info55
  obtain ⟨ch, hch⟩ : ∃ ch, ch = (a, b) := ⟨_, rfl⟩
  have HCH := hid (show ch = (min a b, max a b) by rw [hch]; congr 1 <;> omega); clear hch
  have su2 : w.heap.size + 1 < u2.w.heap.size := ze u2
  go_loopw [10, 11] (fun l i wr => CutOut u2 ls ch on l i wr) (fun _ i _ => 16 - (intOf i).toNat)
  case atStart => exact ⟨0, u2, by omega, rfl, rfl, Nat.le_refl _, World.ownsRow_nil _ _ _ _⟩
  case round =>
    obtain ⟨x, z, hx, rfl, rfl, hsz, ho⟩ := hrel
    by_cases hlt : x < 16
    · have HO := hid ho; clear ho
      have hd : decide ((x : Int) < 16) = true := decide_eq_true (by omega)
      go_wp2_with fail
      obtain ⟨wo, hwo⟩ : ∃ wo : World, wo = z.w := ⟨_, rfl⟩
      go_loopw [10, 12] (fun l j wr => CutInn u2 ls ch on x l j wr) (fun _ j _ => 16 - (intOf j).toNat)
      case atStart => exact ⟨x + 1, z, by omega, by omega, by go_num, rfl, hsz, HO.out⟩
      case round =>
        clear hwo
        obtain ⟨y, z2, hy0, hy, rfl, rfl, hsz2, ho⟩ := hrel
        have HO2 := hid ho; clear ho HO
        by_cases hlt2 : y < 16
        · go_wp2_with fail
          refine (isCut_any (fun _ => True) ps ls x y (.agg #[.slice qa ps.length qc, .slice aa ls.length ac]) _ hl ⟨qa, aa, qc, ac, rfl, HQ.out.below (WV.out z2), HA.out.below (WV.out z2), HFQ.out, HFA.out, .inr fun _ _ _ _ => trivial, .inr fun _ _ _ _ => trivial⟩).mono ?_
          rintro e w9 ⟨rfl, hB9⟩
          have HO3 := hid (own_after HO2.out hB9)
          have hsz3 := Nat.le_trans hsz2 hB9.size
          obtain ⟨z3, rfl⟩ : ∃ y9 : After V, w9 = y9.w := ⟨z2.on hB9, rfl⟩
          clear hB9 HO2
          have hmn : min (x : Int) (y : Int) = (x : Int) := by omega
          have hmx : max (x : Int) (y : Int) = (y : Int) := by omega
          rw [hmn, hmx]
          clear hmn hmx
          have HK := hid (show keepCut ls (a, b) on ((x : Int), (y : Int)) = if (x : Int) = a ∧ (y : Int) = b then on else ls.contains ((x : Int), (y : Int)) by simp [keepCut])
          have HLen := hid (cutTo_len ls ch on x y (by omega) (by omega))
          have done_ : ∀ k : Bool, keepCut ls ch on ((x : Int), (y : Int)) = k → True := fun _ _ => trivial
          by_cases hm : (x : Int) = a ∧ (y : Int) = b
          · have e1 : ((x : Int) == a) = true := by simpa using hm.1
            have e2 : ((y : Int) == b) = true := by simpa using hm.2
            have HKK := hid (show keepCut ls ch on ((x : Int), (y : Int)) = on by rw [HCH.out, show (min a b, max a b) = (a, b) by congr 1 <;> omega, HK.out, if_pos hm])
            clear hm
            cases on
            · go_wp2_with fail
              go_roundw
              case rel => exact ⟨y + 1, z3, by omega, by omega, by go_num, rfl, hsz3, by rw [cutTo_no (by omega) HKK.out]; exact HO3.out⟩
              case measure => simp [intOf]; omega
            · go_wp2_with (at_builtin; refine wpList_append_own _ rfl (.tmp 60) (.tmp 64) 23 rfl u2.w.heap.size 55 i0 (.agg #[.int .i64 0, .int .i64 0]) 2 16 und23 hi hz0 hz1 hz2 rfl (by decide) _ _ _ rfl (HO3.out.alloc _) ⟨z3.w.heap.size, 0, none⟩ 1 1 (lkc ((x : Int), (y : Int))) rfl rfl (news (cs := #[.int .i64 x, .int .i64 y]) rfl) (by intro u hu; simp [lkc] at hu; rcases hu with rfl | rfl <;> rfl) (by have := HLen.out; unfold maxLen; omega) (by have := HLen.out; omega) (by simp; omega) ?_; intro v' w1 hown' hgrow _)
              obtain ⟨z4, rfl, hsz4⟩ := After.app u2 (z3.on (b_alloc (Below.refl _ _) (.cells #[.int .i64 x, .int .i64 y] 55))) (HO3.out.alloc _) hgrow (by show _ ≤ (World.alloc _ _).heap.size; simp; omega)
              have HO4 := hid hown'
              clear hown' hgrow
              go_wp2_with fail
              go_roundw
              case rel => exact ⟨y + 1, z4, by omega, by omega, by go_num, rfl, hsz4, by rw [cutTo_yes (by omega) HKK.out, List.length_append, List.flatMap_append]; simpa using HO4.out⟩
              case measure => simp [intOf]; omega
          · have HKK := hid (show keepCut ls ch on ((x : Int), (y : Int)) = ls.contains ((x : Int), (y : Int)) by rw [HCH.out, show (min a b, max a b) = (a, b) by congr 1 <;> omega, HK.out, if_neg hm])
            have hct : ∃ t, ls.contains ((x : Int), (y : Int)) = t := ⟨_, rfl⟩
            obtain ⟨t, ht⟩ := hct
            rw [ht] at HKK
            rw [ht]
            clear ht
            by_cases e1' : (x : Int) = a
            · have e1 : ((x : Int) == a) = true := by simpa using e1'
              have e2 : ((y : Int) == b) = false := by simpa using fun h => hm ⟨e1', h⟩
              clear hm e1'
              cases t
              · go_wp2_with fail
                go_roundw
                case rel => exact ⟨y + 1, z3, by omega, by omega, by go_num, rfl, hsz3, by rw [cutTo_no (by omega) HKK.out]; exact HO3.out⟩
                case measure => simp [intOf]; omega
              · go_wp2_with (at_builtin; refine wpList_append_own _ rfl (.tmp 60) (.tmp 64) 23 rfl u2.w.heap.size 55 i0 (.agg #[.int .i64 0, .int .i64 0]) 2 16 und23 hi hz0 hz1 hz2 rfl (by decide) _ _ _ rfl (HO3.out.alloc _) ⟨z3.w.heap.size, 0, none⟩ 1 1 (lkc ((x : Int), (y : Int))) rfl rfl (news (cs := #[.int .i64 x, .int .i64 y]) rfl) (by intro u hu; simp [lkc] at hu; rcases hu with rfl | rfl <;> rfl) (by have := HLen.out; unfold maxLen; omega) (by have := HLen.out; omega) (by simp; omega) ?_; intro v' w1 hown' hgrow _)
                obtain ⟨z4, rfl, hsz4⟩ := After.app u2 (z3.on (b_alloc (Below.refl _ _) (.cells #[.int .i64 x, .int .i64 y] 55))) (HO3.out.alloc _) hgrow (by show _ ≤ (World.alloc _ _).heap.size; simp; omega)
                have HO4 := hid hown'
                clear hown' hgrow
                go_wp2_with fail
                go_roundw
                case rel => exact ⟨y + 1, z4, by omega, by omega, by go_num, rfl, hsz4, by rw [cutTo_yes (by omega) HKK.out, List.length_append, List.flatMap_append]; simpa using HO4.out⟩
                case measure => simp [intOf]; omega
            · have e1 : ((x : Int) == a) = false := by simpa using e1'
              clear hm e1'
              cases t
              · go_wp2_with fail
                go_roundw
                case rel => exact ⟨y + 1, z3, by omega, by omega, by go_num, rfl, hsz3, by rw [cutTo_no (by omega) HKK.out]; exact HO3.out⟩
                case measure => simp [intOf]; omega
              · go_wp2_with (at_builtin; refine wpList_append_own _ rfl (.tmp 60) (.tmp 64) 23 rfl u2.w.heap.size 55 i0 (.agg #[.int .i64 0, .int .i64 0]) 2 16 und23 hi hz0 hz1 hz2 rfl (by decide) _ _ _ rfl (HO3.out.alloc _) ⟨z3.w.heap.size, 0, none⟩ 1 1 (lkc ((x : Int), (y : Int))) rfl rfl (news (cs := #[.int .i64 x, .int .i64 y]) rfl) (by intro u hu; simp [lkc] at hu; rcases hu with rfl | rfl <;> rfl) (by have := HLen.out; unfold maxLen; omega) (by have := HLen.out; omega) (by simp; omega) ?_; intro v' w1 hown' hgrow _)
                obtain ⟨z4, rfl, hsz4⟩ := After.app u2 (z3.on (b_alloc (Below.refl _ _) (.cells #[.int .i64 x, .int .i64 y] 55))) (HO3.out.alloc _) hgrow (by show _ ≤ (World.alloc _ _).heap.size; simp; omega)
                have HO4 := hid hown'
                clear hown' hgrow
                go_wp2_with fail
                go_roundw
                case rel => exact ⟨y + 1, z4, by omega, by omega, by go_num, rfl, hsz4, by rw [cutTo_yes (by omega) HKK.out, List.length_append, List.flatMap_append]; simpa using HO4.out⟩
                case measure => simp [intOf]; omega
        · obtain rfl : y = 16 := by omega
          clear hlt2
          go_wp2_with fail
          go_roundw
          case rel => exact ⟨x + 1, z2, by omega, by go_num, rfl, hsz2, by rw [← cutTo_row]; exact HO2.out⟩
          case measure => simp [intOf]; omega
    · obtain rfl : x = 16 := by omega
      clear hlt
      rw [cutTo_end] at ho
      obtain ⟨va, vc, rfl, hvc, hvn, hvR, hvf⟩ := own_slice ho
      have HR := hid hvR; have HF := hid hvf; have HN := hid hvn; have HV := hid hvc
      clear hvR hvf hvn ho hvc
      obtain ⟨cn, hcn⟩ : ∃ n, (cutsOf ls ch on).length = n := ⟨_, rfl⟩
      rw [hcn]
      rw [hcn] at HN HV
      have yze := ze z
      have HFAR := hid (fun b' off f (h : va = some ⟨b', off, f⟩) => HF.out b' off f h)
      have r0 := st_off (b' := w.heap.size) (o' := 1) (.slice va cn vc) (.inr (by omega)) (e0 z)
      have r1 := st_off (b' := w.heap.size) (o' := 1) (.slice va cn vc) (.inr (by omega)) (e1 z)
      have s0 := two0 r0
      have s1 := two1 r1
      have f0 := st_off (b' := w.heap.size) (o' := 1) (.slice va cn vc) (.inl (by decide)) (c0 z)
      have f1 := st_hit (.slice va cn vc) (c1 z)
      have hfz0 := sf (b' := w.heap.size) (o' := 1) (.slice va cn vc) (fe0 z)
      have hfz1 := sf (b' := w.heap.size) (o' := 1) (.slice va cn vc) (fe1 z)
      go_wp2_with fail
      refine bodyPost_ret (v := .tuple #[.agg #[.slice qa ps.length qc, .slice va cn vc], .int .i64 0]) (by simp [results, Try.results21, go_sem, s0, s1]) rfl ⟨_, by rw [HE.out], ?_, b_set (b_set (b_set (WV.out z) (by omega) _) (by omega) _) (by omega) _⟩
      rw [show cutQ ps ls a b = ps by rw [cutQ, if_pos HE.out], show cutL ps ls a b on = cutsOf ls ch on by rw [cutL, if_pos HE.out, HCH.out], ← hcn]
      rw [← hcn] at HV HN
      have hfar : ∀ g off, va = some ⟨g, off, none⟩ → w.heap.size ≠ g ∧ w.heap.size + 1 ≠ g := fun g off h => by have := HFAR.out g off none h; omega
      exact ⟨qa, va, qc, vc, rfl, HQ.out.below (b_set (b_set (b_set (WV.out z) (by omega) _) (by omega) _) (by omega) _), ((HR.out.set (fun g off h => (hfar g off h).1) _).set (fun g off h => (hfar g off h).2) _).set (fun g off h => (hfar g off h).2) _, HFQ.out, ⟨HV.out, HN.out⟩, HSQ.out.mono (fun _ h => .inl h), .inr fun b' off f h => .inr (by have := HFAR.out b' off f h; omega)⟩

set_option maxRecDepth 100000 in
set_option maxHeartbeats 4000000 in
theorem rCut_gt (ok : Nat → Prop) (ps : List Pk) (ls : List (Int × Int)) (a b : Int) (on : Bool) (v : Value) (w : World) (hp : ps.length ≤ 1000) (hl : ls.length ≤ 1000) (hv : NetIs ok w v ps ls) (hE : cutE ps ls a b = 0) (hab : b < a) (_hba : ¬ a < b) :
    Calls Try.prog 21 #[v, .int .i64 a, .int .i64 b, .bool on] w fun e w' => CutTo ok ps ls a b on w w' e := by
  have HE := hid hE; clear hE
  obtain ⟨qa, aa, qc, ac, rfl, hq, ha, hfq, hfa, hsq, hsa⟩ := hv
  have HQ := hid hq; have HA := hid ha; have HFQ := hid hfq; have HSQ := hid hsq; have HFA := hid hfa; have HSA := hid hsa
  clear hq ha hfq hfa hsq hsa
  unfold netV
  go_enter Try.func21, Try.ntmps21
  go_wp2_with fail
  obtain ⟨V, hV⟩ : ∃ V, V = ((w.alloc (.cells #[.slice qa ps.length qc, .slice aa ls.length ac] 25)).alloc (.cells #[.slice none 0 0, .slice none 0 0] 25)) := ⟨_, rfl⟩
  have c0 : ∀ v : After V, v.w.cell? ⟨w.heap.size, 0, none⟩ = some (.slice qa ps.length qc) := after_cell (by rw [hV]; first | (simp; done) | omega | (simp; omega)) (by rw [hV]; (repeat (first | with_reducible assumption | exact bn (by first | (simp; done) | omega | (simp; omega)) rfl | refine bo (by first | (simp; done) | omega | (simp; omega)) ?_)))
  have fc0 : ∀ v : After V, v.w.frozen? ⟨w.heap.size, 0, none⟩ = false := after_frozen (by rw [hV]; first | (simp; done) | omega | (simp; omega)) (by rw [hV]; (repeat (first | exact fn (by first | (simp; done) | omega | (simp; omega)) | refine fo (by first | (simp; done) | omega | (simp; omega)) ?_)))
  have c1 : ∀ v : After V, v.w.cell? ⟨w.heap.size, 1, none⟩ = some (.slice aa ls.length ac) := after_cell (by rw [hV]; first | (simp; done) | omega | (simp; omega)) (by rw [hV]; (repeat (first | with_reducible assumption | exact bn (by first | (simp; done) | omega | (simp; omega)) rfl | refine bo (by first | (simp; done) | omega | (simp; omega)) ?_)))
  have fc1 : ∀ v : After V, v.w.frozen? ⟨w.heap.size, 1, none⟩ = false := after_frozen (by rw [hV]; first | (simp; done) | omega | (simp; omega)) (by rw [hV]; (repeat (first | exact fn (by first | (simp; done) | omega | (simp; omega)) | refine fo (by first | (simp; done) | omega | (simp; omega)) ?_)))
  have zc : ∀ v : After V, w.heap.size < v.w.heap.size := after_size (by rw [hV]; first | (simp; done) | omega | (simp; omega))
  have e0 : ∀ v : After V, v.w.cell? ⟨w.heap.size + 1, 0, none⟩ = some (.slice none 0 0) := after_cell (by rw [hV]; first | (simp; done) | omega | (simp; omega)) (by rw [hV]; (repeat (first | with_reducible assumption | exact bn (by first | (simp; done) | omega | (simp; omega)) rfl | refine bo (by first | (simp; done) | omega | (simp; omega)) ?_)))
  have fe0 : ∀ v : After V, v.w.frozen? ⟨w.heap.size + 1, 0, none⟩ = false := after_frozen (by rw [hV]; first | (simp; done) | omega | (simp; omega)) (by rw [hV]; (repeat (first | exact fn (by first | (simp; done) | omega | (simp; omega)) | refine fo (by first | (simp; done) | omega | (simp; omega)) ?_)))
  have e1 : ∀ v : After V, v.w.cell? ⟨w.heap.size + 1, 1, none⟩ = some (.slice none 0 0) := after_cell (by rw [hV]; first | (simp; done) | omega | (simp; omega)) (by rw [hV]; (repeat (first | with_reducible assumption | exact bn (by first | (simp; done) | omega | (simp; omega)) rfl | refine bo (by first | (simp; done) | omega | (simp; omega)) ?_)))
  have fe1 : ∀ v : After V, v.w.frozen? ⟨w.heap.size + 1, 1, none⟩ = false := after_frozen (by rw [hV]; first | (simp; done) | omega | (simp; omega)) (by rw [hV]; (repeat (first | exact fn (by first | (simp; done) | omega | (simp; omega)) | refine fo (by first | (simp; done) | omega | (simp; omega)) ?_)))
  have ze : ∀ v : After V, w.heap.size + 1 < v.w.heap.size := after_size (by rw [hV]; first | (simp; done) | omega | (simp; omega))
  have hwV : Below w.heap.size w V := by rw [hV]; exact (by repeat (first | exact Below.refl _ _ | assumption | refine b_then ?_ (by assumption) | refine b_alloc ?_ _ | refine b_drewN ?_ _ | refine b_drew ?_ | refine b_set ?_ (by omega) _ | refine b_set ?_ (by simp) _))
  have WV := hid (after_below hwV)
  rw [← hV]
  obtain ⟨u0, hu⟩ : ∃ u : After V, u.w = V := ⟨After.here V, rfl⟩
  rw [← hu]
  clear hu hV
  refine (met (rCheck_any ps ls qa aa qc ac _ hp hl (HQ.out.below (WV.out u0)) (HA.out.below (WV.out u0)))).mono ?_
  rintro e _ ⟨rfl, u1, rfl⟩
  obtain ⟨hc, h1, h2⟩ := cut_sites HE.out
  rw [hc]
  have Hc := hid hc; clear hc
  go_wp2_with fail
  refine (met (site_any a _)).mono ?_
  rintro e _ ⟨rfl, u1, rfl⟩
  have h3' : (a == b) = false := beq_eq_false_iff_ne.2 (by omega)
  rw [h1]
  go_wp2_with fail
  refine (met (site_any b _)).mono ?_
  rintro e _ ⟨rfl, u2, rfl⟩
  rw [h2]
  clear h1 h2
  go_wp2_with fail
  obtain ⟨i0, hi, hz0, hz1, hz2⟩ := info_parts info55
  obtain ⟨ch, hch⟩ : ∃ ch, ch = (b, a) := ⟨_, rfl⟩
  have HCH := hid (show ch = (min a b, max a b) by rw [hch]; congr 1 <;> omega); clear hch
  have su2 : w.heap.size + 1 < u2.w.heap.size := ze u2
  go_loopw [10, 11] (fun l i wr => CutOut u2 ls ch on l i wr) (fun _ i _ => 16 - (intOf i).toNat)
  case atStart => exact ⟨0, u2, by omega, rfl, rfl, Nat.le_refl _, World.ownsRow_nil _ _ _ _⟩
  case round =>
    obtain ⟨x, z, hx, rfl, rfl, hsz, ho⟩ := hrel
    by_cases hlt : x < 16
    · have HO := hid ho; clear ho
      have hd : decide ((x : Int) < 16) = true := decide_eq_true (by omega)
      go_wp2_with fail
      obtain ⟨wo, hwo⟩ : ∃ wo : World, wo = z.w := ⟨_, rfl⟩
      go_loopw [10, 12] (fun l j wr => CutInn u2 ls ch on x l j wr) (fun _ j _ => 16 - (intOf j).toNat)
      case atStart => exact ⟨x + 1, z, by omega, by omega, by go_num, rfl, hsz, HO.out⟩
      case round =>
        clear hwo
        obtain ⟨y, z2, hy0, hy, rfl, rfl, hsz2, ho⟩ := hrel
        have HO2 := hid ho; clear ho HO
        by_cases hlt2 : y < 16
        · go_wp2_with fail
          refine (isCut_any (fun _ => True) ps ls x y (.agg #[.slice qa ps.length qc, .slice aa ls.length ac]) _ hl ⟨qa, aa, qc, ac, rfl, HQ.out.below (WV.out z2), HA.out.below (WV.out z2), HFQ.out, HFA.out, .inr fun _ _ _ _ => trivial, .inr fun _ _ _ _ => trivial⟩).mono ?_
          rintro e w9 ⟨rfl, hB9⟩
          have HO3 := hid (own_after HO2.out hB9)
          have hsz3 := Nat.le_trans hsz2 hB9.size
          obtain ⟨z3, rfl⟩ : ∃ y9 : After V, w9 = y9.w := ⟨z2.on hB9, rfl⟩
          clear hB9 HO2
          have hmn : min (x : Int) (y : Int) = (x : Int) := by omega
          have hmx : max (x : Int) (y : Int) = (y : Int) := by omega
          rw [hmn, hmx]
          clear hmn hmx
          have HK := hid (show keepCut ls (b, a) on ((x : Int), (y : Int)) = if (x : Int) = b ∧ (y : Int) = a then on else ls.contains ((x : Int), (y : Int)) by simp [keepCut])
          have HLen := hid (cutTo_len ls ch on x y (by omega) (by omega))
          have done_ : ∀ k : Bool, keepCut ls ch on ((x : Int), (y : Int)) = k → True := fun _ _ => trivial
          by_cases hm : (x : Int) = b ∧ (y : Int) = a
          · have e1 : ((x : Int) == b) = true := by simpa using hm.1
            have e2 : ((y : Int) == a) = true := by simpa using hm.2
            have HKK := hid (show keepCut ls ch on ((x : Int), (y : Int)) = on by rw [HCH.out, show (min a b, max a b) = (b, a) by congr 1 <;> omega, HK.out, if_pos hm])
            clear hm
            cases on
            · go_wp2_with fail
              go_roundw
              case rel => exact ⟨y + 1, z3, by omega, by omega, by go_num, rfl, hsz3, by rw [cutTo_no (by omega) HKK.out]; exact HO3.out⟩
              case measure => simp [intOf]; omega
            · go_wp2_with (at_builtin; refine wpList_append_own _ rfl (.tmp 60) (.tmp 64) 23 rfl u2.w.heap.size 55 i0 (.agg #[.int .i64 0, .int .i64 0]) 2 16 und23 hi hz0 hz1 hz2 rfl (by decide) _ _ _ rfl (HO3.out.alloc _) ⟨z3.w.heap.size, 0, none⟩ 1 1 (lkc ((x : Int), (y : Int))) rfl rfl (news (cs := #[.int .i64 x, .int .i64 y]) rfl) (by intro u hu; simp [lkc] at hu; rcases hu with rfl | rfl <;> rfl) (by have := HLen.out; unfold maxLen; omega) (by have := HLen.out; omega) (by simp; omega) ?_; intro v' w1 hown' hgrow _)
              obtain ⟨z4, rfl, hsz4⟩ := After.app u2 (z3.on (b_alloc (Below.refl _ _) (.cells #[.int .i64 x, .int .i64 y] 55))) (HO3.out.alloc _) hgrow (by show _ ≤ (World.alloc _ _).heap.size; simp; omega)
              have HO4 := hid hown'
              clear hown' hgrow
              go_wp2_with fail
              go_roundw
              case rel => exact ⟨y + 1, z4, by omega, by omega, by go_num, rfl, hsz4, by rw [cutTo_yes (by omega) HKK.out, List.length_append, List.flatMap_append]; simpa using HO4.out⟩
              case measure => simp [intOf]; omega
          · have HKK := hid (show keepCut ls ch on ((x : Int), (y : Int)) = ls.contains ((x : Int), (y : Int)) by rw [HCH.out, show (min a b, max a b) = (b, a) by congr 1 <;> omega, HK.out, if_neg hm])
            have hct : ∃ t, ls.contains ((x : Int), (y : Int)) = t := ⟨_, rfl⟩
            obtain ⟨t, ht⟩ := hct
            rw [ht] at HKK
            rw [ht]
            clear ht
            by_cases e1' : (x : Int) = b
            · have e1 : ((x : Int) == b) = true := by simpa using e1'
              have e2 : ((y : Int) == a) = false := by simpa using fun h => hm ⟨e1', h⟩
              clear hm e1'
              cases t
              · go_wp2_with fail
                go_roundw
                case rel => exact ⟨y + 1, z3, by omega, by omega, by go_num, rfl, hsz3, by rw [cutTo_no (by omega) HKK.out]; exact HO3.out⟩
                case measure => simp [intOf]; omega
              · go_wp2_with (at_builtin; refine wpList_append_own _ rfl (.tmp 60) (.tmp 64) 23 rfl u2.w.heap.size 55 i0 (.agg #[.int .i64 0, .int .i64 0]) 2 16 und23 hi hz0 hz1 hz2 rfl (by decide) _ _ _ rfl (HO3.out.alloc _) ⟨z3.w.heap.size, 0, none⟩ 1 1 (lkc ((x : Int), (y : Int))) rfl rfl (news (cs := #[.int .i64 x, .int .i64 y]) rfl) (by intro u hu; simp [lkc] at hu; rcases hu with rfl | rfl <;> rfl) (by have := HLen.out; unfold maxLen; omega) (by have := HLen.out; omega) (by simp; omega) ?_; intro v' w1 hown' hgrow _)
                obtain ⟨z4, rfl, hsz4⟩ := After.app u2 (z3.on (b_alloc (Below.refl _ _) (.cells #[.int .i64 x, .int .i64 y] 55))) (HO3.out.alloc _) hgrow (by show _ ≤ (World.alloc _ _).heap.size; simp; omega)
                have HO4 := hid hown'
                clear hown' hgrow
                go_wp2_with fail
                go_roundw
                case rel => exact ⟨y + 1, z4, by omega, by omega, by go_num, rfl, hsz4, by rw [cutTo_yes (by omega) HKK.out, List.length_append, List.flatMap_append]; simpa using HO4.out⟩
                case measure => simp [intOf]; omega
            · have e1 : ((x : Int) == b) = false := by simpa using e1'
              clear hm e1'
              cases t
              · go_wp2_with fail
                go_roundw
                case rel => exact ⟨y + 1, z3, by omega, by omega, by go_num, rfl, hsz3, by rw [cutTo_no (by omega) HKK.out]; exact HO3.out⟩
                case measure => simp [intOf]; omega
              · go_wp2_with (at_builtin; refine wpList_append_own _ rfl (.tmp 60) (.tmp 64) 23 rfl u2.w.heap.size 55 i0 (.agg #[.int .i64 0, .int .i64 0]) 2 16 und23 hi hz0 hz1 hz2 rfl (by decide) _ _ _ rfl (HO3.out.alloc _) ⟨z3.w.heap.size, 0, none⟩ 1 1 (lkc ((x : Int), (y : Int))) rfl rfl (news (cs := #[.int .i64 x, .int .i64 y]) rfl) (by intro u hu; simp [lkc] at hu; rcases hu with rfl | rfl <;> rfl) (by have := HLen.out; unfold maxLen; omega) (by have := HLen.out; omega) (by simp; omega) ?_; intro v' w1 hown' hgrow _)
                obtain ⟨z4, rfl, hsz4⟩ := After.app u2 (z3.on (b_alloc (Below.refl _ _) (.cells #[.int .i64 x, .int .i64 y] 55))) (HO3.out.alloc _) hgrow (by show _ ≤ (World.alloc _ _).heap.size; simp; omega)
                have HO4 := hid hown'
                clear hown' hgrow
                go_wp2_with fail
                go_roundw
                case rel => exact ⟨y + 1, z4, by omega, by omega, by go_num, rfl, hsz4, by rw [cutTo_yes (by omega) HKK.out, List.length_append, List.flatMap_append]; simpa using HO4.out⟩
                case measure => simp [intOf]; omega
        · obtain rfl : y = 16 := by omega
          clear hlt2
          go_wp2_with fail
          go_roundw
          case rel => exact ⟨x + 1, z2, by omega, by go_num, rfl, hsz2, by rw [← cutTo_row]; exact HO2.out⟩
          case measure => simp [intOf]; omega
    · obtain rfl : x = 16 := by omega
      clear hlt
      rw [cutTo_end] at ho
      obtain ⟨va, vc, rfl, hvc, hvn, hvR, hvf⟩ := own_slice ho
      have HR := hid hvR; have HF := hid hvf; have HN := hid hvn; have HV := hid hvc
      clear hvR hvf hvn ho hvc
      obtain ⟨cn, hcn⟩ : ∃ n, (cutsOf ls ch on).length = n := ⟨_, rfl⟩
      rw [hcn]
      rw [hcn] at HN HV
      have yze := ze z
      have HFAR := hid (fun b' off f (h : va = some ⟨b', off, f⟩) => HF.out b' off f h)
      have r0 := st_off (b' := w.heap.size) (o' := 1) (.slice va cn vc) (.inr (by omega)) (e0 z)
      have r1 := st_off (b' := w.heap.size) (o' := 1) (.slice va cn vc) (.inr (by omega)) (e1 z)
      have s0 := two0 r0
      have s1 := two1 r1
      have f0 := st_off (b' := w.heap.size) (o' := 1) (.slice va cn vc) (.inl (by decide)) (c0 z)
      have f1 := st_hit (.slice va cn vc) (c1 z)
      have hfz0 := sf (b' := w.heap.size) (o' := 1) (.slice va cn vc) (fe0 z)
      have hfz1 := sf (b' := w.heap.size) (o' := 1) (.slice va cn vc) (fe1 z)
      go_wp2_with fail
      refine bodyPost_ret (v := .tuple #[.agg #[.slice qa ps.length qc, .slice va cn vc], .int .i64 0]) (by simp [results, Try.results21, go_sem, s0, s1]) rfl ⟨_, by rw [HE.out], ?_, b_set (b_set (b_set (WV.out z) (by omega) _) (by omega) _) (by omega) _⟩
      rw [show cutQ ps ls a b = ps by rw [cutQ, if_pos HE.out], show cutL ps ls a b on = cutsOf ls ch on by rw [cutL, if_pos HE.out, HCH.out], ← hcn]
      rw [← hcn] at HV HN
      have hfar : ∀ g off, va = some ⟨g, off, none⟩ → w.heap.size ≠ g ∧ w.heap.size + 1 ≠ g := fun g off h => by have := HFAR.out g off none h; omega
      exact ⟨qa, va, qc, vc, rfl, HQ.out.below (b_set (b_set (b_set (WV.out z) (by omega) _) (by omega) _) (by omega) _), ((HR.out.set (fun g off h => (hfar g off h).1) _).set (fun g off h => (hfar g off h).2) _).set (fun g off h => (hfar g off h).2) _, HFQ.out, ⟨HV.out, HN.out⟩, HSQ.out.mono (fun _ h => .inl h), .inr fun b' off f h => .inr (by have := HFAR.out b' off f h; omega)⟩

theorem rCut_any (ok : Nat → Prop) (ps : List Pk) (ls : List (Int × Int)) (a b : Int) (on : Bool) (v : Value) (w : World) (hp : ps.length ≤ 1000) (hl : ls.length ≤ 1000) (hv : NetIs ok w v ps ls) :
    Calls Try.prog 21 #[v, .int .i64 a, .int .i64 b, .bool on] w fun e w' => CutTo ok ps ls a b on w w' e := by
  by_cases hE : cutE ps ls a b = 0
  · have h3 : a ≠ b := fun e => by
      have := (cut_parts hE).2
      subst e
      simp [lkOk] at this
    rcases Int.lt_or_gt_of_ne h3 with h | h
    · exact rCut_lt ok ps ls a b on v w hp hl hv hE h (by omega)
    · exact rCut_gt ok ps ls a b on v w hp hl hv hE h (by omega)
  · exact rCut_no ok ps ls a b on v w hp hl hv hE
end Go.Proofs.Ytmikhkmdcpgkfaa
