/- NetworkMoveSpec: for all nets, valid or not, and all numbers: Deliver, Lose, Repeat and Cut agree with the reference. No condition. -/
import Derived.Test.YtmikhkmdcpgkfaaF2
import Derived.Test.YtmikhkmdcpgkfaaT
import Derived.Test.YtmikhkmdcpgkfaaRC
namespace Go.Proofs.Ytmikhkmdcpgkfaa
open Go.RowKit
open Go.Lib (hid)

theorem info3 : (Try.prog.info? 3).map (fun i => (i.zero, i.size, i.bytes)) = some (some (.int .i64 0), 1, 8) := by kernel_rfl
theorem und45 : Try.prog.underlying 45 = some (.slice 3) := by kernel_rfl
def allOf (a : Int) (k : Nat) : List Int := a :: (List.range k).map (fun i : Nat => ((i : Nat) : Int))
theorem allOf_next (a : Int) (k : Nat) : (allOf a (k + 1)).map (Value.int .i64) = (allOf a k).map (Value.int .i64) ++ [.int .i64 (k : Int)] := by
  simp [allOf, List.range_succ]
theorem own_one {w : World} {base n : Nat} {e : TypeId} {x : Value} (hn : n = w.heap.size) (hb : base ≤ w.heap.size) : (w.alloc (.cells #[x] e)).ownsRow base e 1 (.slice (some ⟨n, 0, none⟩) 1 1) 1 [x] := by
  subst hn
  exact ⟨by simp, .inr ⟨w.heap.size, 1, #[x], rfl, hb, heap_alloc_new w _, Nat.le_refl _, by unfold maxLen; omega, by simp, by simp⟩⟩
def AllIn {V : World} (u : After V) (a : Int) (nn : Nat) (l i : Value) (wr : World) : Prop :=
  ∃ (k : Nat) (z : After V), k ≤ nn ∧ k ≤ 3 ∧ i = .int .i64 k ∧ wr = z.w ∧ u.w.heap.size ≤ z.w.heap.size ∧ z.w.ownsRow u.w.heap.size 3 1 l (k + 1) ((allOf a k).map (Value.int .i64))
def RngIn (V : World) (n : Nat) (i : Value) (wr : World) : Prop := ∃ (j : Nat) (z : After V), j ≤ n ∧ i = .int .i64 j ∧ wr = z.w
theorem cutQ_len (ps : List Pk) (ls : List (Int × Int)) (a b : Int) : (cutQ ps ls a b).length ≤ ps.length := by
  unfold cutQ
  split <;> simp
theorem cutL_len (ps : List Pk) (ls : List (Int × Int)) (a b : Int) (on : Bool) : (cutL ps ls a b on).length ≤ 1000 := by
  unfold cutL
  split
  · exact Nat.le_trans (cutsOf_le _ _ _) (by omega)
  · simp
theorem cutQ_mem {ps : List Pk} {ls : List (Int × Int)} {a b : Int} {q : Pk} (h : q ∈ cutQ ps ls a b) : q ∈ ps := by
  unfold cutQ at h
  split at h
  · exact h
  · simp at h

set_option maxRecDepth 100000 in
set_option maxHeartbeats 16000000 in
theorem move_walk (d : Pk → List UInt8) (ps : List Pk) (ls : List (Int × Int)) (v : Value) (at_ a b : Int) (on : Bool) (W : World) (hv : NetIs (fun _ => True) W v ps ls) (hd : ∀ q, q ∈ ps ∨ q = Pk.zero → DataIs W q (d q)) :
    Calls Try.prog 6 #[v, .int .i64 at_, .int .i64 a, .int .i64 b, .bool on] W fun e w' => e = .returned (.bool true) ∧ Below W.heap.size W w' := by
  have hv0 := hv.here
  obtain ⟨nn, hnn⟩ : ∃ n, ps.length = n := ⟨_, rfl⟩
  obtain ⟨mm, hmm⟩ : ∃ n, ls.length = n := ⟨_, rfl⟩
  obtain ⟨qa, aa, qc, ac, rfl⟩ := hv0.form' (n := nn) (m := mm) hnn hmm
  clear hv
  have HV := hid (hv0.mono (ok' := fun g => g < W.heap.size) fun g h => h.2); clear hv0
  have HE := hid hd; clear hd
  go_enter Try.func6, Try.ntmps6
  go_wp2_with fail
  obtain ⟨V0, hV0⟩ : ∃ V0, V0 = (W.alloc (.cells #[.slice qa nn qc, .slice aa mm ac] 25)) := ⟨_, rfl⟩
  have n0 : ∀ v : After V0, v.w.cell? ⟨W.heap.size, 0, none⟩ = some (.slice qa nn qc) := after_cell (by rw [hV0]; first | (simp; done) | omega | (simp; omega)) (by rw [hV0]; (repeat (first | with_reducible assumption | exact bn (by first | (simp; done) | omega | (simp; omega)) rfl | refine bo (by first | (simp; done) | omega | (simp; omega)) ?_)))
  have fn0 : ∀ v : After V0, v.w.frozen? ⟨W.heap.size, 0, none⟩ = false := after_frozen (by rw [hV0]; first | (simp; done) | omega | (simp; omega)) (by rw [hV0]; (repeat (first | exact fn (by first | (simp; done) | omega | (simp; omega)) | refine fo (by first | (simp; done) | omega | (simp; omega)) ?_)))
  have n1 : ∀ v : After V0, v.w.cell? ⟨W.heap.size, 1, none⟩ = some (.slice aa mm ac) := after_cell (by rw [hV0]; first | (simp; done) | omega | (simp; omega)) (by rw [hV0]; (repeat (first | with_reducible assumption | exact bn (by first | (simp; done) | omega | (simp; omega)) rfl | refine bo (by first | (simp; done) | omega | (simp; omega)) ?_)))
  have fn1 : ∀ v : After V0, v.w.frozen? ⟨W.heap.size, 1, none⟩ = false := after_frozen (by rw [hV0]; first | (simp; done) | omega | (simp; omega)) (by rw [hV0]; (repeat (first | exact fn (by first | (simp; done) | omega | (simp; omega)) | refine fo (by first | (simp; done) | omega | (simp; omega)) ?_)))
  have zn : ∀ v : After V0, W.heap.size < v.w.heap.size := after_size (by rw [hV0]; first | (simp; done) | omega | (simp; omega))
  have hwV0 : Below W.heap.size W V0 := by rw [hV0]; exact (by repeat (first | exact Below.refl _ _ | assumption | refine b_then ?_ (by assumption) | refine b_alloc ?_ _ | refine b_drewN ?_ _ | refine b_drew ?_ | refine b_set ?_ (by omega) _ | refine b_set ?_ (by simp) _))
  have WV0 := hid (after_below hwV0)
  rw [← hV0]
  obtain ⟨u0, hu⟩ : ∃ u : After V0, u.w = V0 := ⟨After.here V0, rfl⟩
  rw [← hu]
  clear hu hV0
  have HN := hid (fun v : After V0 => HV.out.below (WV0.out v))
  refine (met (sane_any _)).mono ?_
  rintro e _ ⟨rfl, u1, rfl⟩
  go_wp2_with fail
  refine (met (few_any _ ps ls _ _ (HN.out u1))).mono ?_
  rintro e _ ⟨rfl, u2, rfl⟩
  by_cases hf : (decide (ps.length ≤ 40) && decide (ls.length ≤ 40)) = true
  case neg =>
    rw [Bool.not_eq_true] at hf
    rw [hf]
    go_wp2_with fail
    exact bodyPost_ret (v := .bool true) (by simp [results, Try.results6, go_sem]) rfl ⟨rfl, WV0.out _⟩
  rw [hf]
  simp only [Bool.and_eq_true, decide_eq_true_eq] at hf
  have hp1 : ps.length ≤ 1000 := by omega
  have hl1 : ls.length ≤ 1000 := by omega
  have hn40 : nn ≤ 40 := by omega
  clear hf
  go_wp2_with fail
  obtain ⟨ce, hce⟩ : ∃ x, cutE ps ls a b = x := ⟨_, rfl⟩
  have HCE := hid hce; clear hce
  refine (Cut_any _ ps ls a b on _ _ hp1 hl1 (HN.out u2)).mono ?_
  rintro e w9 h9
  obtain ⟨v9, rfl, hn9, hB9⟩ := h9
  obtain ⟨u3, rfl⟩ : ∃ y9 : After V0, w9 = y9.w := ⟨u2.on hB9, rfl⟩
  clear hB9
  rw [HCE.out]
  obtain ⟨nb1, en1⟩ : ∃ n, (cutQ ps ls a b).length = n := ⟨_, rfl⟩
  obtain ⟨lb1, el1⟩ : ∃ n, (cutL ps ls a b on).length = n := ⟨_, rfl⟩
  have hn9 : NetIs (fun g => g < u3.w.heap.size) _ _ (cutQ ps ls a b) (cutL ps ls a b on) := hn9.here.mono fun g h => h.2
  obtain ⟨qb1, ab1, qd1, ad1, rfl⟩ := hn9.form' (n := nb1) (m := lb1) en1 el1
  have sn0u3 : W.heap.size < u3.w.heap.size := by have := zn u3; omega
  have ln0u3 : W.heap.size ≤ u3.w.heap.size := by have := zn u3; omega
  go_wp2_with fail
  obtain ⟨V1, hV1⟩ : ∃ V1, V1 = (u3.w.alloc (.cells #[.slice qb1 (nb1) qd1, .slice ab1 (lb1) ad1] 25)) := ⟨_, rfl⟩
  have hCV1 : Below u3.w.heap.size u3.w V1 := by rw [hV1]; exact (by repeat (first | exact Below.refl _ _ | assumption | refine b_then ?_ (by assumption) | refine b_alloc ?_ _ | refine b_drewN ?_ _ | refine b_drew ?_ | refine b_set ?_ (by omega) _ | refine b_set ?_ (by simp) _))
  have hBV1 : Below V0.heap.size V0 V1 := b_then u3.w_below hCV1
  have yV1n := zn u3
  replace n0 := upc hBV1 n0
  replace fn0 := upf hBV1 fn0
  replace n1 := upc hBV1 n1
  replace fn1 := upf hBV1 fn1
  replace zn := upz hBV1 zn
  replace HN := hid (upn hBV1 HN.out)
  have WV1 := hid (upb hBV1 WV0.out)
  have HN1 : Hid (∀ v : After V1, NetIs (fun g => g < u3.w.heap.size) v.w (.agg #[.slice qb1 (nb1) qd1, .slice ab1 (lb1) ad1]) (cutQ ps ls a b) (cutL ps ls a b on)) := hid fun v => hn9.below (b_then hCV1 v.2)
  have x0 : ∀ v : After V1, v.w.cell? ⟨u3.w.heap.size, 0, none⟩ = some (.slice qb1 (nb1) qd1) := after_cell (by rw [hV1]; first | (simp; done) | omega | (simp; omega)) (by rw [hV1]; (repeat (first | with_reducible assumption | exact bn (by first | (simp; done) | omega | (simp; omega)) rfl | refine bo (by first | (simp; done) | omega | (simp; omega)) ?_)))
  have fx0 : ∀ v : After V1, v.w.frozen? ⟨u3.w.heap.size, 0, none⟩ = false := after_frozen (by rw [hV1]; first | (simp; done) | omega | (simp; omega)) (by rw [hV1]; (repeat (first | exact fn (by first | (simp; done) | omega | (simp; omega)) | refine fo (by first | (simp; done) | omega | (simp; omega)) ?_)))
  have x1 : ∀ v : After V1, v.w.cell? ⟨u3.w.heap.size, 1, none⟩ = some (.slice ab1 (lb1) ad1) := after_cell (by rw [hV1]; first | (simp; done) | omega | (simp; omega)) (by rw [hV1]; (repeat (first | with_reducible assumption | exact bn (by first | (simp; done) | omega | (simp; omega)) rfl | refine bo (by first | (simp; done) | omega | (simp; omega)) ?_)))
  have fx1 : ∀ v : After V1, v.w.frozen? ⟨u3.w.heap.size, 1, none⟩ = false := after_frozen (by rw [hV1]; first | (simp; done) | omega | (simp; omega)) (by rw [hV1]; (repeat (first | exact fn (by first | (simp; done) | omega | (simp; omega)) | refine fo (by first | (simp; done) | omega | (simp; omega)) ?_)))
  have zx : ∀ v : After V1, u3.w.heap.size < v.w.heap.size := after_size (by rw [hV1]; first | (simp; done) | omega | (simp; omega))
  rw [← hV1]
  obtain ⟨u4, hu⟩ : ∃ u : After V1, u.w = V1 := ⟨After.here V1, rfl⟩
  rw [← hu]
  clear hu hV1 hCV1
  refine (rCut_any _ ps ls a b on _ _ hp1 hl1 (HN.out u4)).mono ?_
  rintro e w9 h9
  obtain ⟨v9, rfl, hn9, hB9⟩ := h9
  obtain ⟨u5, rfl⟩ : ∃ y9 : After V1, w9 = y9.w := ⟨u4.on hB9, rfl⟩
  clear hB9
  rw [HCE.out]
  obtain ⟨nb2, en2⟩ : ∃ n, (cutQ ps ls a b).length = n := ⟨_, rfl⟩
  obtain ⟨lb2, el2⟩ : ∃ n, (cutL ps ls a b on).length = n := ⟨_, rfl⟩
  have hn9 : NetIs (fun g => g < u5.w.heap.size) _ _ (cutQ ps ls a b) (cutL ps ls a b on) := hn9.here.mono fun g h => h.2
  obtain ⟨qb2, ab2, qd2, ad2, rfl⟩ := hn9.form' (n := nb2) (m := lb2) en2 el2
  have sn0u5 : W.heap.size < u5.w.heap.size := by have := zn u5; omega
  have ln0u5 : W.heap.size ≤ u5.w.heap.size := by have := zn u5; omega
  have sx0u5 : u3.w.heap.size < u5.w.heap.size := by have := zx u5; omega
  have lx0u5 : u3.w.heap.size ≤ u5.w.heap.size := by have := zx u5; omega
  go_wp2_with fail
  obtain ⟨V2, hV2⟩ : ∃ V2, V2 = (u5.w.alloc (.cells #[.slice qb2 (nb2) qd2, .slice ab2 (lb2) ad2] 25)) := ⟨_, rfl⟩
  have hCV2 : Below u5.w.heap.size u5.w V2 := by rw [hV2]; exact (by repeat (first | exact Below.refl _ _ | assumption | refine b_then ?_ (by assumption) | refine b_alloc ?_ _ | refine b_drewN ?_ _ | refine b_drew ?_ | refine b_set ?_ (by omega) _ | refine b_set ?_ (by simp) _))
  have hBV2 : Below V1.heap.size V1 V2 := b_then u5.w_below hCV2
  have yV2n := zn u5
  have yV2x := zx u5
  replace n0 := upc hBV2 n0
  replace fn0 := upf hBV2 fn0
  replace n1 := upc hBV2 n1
  replace fn1 := upf hBV2 fn1
  replace x0 := upc hBV2 x0
  replace fx0 := upf hBV2 fx0
  replace x1 := upc hBV2 x1
  replace fx1 := upf hBV2 fx1
  replace zn := upz hBV2 zn
  replace zx := upz hBV2 zx
  replace HN := hid (upn hBV2 HN.out)
  replace HN1 := hid (upn hBV2 HN1.out)
  have WV2 := hid (upb hBV2 WV1.out)
  have HN2 : Hid (∀ v : After V2, NetIs (fun g => g < u5.w.heap.size) v.w (.agg #[.slice qb2 (nb2) qd2, .slice ab2 (lb2) ad2]) (cutQ ps ls a b) (cutL ps ls a b on)) := hid fun v => hn9.below (b_then hCV2 v.2)
  have y0 : ∀ v : After V2, v.w.cell? ⟨u5.w.heap.size, 0, none⟩ = some (.slice qb2 (nb2) qd2) := after_cell (by rw [hV2]; first | (simp; done) | omega | (simp; omega)) (by rw [hV2]; (repeat (first | with_reducible assumption | exact bn (by first | (simp; done) | omega | (simp; omega)) rfl | refine bo (by first | (simp; done) | omega | (simp; omega)) ?_)))
  have fy0 : ∀ v : After V2, v.w.frozen? ⟨u5.w.heap.size, 0, none⟩ = false := after_frozen (by rw [hV2]; first | (simp; done) | omega | (simp; omega)) (by rw [hV2]; (repeat (first | exact fn (by first | (simp; done) | omega | (simp; omega)) | refine fo (by first | (simp; done) | omega | (simp; omega)) ?_)))
  have y1 : ∀ v : After V2, v.w.cell? ⟨u5.w.heap.size, 1, none⟩ = some (.slice ab2 (lb2) ad2) := after_cell (by rw [hV2]; first | (simp; done) | omega | (simp; omega)) (by rw [hV2]; (repeat (first | with_reducible assumption | exact bn (by first | (simp; done) | omega | (simp; omega)) rfl | refine bo (by first | (simp; done) | omega | (simp; omega)) ?_)))
  have fy1 : ∀ v : After V2, v.w.frozen? ⟨u5.w.heap.size, 1, none⟩ = false := after_frozen (by rw [hV2]; first | (simp; done) | omega | (simp; omega)) (by rw [hV2]; (repeat (first | exact fn (by first | (simp; done) | omega | (simp; omega)) | refine fo (by first | (simp; done) | omega | (simp; omega)) ?_)))
  have zy : ∀ v : After V2, u5.w.heap.size < v.w.heap.size := after_size (by rw [hV2]; first | (simp; done) | omega | (simp; omega))
  rw [← hV2]
  obtain ⟨u6, hu⟩ : ∃ u : After V2, u.w = V2 := ⟨After.here V2, rfl⟩
  rw [← hu]
  clear hu hV2 hCV2
  clear sn0u3 ln0u3 sn0u5 ln0u5 sx0u5 lx0u5
  refine (met (same_any d (cutQ ps ls a b) (cutQ ps ls a b) (cutL ps ls a b on) (cutL ps ls a b on) _ _ _ _ _ (Nat.le_trans (cutQ_len ps ls a b) hp1) (cutL_len ps ls a b on) (HN1.out u6) (HN2.out u6) (fun q hq => (HE.out q (.inl (cutQ_mem (hq.elim id id)))).below (WV2.out u6)))).mono ?_
  rintro e _ ⟨rfl, u7, rfl⟩
  rw [decide_eq_true ⟨rfl, rfl⟩]
  clear HN1 HN2
  have ece : (ce != ce) = false := by simp
  go_wp2_with fail
  clear ece
  have yn := zn u7
  obtain ⟨i0, hi, hz0, hz1, hz2⟩ := info_parts info3
  have h40 : nn ≤ 40 := hn40
  go_loopw [15, 16] (fun l i wr => AllIn u7 at_ nn l i wr) (fun _ i _ => 3 - (intOf i).toNat)
  case atStart => exact ⟨0, u7.on (b_alloc (Below.refl _ _) (.cells #[.int .i64 at_] 3)), by omega, by omega, rfl, rfl, by show _ ≤ (World.alloc _ _).heap.size; simp, by show (World.alloc _ _).ownsRow _ _ _ _ _ _; exact own_one rfl (Nat.le_refl _)⟩
  case round =>
    obtain ⟨k, z, hk, hk3, rfl, rfl, hsz, ho⟩ := hrel
    have HO := hid ho; clear ho
    by_cases hc : k < nn ∧ k < 3
    · obtain ⟨h1, h2⟩ := hc
      have d1 : decide ((k : Int) < (nn : Int)) = true := decide_eq_true (by omega)
      have d2 : decide ((k : Int) < 3) = true := decide_eq_true (by omega)
      have n0' := n0 z
      go_wp2_with (at_builtin; refine wpList_append_own _ rfl (.tmp 68) (.tmp 70) 45 rfl u7.w.heap.size 3 i0 (.int .i64 0) 1 8 und45 hi hz0 hz1 hz2 rfl (by decide) _ _ _ rfl (HO.out.alloc _) ⟨z.w.heap.size, 0, none⟩ 1 1 [.int .i64 (k : Int)] rfl rfl (news (cs := #[.int .i64 k]) rfl) (by intro u hu; simp at hu; rcases hu with rfl; rfl) (by unfold maxLen; omega) (by omega) (by simp; omega) ?_; intro v' w1 hown' hgrow _)
      obtain ⟨z4, rfl, hsz4⟩ := After.app u7 (z.on (b_alloc (Below.refl _ _) (.cells #[.int .i64 k] 3))) (HO.out.alloc _) hgrow (by show _ ≤ (World.alloc _ _).heap.size; simp; omega)
      have HO4 := hid hown'
      clear hown' hgrow
      go_wp2_with fail
      go_roundw
      case rel => exact ⟨k + 1, z4, by omega, by omega, by go_num, rfl, hsz4, by rw [allOf_next]; exact HO4.out⟩
      case measure => simp [intOf]; omega
    obtain ⟨va, vc, rfl, -, -, hvR, -⟩ := own_slice HO.out
    obtain ⟨bv, ov, rfl, hbv⟩ := hvR.addr (by simp [allOf])
    have HR := hid (after_rd hvR); clear hvR HO
    have hend : (decide (k < nn) = false) ∨ (decide (k < nn) = true ∧ decide ((k : Int) < 3) = false) := by
      by_cases h1 : k < nn
      · exact .inr ⟨decide_eq_true (by omega), decide_eq_false (by omega)⟩
      · exact .inl (decide_eq_false (by omega))
    clear hc
    rcases hend with d1 | ⟨d1, d2⟩
    all_goals
    have n0' := n0 z
    go_wp2_with fail
    clear n0'

    obtain ⟨V3, hV3⟩ : ∃ V3, V3 = z.w := ⟨_, rfl⟩
    have hBV3 : Below V2.heap.size V2 V3 := by rw [hV3]; exact z.w_below
    replace n0 := upc hBV3 n0
    replace fn0 := upf hBV3 fn0
    replace n1 := upc hBV3 n1
    replace fn1 := upf hBV3 fn1
    replace zn := upz hBV3 zn
    replace HN := hid (upn hBV3 HN.out)
    have WV3 := hid (upb hBV3 WV2.out)
    have HR3 : Hid (∀ v : After V3, Rd v.w (some ⟨bv, ov, none⟩) ((allOf at_ k).map (Value.int .i64))) := hid (after_rd (by rw [hV3]; exact HR.out (After.here _)))
    rw [← hV3]
    obtain ⟨y0, hu⟩ : ∃ u : After V3, u.w = V3 := ⟨After.here V3, rfl⟩
    rw [← hu]
    clear hu hV3
    clear HR
    have hAL : ((allOf at_ k).map (Value.int .i64)).length = k + 1 := by simp [allOf]
    have HAL := hid hAL; clear hAL
    go_loopw [74] (fun i wr => RngIn V3 (k + 1) i wr) (fun i _ => k + 1 - (intOf i).toNat)
    case atStart => exact ⟨0, y0, by omega, rfl, rfl⟩
    case round =>
      obtain ⟨j, y, hj, rfl, rfl⟩ := hrel
      by_cases hlt : j < k + 1
      case neg =>
        have d3 : decide ((j : Int) < (k : Int) + 1) = false := decide_eq_false (by omega)
        have d4 : decide (j < k + 1) = false := decide_eq_false (by omega)
        go_wp2_with fail
        exact bodyPost_ret (v := .bool true) (by simp [results, Try.results6, go_sem]) rfl ⟨rfl, WV3.out _⟩
      have d3 : decide ((j : Int) < (k : Int) + 1) = true := decide_eq_true (by omega)
      have d4 : decide (j < k + 1) = true := decide_eq_true (by omega)
      have hal := HAL.out
      have kj : ∀ v : After V3, v.w.cell? ⟨bv, ov + j, none⟩ = some (.int .i64 (allOf at_ k)[j]!) := after_row HR3.out (by rw [List.getElem?_map, getElem!_pos _ _ (by simpa using (show j < _ by simpa using (show j < ((allOf at_ k).map (Value.int .i64)).length by rw [hal]; exact hlt))), List.getElem?_eq_getElem (by simpa using (show j < ((allOf at_ k).map (Value.int .i64)).length by rw [hal]; exact hlt))]; rfl)
      clear hal
      generalize (allOf at_ k)[j]! = i at kj
      obtain ⟨g, hg⟩ : ∃ x, ask ps ls i = x := ⟨_, rfl⟩
      obtain ⟨p, hpd⟩ : ∃ x, delP ps ls i = x := ⟨_, rfl⟩
      have HG := hid hg; have HPD := hid hpd; clear hg hpd
      have hpm : p ∈ ps ∨ p = Pk.zero := HPD.out ▸ delP_is ps ls i
      go_wp2_with fail
      refine (Deliver_any _ ps ls i _ _ hp1 hl1 (HN.out y)).mono ?_
      rintro e w9 ⟨v9, rfl, hn9, hB9⟩
      obtain ⟨r0, rfl⟩ : ∃ y9 : After V3, w9 = y9.w := ⟨y.on hB9, rfl⟩
      clear hB9
      rw [HPD.out, HG.out]
      obtain ⟨nb1, en1⟩ : ∃ n, (leftQ ps ls i).length = n := ⟨_, rfl⟩
      obtain ⟨lb1, el1⟩ : ∃ n, (leftL ps ls i).length = n := ⟨_, rfl⟩
      have hn9 : NetIs (fun g => g < r0.w.heap.size) _ _ (leftQ ps ls i) (leftL ps ls i) := hn9.here.mono fun g h => h.2
      obtain ⟨qb1, ab1, qd1, ad1, rfl⟩ := hn9.form' (n := nb1) (m := lb1) en1 el1
      rw [show p.v = .agg #[.int .i64 p.fr, .int .i64 p.to, .slice p.da p.dn p.dc] from rfl]
      have sn0r0 : W.heap.size < r0.w.heap.size := by have := zn r0; omega
      have ln0r0 : W.heap.size ≤ r0.w.heap.size := by have := zn r0; omega
      go_wp2_with fail
      obtain ⟨A1, hA1⟩ : ∃ A1, A1 = ((r0.w.alloc (.cells #[.int .i64 p.fr, .int .i64 p.to, .slice p.da p.dn p.dc] 28)).alloc (.cells #[.slice qb1 (nb1) qd1, .slice ab1 (lb1) ad1] 25)) := ⟨_, rfl⟩
      have hCA1 : Below r0.w.heap.size r0.w A1 := by rw [hA1]; exact (by repeat (first | exact Below.refl _ _ | assumption | refine b_then ?_ (by assumption) | refine b_alloc ?_ _ | refine b_drewN ?_ _ | refine b_drew ?_ | refine b_set ?_ (by omega) _ | refine b_set ?_ (by simp) _))
      have hBA1 : Below V3.heap.size V3 A1 := b_then r0.w_below hCA1
      have yA1n := zn r0
      replace n0 := upc hBA1 n0
      replace fn0 := upf hBA1 fn0
      replace n1 := upc hBA1 n1
      replace fn1 := upf hBA1 fn1
      replace zn := upz hBA1 zn
      replace HN := hid (upn hBA1 HN.out)
      have WA1 := hid (upb hBA1 WV3.out)
      have HN1 : Hid (∀ v : After A1, NetIs (fun g => g < r0.w.heap.size) v.w (.agg #[.slice qb1 (nb1) qd1, .slice ab1 (lb1) ad1]) (leftQ ps ls i) (leftL ps ls i)) := hid fun v => hn9.below (b_then hCA1 v.2)
      have p0 : ∀ v : After A1, v.w.cell? ⟨r0.w.heap.size, 0, none⟩ = some (.int .i64 p.fr) := after_cell (by rw [hA1]; first | (simp; done) | omega | (simp; omega)) (by rw [hA1]; (repeat (first | with_reducible assumption | exact bn (by first | (simp; done) | omega | (simp; omega)) rfl | refine bo (by first | (simp; done) | omega | (simp; omega)) ?_)))
      have fp0 : ∀ v : After A1, v.w.frozen? ⟨r0.w.heap.size, 0, none⟩ = false := after_frozen (by rw [hA1]; first | (simp; done) | omega | (simp; omega)) (by rw [hA1]; (repeat (first | exact fn (by first | (simp; done) | omega | (simp; omega)) | refine fo (by first | (simp; done) | omega | (simp; omega)) ?_)))
      have p1 : ∀ v : After A1, v.w.cell? ⟨r0.w.heap.size, 1, none⟩ = some (.int .i64 p.to) := after_cell (by rw [hA1]; first | (simp; done) | omega | (simp; omega)) (by rw [hA1]; (repeat (first | with_reducible assumption | exact bn (by first | (simp; done) | omega | (simp; omega)) rfl | refine bo (by first | (simp; done) | omega | (simp; omega)) ?_)))
      have fp1 : ∀ v : After A1, v.w.frozen? ⟨r0.w.heap.size, 1, none⟩ = false := after_frozen (by rw [hA1]; first | (simp; done) | omega | (simp; omega)) (by rw [hA1]; (repeat (first | exact fn (by first | (simp; done) | omega | (simp; omega)) | refine fo (by first | (simp; done) | omega | (simp; omega)) ?_)))
      have p2 : ∀ v : After A1, v.w.cell? ⟨r0.w.heap.size, 2, none⟩ = some (.slice p.da p.dn p.dc) := after_cell (by rw [hA1]; first | (simp; done) | omega | (simp; omega)) (by rw [hA1]; (repeat (first | with_reducible assumption | exact bn (by first | (simp; done) | omega | (simp; omega)) rfl | refine bo (by first | (simp; done) | omega | (simp; omega)) ?_)))
      have fp2 : ∀ v : After A1, v.w.frozen? ⟨r0.w.heap.size, 2, none⟩ = false := after_frozen (by rw [hA1]; first | (simp; done) | omega | (simp; omega)) (by rw [hA1]; (repeat (first | exact fn (by first | (simp; done) | omega | (simp; omega)) | refine fo (by first | (simp; done) | omega | (simp; omega)) ?_)))
      have zp : ∀ v : After A1, r0.w.heap.size < v.w.heap.size := after_size (by rw [hA1]; first | (simp; done) | omega | (simp; omega))
      have c0 : ∀ v : After A1, v.w.cell? ⟨r0.w.heap.size + 1, 0, none⟩ = some (.slice qb1 (nb1) qd1) := after_cell (by rw [hA1]; first | (simp; done) | omega | (simp; omega)) (by rw [hA1]; (repeat (first | with_reducible assumption | exact bn (by first | (simp; done) | omega | (simp; omega)) rfl | refine bo (by first | (simp; done) | omega | (simp; omega)) ?_)))
      have fc0 : ∀ v : After A1, v.w.frozen? ⟨r0.w.heap.size + 1, 0, none⟩ = false := after_frozen (by rw [hA1]; first | (simp; done) | omega | (simp; omega)) (by rw [hA1]; (repeat (first | exact fn (by first | (simp; done) | omega | (simp; omega)) | refine fo (by first | (simp; done) | omega | (simp; omega)) ?_)))
      have c1 : ∀ v : After A1, v.w.cell? ⟨r0.w.heap.size + 1, 1, none⟩ = some (.slice ab1 (lb1) ad1) := after_cell (by rw [hA1]; first | (simp; done) | omega | (simp; omega)) (by rw [hA1]; (repeat (first | with_reducible assumption | exact bn (by first | (simp; done) | omega | (simp; omega)) rfl | refine bo (by first | (simp; done) | omega | (simp; omega)) ?_)))
      have fc1 : ∀ v : After A1, v.w.frozen? ⟨r0.w.heap.size + 1, 1, none⟩ = false := after_frozen (by rw [hA1]; first | (simp; done) | omega | (simp; omega)) (by rw [hA1]; (repeat (first | exact fn (by first | (simp; done) | omega | (simp; omega)) | refine fo (by first | (simp; done) | omega | (simp; omega)) ?_)))
      have zc : ∀ v : After A1, r0.w.heap.size + 1 < v.w.heap.size := after_size (by rw [hA1]; first | (simp; done) | omega | (simp; omega))
      rw [← hA1]
      obtain ⟨r1, hu⟩ : ∃ u : After A1, u.w = A1 := ⟨After.here A1, rfl⟩
      rw [← hu]
      clear hu hA1 hCA1
      refine (rDeliver_any _ ps ls i _ _ hp1 hl1 (HN.out r1)).mono ?_
      rintro e w9 ⟨v9, rfl, hn9, hB9⟩
      obtain ⟨r2, rfl⟩ : ∃ y9 : After A1, w9 = y9.w := ⟨r1.on hB9, rfl⟩
      clear hB9
      rw [HPD.out, HG.out]
      obtain ⟨nb2, en2⟩ : ∃ n, (leftQ ps ls i).length = n := ⟨_, rfl⟩
      obtain ⟨lb2, el2⟩ : ∃ n, (leftL ps ls i).length = n := ⟨_, rfl⟩
      have hn9 : NetIs (fun g => g < r2.w.heap.size) _ _ (leftQ ps ls i) (leftL ps ls i) := hn9.here.mono fun g h => h.2
      obtain ⟨qb2, ab2, qd2, ad2, rfl⟩ := hn9.form' (n := nb2) (m := lb2) en2 el2
      rw [show p.v = .agg #[.int .i64 p.fr, .int .i64 p.to, .slice p.da p.dn p.dc] from rfl]
      have sn0r2 : W.heap.size < r2.w.heap.size := by have := zn r2; omega
      have ln0r2 : W.heap.size ≤ r2.w.heap.size := by have := zn r2; omega
      have sp0r2 : r0.w.heap.size < r2.w.heap.size := by have := zp r2; omega
      have lp0r2 : r0.w.heap.size ≤ r2.w.heap.size := by have := zp r2; omega
      have sc0r2 : r0.w.heap.size + 1 < r2.w.heap.size := by have := zc r2; omega
      have lc0r2 : r0.w.heap.size + 1 ≤ r2.w.heap.size := by have := zc r2; omega
      go_wp2_with fail
      obtain ⟨A2, hA2⟩ : ∃ A2, A2 = ((r2.w.alloc (.cells #[.int .i64 p.fr, .int .i64 p.to, .slice p.da p.dn p.dc] 28)).alloc (.cells #[.slice qb2 (nb2) qd2, .slice ab2 (lb2) ad2] 25)) := ⟨_, rfl⟩
      have hCA2 : Below r2.w.heap.size r2.w A2 := by rw [hA2]; exact (by repeat (first | exact Below.refl _ _ | assumption | refine b_then ?_ (by assumption) | refine b_alloc ?_ _ | refine b_drewN ?_ _ | refine b_drew ?_ | refine b_set ?_ (by omega) _ | refine b_set ?_ (by simp) _))
      have hBA2 : Below A1.heap.size A1 A2 := b_then r2.w_below hCA2
      have yA2n := zn r2
      have yA2p := zp r2
      have yA2c := zc r2
      replace n0 := upc hBA2 n0
      replace fn0 := upf hBA2 fn0
      replace n1 := upc hBA2 n1
      replace fn1 := upf hBA2 fn1
      replace p0 := upc hBA2 p0
      replace fp0 := upf hBA2 fp0
      replace p1 := upc hBA2 p1
      replace fp1 := upf hBA2 fp1
      replace p2 := upc hBA2 p2
      replace fp2 := upf hBA2 fp2
      replace c0 := upc hBA2 c0
      replace fc0 := upf hBA2 fc0
      replace c1 := upc hBA2 c1
      replace fc1 := upf hBA2 fc1
      replace zn := upz hBA2 zn
      replace zp := upz hBA2 zp
      replace zc := upz hBA2 zc
      replace HN := hid (upn hBA2 HN.out)
      replace HN1 := hid (upn hBA2 HN1.out)
      have WA2 := hid (upb hBA2 WA1.out)
      have HN2 : Hid (∀ v : After A2, NetIs (fun g => g < r2.w.heap.size) v.w (.agg #[.slice qb2 (nb2) qd2, .slice ab2 (lb2) ad2]) (leftQ ps ls i) (leftL ps ls i)) := hid fun v => hn9.below (b_then hCA2 v.2)
      have q0 : ∀ v : After A2, v.w.cell? ⟨r2.w.heap.size, 0, none⟩ = some (.int .i64 p.fr) := after_cell (by rw [hA2]; first | (simp; done) | omega | (simp; omega)) (by rw [hA2]; (repeat (first | with_reducible assumption | exact bn (by first | (simp; done) | omega | (simp; omega)) rfl | refine bo (by first | (simp; done) | omega | (simp; omega)) ?_)))
      have fq0 : ∀ v : After A2, v.w.frozen? ⟨r2.w.heap.size, 0, none⟩ = false := after_frozen (by rw [hA2]; first | (simp; done) | omega | (simp; omega)) (by rw [hA2]; (repeat (first | exact fn (by first | (simp; done) | omega | (simp; omega)) | refine fo (by first | (simp; done) | omega | (simp; omega)) ?_)))
      have q1 : ∀ v : After A2, v.w.cell? ⟨r2.w.heap.size, 1, none⟩ = some (.int .i64 p.to) := after_cell (by rw [hA2]; first | (simp; done) | omega | (simp; omega)) (by rw [hA2]; (repeat (first | with_reducible assumption | exact bn (by first | (simp; done) | omega | (simp; omega)) rfl | refine bo (by first | (simp; done) | omega | (simp; omega)) ?_)))
      have fq1 : ∀ v : After A2, v.w.frozen? ⟨r2.w.heap.size, 1, none⟩ = false := after_frozen (by rw [hA2]; first | (simp; done) | omega | (simp; omega)) (by rw [hA2]; (repeat (first | exact fn (by first | (simp; done) | omega | (simp; omega)) | refine fo (by first | (simp; done) | omega | (simp; omega)) ?_)))
      have q2 : ∀ v : After A2, v.w.cell? ⟨r2.w.heap.size, 2, none⟩ = some (.slice p.da p.dn p.dc) := after_cell (by rw [hA2]; first | (simp; done) | omega | (simp; omega)) (by rw [hA2]; (repeat (first | with_reducible assumption | exact bn (by first | (simp; done) | omega | (simp; omega)) rfl | refine bo (by first | (simp; done) | omega | (simp; omega)) ?_)))
      have fq2 : ∀ v : After A2, v.w.frozen? ⟨r2.w.heap.size, 2, none⟩ = false := after_frozen (by rw [hA2]; first | (simp; done) | omega | (simp; omega)) (by rw [hA2]; (repeat (first | exact fn (by first | (simp; done) | omega | (simp; omega)) | refine fo (by first | (simp; done) | omega | (simp; omega)) ?_)))
      have zq : ∀ v : After A2, r2.w.heap.size < v.w.heap.size := after_size (by rw [hA2]; first | (simp; done) | omega | (simp; omega))
      have d0 : ∀ v : After A2, v.w.cell? ⟨r2.w.heap.size + 1, 0, none⟩ = some (.slice qb2 (nb2) qd2) := after_cell (by rw [hA2]; first | (simp; done) | omega | (simp; omega)) (by rw [hA2]; (repeat (first | with_reducible assumption | exact bn (by first | (simp; done) | omega | (simp; omega)) rfl | refine bo (by first | (simp; done) | omega | (simp; omega)) ?_)))
      have fd0 : ∀ v : After A2, v.w.frozen? ⟨r2.w.heap.size + 1, 0, none⟩ = false := after_frozen (by rw [hA2]; first | (simp; done) | omega | (simp; omega)) (by rw [hA2]; (repeat (first | exact fn (by first | (simp; done) | omega | (simp; omega)) | refine fo (by first | (simp; done) | omega | (simp; omega)) ?_)))
      have d1 : ∀ v : After A2, v.w.cell? ⟨r2.w.heap.size + 1, 1, none⟩ = some (.slice ab2 (lb2) ad2) := after_cell (by rw [hA2]; first | (simp; done) | omega | (simp; omega)) (by rw [hA2]; (repeat (first | with_reducible assumption | exact bn (by first | (simp; done) | omega | (simp; omega)) rfl | refine bo (by first | (simp; done) | omega | (simp; omega)) ?_)))
      have fd1 : ∀ v : After A2, v.w.frozen? ⟨r2.w.heap.size + 1, 1, none⟩ = false := after_frozen (by rw [hA2]; first | (simp; done) | omega | (simp; omega)) (by rw [hA2]; (repeat (first | exact fn (by first | (simp; done) | omega | (simp; omega)) | refine fo (by first | (simp; done) | omega | (simp; omega)) ?_)))
      have zd : ∀ v : After A2, r2.w.heap.size + 1 < v.w.heap.size := after_size (by rw [hA2]; first | (simp; done) | omega | (simp; omega))
      rw [← hA2]
      obtain ⟨r3, hu⟩ : ∃ u : After A2, u.w = A2 := ⟨After.here A2, rfl⟩
      rw [← hu]
      clear hu hA2 hCA2
      clear sn0r0 ln0r0 sn0r2 ln0r2 sp0r2 lp0r2 sc0r2 lc0r2
      have g := met (samePacket_any d p p r3.w ((HE.out p hpm).below (WA2.out r3)) ((HE.out p hpm).below (WA2.out r3)))
      rw [show p.v = .agg #[.int .i64 p.fr, .int .i64 p.to, .slice p.da p.dn p.dc] from rfl, decide_eq_true rfl] at g
      refine g.mono ?_
      clear g
      rintro e _ ⟨rfl, r4, rfl⟩
      go_wp2_with fail
      refine (met (same_any d (leftQ ps ls i) (leftQ ps ls i) (leftL ps ls i) (leftL ps ls i) _ _ _ _ _ (Nat.le_trans (leftQ_len ps ls i) hp1) (Nat.le_trans (leftL_len ps ls i) hl1) (HN1.out r4) (HN2.out r4) (fun q hq => (HE.out q (.inl (leftQ_mem (hq.elim id id)))).below (WA2.out r4)))).mono ?_
      rintro e _ ⟨rfl, r5, rfl⟩
      rw [decide_eq_true ⟨rfl, rfl⟩]
      go_wp2_with fail
      clear HN1 HN2
      have lc := zc r5
      have ld := zd r5
      have lp := zp r5
      have lq := zq r5
      have ln := zn r5
      refine (Lose_any _ ps ls i _ _ hp1 hl1 (HN.out r5)).mono ?_
      rintro e w9 h9
      obtain ⟨v9, rfl, hn9, hB9⟩ := h9
      have hsz3 := hB9.size
      obtain ⟨r6, rfl⟩ : ∃ y9 : After A2, w9 = y9.w := ⟨r5.on hB9, rfl⟩
      clear hB9
      rw [HG.out]
      obtain ⟨nb3, en3⟩ : ∃ n, (leftQ ps ls i).length = n := ⟨_, rfl⟩
      obtain ⟨lb3, el3⟩ : ∃ n, (leftL ps ls i).length = n := ⟨_, rfl⟩
      have hn9 : NetIs (fun g => g < W.heap.size ∨ r5.w.heap.size ≤ g) _ _ (leftQ ps ls i) (leftL ps ls i) := hn9
      obtain ⟨qb3, ab3, qd3, ad3, rfl⟩ := hn9.form' (n := nb3) (m := lb3) en3 el3
      go_wp2_with fail
      obtain ⟨A3, hA3⟩ : ∃ A3, A3 = ((r6.w.setCell ⟨r0.w.heap.size + 1, 0, none⟩ (.slice qb3 (nb3) qd3)).setCell ⟨r0.w.heap.size + 1, 1, none⟩ (.slice ab3 (lb3) ad3)) := ⟨_, rfl⟩
      replace n0 : ∀ v : After A3, v.w.cell? ⟨W.heap.size, 0, none⟩ = some (.slice qa nn qc) := after_cell (by rw [hA3]; simpa using cell_lt (n0 r6)) (by rw [hA3]; exact (st_off _ (by first | (left; decide) | (right; omega) | (right; simp; omega)) (st_off _ (by first | (left; decide) | (right; omega) | (right; simp; omega)) (n0 r6))))
      replace fn0 : ∀ v : After A3, v.w.frozen? ⟨W.heap.size, 0, none⟩ = false := after_frozen (by rw [hA3]; simpa using zn r6) (by rw [hA3]; exact (sf _ (sf _ (fn0 r6))))
      replace n1 : ∀ v : After A3, v.w.cell? ⟨W.heap.size, 1, none⟩ = some (.slice aa mm ac) := after_cell (by rw [hA3]; simpa using cell_lt (n1 r6)) (by rw [hA3]; exact (st_off _ (by first | (left; decide) | (right; omega) | (right; simp; omega)) (st_off _ (by first | (left; decide) | (right; omega) | (right; simp; omega)) (n1 r6))))
      replace fn1 : ∀ v : After A3, v.w.frozen? ⟨W.heap.size, 1, none⟩ = false := after_frozen (by rw [hA3]; simpa using zn r6) (by rw [hA3]; exact (sf _ (sf _ (fn1 r6))))
      replace p0 : ∀ v : After A3, v.w.cell? ⟨r0.w.heap.size, 0, none⟩ = some (.int .i64 p.fr) := after_cell (by rw [hA3]; simpa using cell_lt (p0 r6)) (by rw [hA3]; exact (st_off _ (by first | (left; decide) | (right; omega) | (right; simp; omega)) (st_off _ (by first | (left; decide) | (right; omega) | (right; simp; omega)) (p0 r6))))
      replace fp0 : ∀ v : After A3, v.w.frozen? ⟨r0.w.heap.size, 0, none⟩ = false := after_frozen (by rw [hA3]; simpa using zp r6) (by rw [hA3]; exact (sf _ (sf _ (fp0 r6))))
      replace p1 : ∀ v : After A3, v.w.cell? ⟨r0.w.heap.size, 1, none⟩ = some (.int .i64 p.to) := after_cell (by rw [hA3]; simpa using cell_lt (p1 r6)) (by rw [hA3]; exact (st_off _ (by first | (left; decide) | (right; omega) | (right; simp; omega)) (st_off _ (by first | (left; decide) | (right; omega) | (right; simp; omega)) (p1 r6))))
      replace fp1 : ∀ v : After A3, v.w.frozen? ⟨r0.w.heap.size, 1, none⟩ = false := after_frozen (by rw [hA3]; simpa using zp r6) (by rw [hA3]; exact (sf _ (sf _ (fp1 r6))))
      replace p2 : ∀ v : After A3, v.w.cell? ⟨r0.w.heap.size, 2, none⟩ = some (.slice p.da p.dn p.dc) := after_cell (by rw [hA3]; simpa using cell_lt (p2 r6)) (by rw [hA3]; exact (st_off _ (by first | (left; decide) | (right; omega) | (right; simp; omega)) (st_off _ (by first | (left; decide) | (right; omega) | (right; simp; omega)) (p2 r6))))
      replace fp2 : ∀ v : After A3, v.w.frozen? ⟨r0.w.heap.size, 2, none⟩ = false := after_frozen (by rw [hA3]; simpa using zp r6) (by rw [hA3]; exact (sf _ (sf _ (fp2 r6))))
      replace c0 : ∀ v : After A3, v.w.cell? ⟨r0.w.heap.size + 1, 0, none⟩ = some (.slice qb3 (nb3) qd3) := after_cell (by rw [hA3]; simpa using cell_lt (c0 r6)) (by rw [hA3]; exact (st_off _ (.inl (by decide)) (st_hit _ (c0 r6))))
      replace fc0 : ∀ v : After A3, v.w.frozen? ⟨r0.w.heap.size + 1, 0, none⟩ = false := after_frozen (by rw [hA3]; simpa using zc r6) (by rw [hA3]; exact (sf _ (sf _ (fc0 r6))))
      replace c1 : ∀ v : After A3, v.w.cell? ⟨r0.w.heap.size + 1, 1, none⟩ = some (.slice ab3 (lb3) ad3) := after_cell (by rw [hA3]; simpa using cell_lt (c1 r6)) (by rw [hA3]; exact (st_hit _ (st_off _ (.inl (by decide)) (c1 r6))))
      replace fc1 : ∀ v : After A3, v.w.frozen? ⟨r0.w.heap.size + 1, 1, none⟩ = false := after_frozen (by rw [hA3]; simpa using zc r6) (by rw [hA3]; exact (sf _ (sf _ (fc1 r6))))
      replace q0 : ∀ v : After A3, v.w.cell? ⟨r2.w.heap.size, 0, none⟩ = some (.int .i64 p.fr) := after_cell (by rw [hA3]; simpa using cell_lt (q0 r6)) (by rw [hA3]; exact (st_off _ (by first | (left; decide) | (right; omega) | (right; simp; omega)) (st_off _ (by first | (left; decide) | (right; omega) | (right; simp; omega)) (q0 r6))))
      replace fq0 : ∀ v : After A3, v.w.frozen? ⟨r2.w.heap.size, 0, none⟩ = false := after_frozen (by rw [hA3]; simpa using zq r6) (by rw [hA3]; exact (sf _ (sf _ (fq0 r6))))
      replace q1 : ∀ v : After A3, v.w.cell? ⟨r2.w.heap.size, 1, none⟩ = some (.int .i64 p.to) := after_cell (by rw [hA3]; simpa using cell_lt (q1 r6)) (by rw [hA3]; exact (st_off _ (by first | (left; decide) | (right; omega) | (right; simp; omega)) (st_off _ (by first | (left; decide) | (right; omega) | (right; simp; omega)) (q1 r6))))
      replace fq1 : ∀ v : After A3, v.w.frozen? ⟨r2.w.heap.size, 1, none⟩ = false := after_frozen (by rw [hA3]; simpa using zq r6) (by rw [hA3]; exact (sf _ (sf _ (fq1 r6))))
      replace q2 : ∀ v : After A3, v.w.cell? ⟨r2.w.heap.size, 2, none⟩ = some (.slice p.da p.dn p.dc) := after_cell (by rw [hA3]; simpa using cell_lt (q2 r6)) (by rw [hA3]; exact (st_off _ (by first | (left; decide) | (right; omega) | (right; simp; omega)) (st_off _ (by first | (left; decide) | (right; omega) | (right; simp; omega)) (q2 r6))))
      replace fq2 : ∀ v : After A3, v.w.frozen? ⟨r2.w.heap.size, 2, none⟩ = false := after_frozen (by rw [hA3]; simpa using zq r6) (by rw [hA3]; exact (sf _ (sf _ (fq2 r6))))
      replace d0 : ∀ v : After A3, v.w.cell? ⟨r2.w.heap.size + 1, 0, none⟩ = some (.slice qb2 (nb2) qd2) := after_cell (by rw [hA3]; simpa using cell_lt (d0 r6)) (by rw [hA3]; exact (st_off _ (by first | (left; decide) | (right; omega) | (right; simp; omega)) (st_off _ (by first | (left; decide) | (right; omega) | (right; simp; omega)) (d0 r6))))
      replace fd0 : ∀ v : After A3, v.w.frozen? ⟨r2.w.heap.size + 1, 0, none⟩ = false := after_frozen (by rw [hA3]; simpa using zd r6) (by rw [hA3]; exact (sf _ (sf _ (fd0 r6))))
      replace d1 : ∀ v : After A3, v.w.cell? ⟨r2.w.heap.size + 1, 1, none⟩ = some (.slice ab2 (lb2) ad2) := after_cell (by rw [hA3]; simpa using cell_lt (d1 r6)) (by rw [hA3]; exact (st_off _ (by first | (left; decide) | (right; omega) | (right; simp; omega)) (st_off _ (by first | (left; decide) | (right; omega) | (right; simp; omega)) (d1 r6))))
      replace fd1 : ∀ v : After A3, v.w.frozen? ⟨r2.w.heap.size + 1, 1, none⟩ = false := after_frozen (by rw [hA3]; simpa using zd r6) (by rw [hA3]; exact (sf _ (sf _ (fd1 r6))))
      replace zn : ∀ v : After A3, W.heap.size < v.w.heap.size := after_size (by rw [hA3]; simpa using zn r6)
      replace zp : ∀ v : After A3, r0.w.heap.size < v.w.heap.size := after_size (by rw [hA3]; simpa using zp r6)
      replace zc : ∀ v : After A3, r0.w.heap.size + 1 < v.w.heap.size := after_size (by rw [hA3]; simpa using zc r6)
      replace zq : ∀ v : After A3, r2.w.heap.size < v.w.heap.size := after_size (by rw [hA3]; simpa using zq r6)
      replace zd : ∀ v : After A3, r2.w.heap.size + 1 < v.w.heap.size := after_size (by rw [hA3]; simpa using zd r6)
      have hwA3 : Below W.heap.size W A3 := by rw [hA3]; exact (b_set (b_set (WA2.out r6) (by omega) _) (by omega) _)
      have WA3 := hid (after_below hwA3)
      rw [← hA3]
      obtain ⟨r7, hu⟩ : ∃ u : After A3, u.w = A3 := ⟨After.here A3, rfl⟩
      rw [← hu]
      have HA3 := hid hA3
      clear hu hA3
      replace HN := hid (fun v : After A3 => NetIs.below (by rw [HA3.out]; exact NetIs.set (NetIs.set (HN.out r6) (by omega) _) (by omega) _) v.2)
      have HN3 : Hid (∀ v : After A3, NetIs (fun g => g < W.heap.size ∨ r5.w.heap.size ≤ g) v.w (.agg #[.slice qb3 (nb3) qd3, .slice ab3 (lb3) ad3]) (leftQ ps ls i) (leftL ps ls i)) := hid fun v => NetIs.below (by rw [HA3.out]; exact NetIs.set (NetIs.set hn9 (by omega) _) (by omega) _) v.2
      have lc7 := zc r7
      have ld7 := zd r7
      refine (rLose_any _ ps ls i _ _ hp1 hl1 (HN.out r7)).mono ?_
      rintro e w9 h9
      obtain ⟨v9, rfl, hn9, hB9⟩ := h9
      have hsz4 := hB9.size
      obtain ⟨r8, rfl⟩ : ∃ y9 : After A3, w9 = y9.w := ⟨r7.on hB9, rfl⟩
      clear hB9
      rw [HG.out]
      obtain ⟨nb4, en4⟩ : ∃ n, (leftQ ps ls i).length = n := ⟨_, rfl⟩
      obtain ⟨lb4, el4⟩ : ∃ n, (leftL ps ls i).length = n := ⟨_, rfl⟩
      have hn9 : NetIs (fun g => g < W.heap.size ∨ r7.w.heap.size ≤ g) _ _ (leftQ ps ls i) (leftL ps ls i) := hn9
      obtain ⟨qb4, ab4, qd4, ad4, rfl⟩ := hn9.form' (n := nb4) (m := lb4) en4 el4
      go_wp2_with fail
      obtain ⟨A4, hA4⟩ : ∃ A4, A4 = ((r8.w.setCell ⟨r2.w.heap.size + 1, 0, none⟩ (.slice qb4 (nb4) qd4)).setCell ⟨r2.w.heap.size + 1, 1, none⟩ (.slice ab4 (lb4) ad4)) := ⟨_, rfl⟩
      replace n0 : ∀ v : After A4, v.w.cell? ⟨W.heap.size, 0, none⟩ = some (.slice qa nn qc) := after_cell (by rw [hA4]; simpa using cell_lt (n0 r8)) (by rw [hA4]; exact (st_off _ (by first | (left; decide) | (right; omega) | (right; simp; omega)) (st_off _ (by first | (left; decide) | (right; omega) | (right; simp; omega)) (n0 r8))))
      replace fn0 : ∀ v : After A4, v.w.frozen? ⟨W.heap.size, 0, none⟩ = false := after_frozen (by rw [hA4]; simpa using zn r8) (by rw [hA4]; exact (sf _ (sf _ (fn0 r8))))
      replace n1 : ∀ v : After A4, v.w.cell? ⟨W.heap.size, 1, none⟩ = some (.slice aa mm ac) := after_cell (by rw [hA4]; simpa using cell_lt (n1 r8)) (by rw [hA4]; exact (st_off _ (by first | (left; decide) | (right; omega) | (right; simp; omega)) (st_off _ (by first | (left; decide) | (right; omega) | (right; simp; omega)) (n1 r8))))
      replace fn1 : ∀ v : After A4, v.w.frozen? ⟨W.heap.size, 1, none⟩ = false := after_frozen (by rw [hA4]; simpa using zn r8) (by rw [hA4]; exact (sf _ (sf _ (fn1 r8))))
      replace p0 : ∀ v : After A4, v.w.cell? ⟨r0.w.heap.size, 0, none⟩ = some (.int .i64 p.fr) := after_cell (by rw [hA4]; simpa using cell_lt (p0 r8)) (by rw [hA4]; exact (st_off _ (by first | (left; decide) | (right; omega) | (right; simp; omega)) (st_off _ (by first | (left; decide) | (right; omega) | (right; simp; omega)) (p0 r8))))
      replace fp0 : ∀ v : After A4, v.w.frozen? ⟨r0.w.heap.size, 0, none⟩ = false := after_frozen (by rw [hA4]; simpa using zp r8) (by rw [hA4]; exact (sf _ (sf _ (fp0 r8))))
      replace p1 : ∀ v : After A4, v.w.cell? ⟨r0.w.heap.size, 1, none⟩ = some (.int .i64 p.to) := after_cell (by rw [hA4]; simpa using cell_lt (p1 r8)) (by rw [hA4]; exact (st_off _ (by first | (left; decide) | (right; omega) | (right; simp; omega)) (st_off _ (by first | (left; decide) | (right; omega) | (right; simp; omega)) (p1 r8))))
      replace fp1 : ∀ v : After A4, v.w.frozen? ⟨r0.w.heap.size, 1, none⟩ = false := after_frozen (by rw [hA4]; simpa using zp r8) (by rw [hA4]; exact (sf _ (sf _ (fp1 r8))))
      replace p2 : ∀ v : After A4, v.w.cell? ⟨r0.w.heap.size, 2, none⟩ = some (.slice p.da p.dn p.dc) := after_cell (by rw [hA4]; simpa using cell_lt (p2 r8)) (by rw [hA4]; exact (st_off _ (by first | (left; decide) | (right; omega) | (right; simp; omega)) (st_off _ (by first | (left; decide) | (right; omega) | (right; simp; omega)) (p2 r8))))
      replace fp2 : ∀ v : After A4, v.w.frozen? ⟨r0.w.heap.size, 2, none⟩ = false := after_frozen (by rw [hA4]; simpa using zp r8) (by rw [hA4]; exact (sf _ (sf _ (fp2 r8))))
      replace c0 : ∀ v : After A4, v.w.cell? ⟨r0.w.heap.size + 1, 0, none⟩ = some (.slice qb3 (nb3) qd3) := after_cell (by rw [hA4]; simpa using cell_lt (c0 r8)) (by rw [hA4]; exact (st_off _ (by first | (left; decide) | (right; omega) | (right; simp; omega)) (st_off _ (by first | (left; decide) | (right; omega) | (right; simp; omega)) (c0 r8))))
      replace fc0 : ∀ v : After A4, v.w.frozen? ⟨r0.w.heap.size + 1, 0, none⟩ = false := after_frozen (by rw [hA4]; simpa using zc r8) (by rw [hA4]; exact (sf _ (sf _ (fc0 r8))))
      replace c1 : ∀ v : After A4, v.w.cell? ⟨r0.w.heap.size + 1, 1, none⟩ = some (.slice ab3 (lb3) ad3) := after_cell (by rw [hA4]; simpa using cell_lt (c1 r8)) (by rw [hA4]; exact (st_off _ (by first | (left; decide) | (right; omega) | (right; simp; omega)) (st_off _ (by first | (left; decide) | (right; omega) | (right; simp; omega)) (c1 r8))))
      replace fc1 : ∀ v : After A4, v.w.frozen? ⟨r0.w.heap.size + 1, 1, none⟩ = false := after_frozen (by rw [hA4]; simpa using zc r8) (by rw [hA4]; exact (sf _ (sf _ (fc1 r8))))
      replace q0 : ∀ v : After A4, v.w.cell? ⟨r2.w.heap.size, 0, none⟩ = some (.int .i64 p.fr) := after_cell (by rw [hA4]; simpa using cell_lt (q0 r8)) (by rw [hA4]; exact (st_off _ (by first | (left; decide) | (right; omega) | (right; simp; omega)) (st_off _ (by first | (left; decide) | (right; omega) | (right; simp; omega)) (q0 r8))))
      replace fq0 : ∀ v : After A4, v.w.frozen? ⟨r2.w.heap.size, 0, none⟩ = false := after_frozen (by rw [hA4]; simpa using zq r8) (by rw [hA4]; exact (sf _ (sf _ (fq0 r8))))
      replace q1 : ∀ v : After A4, v.w.cell? ⟨r2.w.heap.size, 1, none⟩ = some (.int .i64 p.to) := after_cell (by rw [hA4]; simpa using cell_lt (q1 r8)) (by rw [hA4]; exact (st_off _ (by first | (left; decide) | (right; omega) | (right; simp; omega)) (st_off _ (by first | (left; decide) | (right; omega) | (right; simp; omega)) (q1 r8))))
      replace fq1 : ∀ v : After A4, v.w.frozen? ⟨r2.w.heap.size, 1, none⟩ = false := after_frozen (by rw [hA4]; simpa using zq r8) (by rw [hA4]; exact (sf _ (sf _ (fq1 r8))))
      replace q2 : ∀ v : After A4, v.w.cell? ⟨r2.w.heap.size, 2, none⟩ = some (.slice p.da p.dn p.dc) := after_cell (by rw [hA4]; simpa using cell_lt (q2 r8)) (by rw [hA4]; exact (st_off _ (by first | (left; decide) | (right; omega) | (right; simp; omega)) (st_off _ (by first | (left; decide) | (right; omega) | (right; simp; omega)) (q2 r8))))
      replace fq2 : ∀ v : After A4, v.w.frozen? ⟨r2.w.heap.size, 2, none⟩ = false := after_frozen (by rw [hA4]; simpa using zq r8) (by rw [hA4]; exact (sf _ (sf _ (fq2 r8))))
      replace d0 : ∀ v : After A4, v.w.cell? ⟨r2.w.heap.size + 1, 0, none⟩ = some (.slice qb4 (nb4) qd4) := after_cell (by rw [hA4]; simpa using cell_lt (d0 r8)) (by rw [hA4]; exact (st_off _ (.inl (by decide)) (st_hit _ (d0 r8))))
      replace fd0 : ∀ v : After A4, v.w.frozen? ⟨r2.w.heap.size + 1, 0, none⟩ = false := after_frozen (by rw [hA4]; simpa using zd r8) (by rw [hA4]; exact (sf _ (sf _ (fd0 r8))))
      replace d1 : ∀ v : After A4, v.w.cell? ⟨r2.w.heap.size + 1, 1, none⟩ = some (.slice ab4 (lb4) ad4) := after_cell (by rw [hA4]; simpa using cell_lt (d1 r8)) (by rw [hA4]; exact (st_hit _ (st_off _ (.inl (by decide)) (d1 r8))))
      replace fd1 : ∀ v : After A4, v.w.frozen? ⟨r2.w.heap.size + 1, 1, none⟩ = false := after_frozen (by rw [hA4]; simpa using zd r8) (by rw [hA4]; exact (sf _ (sf _ (fd1 r8))))
      replace zn : ∀ v : After A4, W.heap.size < v.w.heap.size := after_size (by rw [hA4]; simpa using zn r8)
      replace zp : ∀ v : After A4, r0.w.heap.size < v.w.heap.size := after_size (by rw [hA4]; simpa using zp r8)
      replace zc : ∀ v : After A4, r0.w.heap.size + 1 < v.w.heap.size := after_size (by rw [hA4]; simpa using zc r8)
      replace zq : ∀ v : After A4, r2.w.heap.size < v.w.heap.size := after_size (by rw [hA4]; simpa using zq r8)
      replace zd : ∀ v : After A4, r2.w.heap.size + 1 < v.w.heap.size := after_size (by rw [hA4]; simpa using zd r8)
      have hwA4 : Below W.heap.size W A4 := by rw [hA4]; exact (b_set (b_set (WA3.out r8) (by omega) _) (by omega) _)
      have WA4 := hid (after_below hwA4)
      rw [← hA4]
      obtain ⟨r9, hu⟩ : ∃ u : After A4, u.w = A4 := ⟨After.here A4, rfl⟩
      rw [← hu]
      have HA4 := hid hA4
      clear hu hA4
      replace HN := hid (fun v : After A4 => NetIs.below (by rw [HA4.out]; exact NetIs.set (NetIs.set (HN.out r8) (by omega) _) (by omega) _) v.2)
      replace HN3 := hid (fun v : After A4 => NetIs.below (by rw [HA4.out]; exact NetIs.set (NetIs.set (HN3.out r8) (by omega) _) (by omega) _) v.2)
      have HN4 : Hid (∀ v : After A4, NetIs (fun g => g < W.heap.size ∨ r7.w.heap.size ≤ g) v.w (.agg #[.slice qb4 (nb4) qd4, .slice ab4 (lb4) ad4]) (leftQ ps ls i) (leftL ps ls i)) := hid fun v => NetIs.below (by rw [HA4.out]; exact NetIs.set (NetIs.set hn9 (by omega) _) (by omega) _) v.2
      refine (met (same_any d (leftQ ps ls i) (leftQ ps ls i) (leftL ps ls i) (leftL ps ls i) _ _ _ _ _ (Nat.le_trans (leftQ_len ps ls i) hp1) (Nat.le_trans (leftL_len ps ls i) hl1) (HN3.out r9) (HN4.out r9) (fun q hq => (HE.out q (.inl (leftQ_mem (hq.elim id id)))).below (WA4.out r9)))).mono ?_
      rintro e _ ⟨rfl, r10, rfl⟩
      rw [decide_eq_true ⟨rfl, rfl⟩]
      go_wp2_with fail
      clear HN3 HN4
      have lc10 := zc r10
      have ld10 := zd r10
      obtain ⟨rx, hrx⟩ : ∃ x, repX ps ls i = x := ⟨_, rfl⟩
      have HRX := hid hrx; clear hrx
      refine (Repeat_any _ ps ls i _ _ hp1 hl1 (HN.out r10)).mono ?_
      rintro e w9 h9
      obtain ⟨v9, rfl, hn9, hB9⟩ := h9.one
      have hsz5 := hB9.size
      obtain ⟨r11, rfl⟩ : ∃ y9 : After A4, w9 = y9.w := ⟨r10.on hB9, rfl⟩
      clear hB9
      rw [HRX.out]
      obtain ⟨nb5, en5⟩ : ∃ n, (repQ ps ls i).length = n := ⟨_, rfl⟩
      obtain ⟨lb5, el5⟩ : ∃ n, (repL ps ls i).length = n := ⟨_, rfl⟩
      have hn9 : NetIs (fun g => g < W.heap.size ∨ r10.w.heap.size ≤ g) _ _ (repQ ps ls i) (repL ps ls i) := hn9
      obtain ⟨qb5, ab5, qd5, ad5, rfl⟩ := hn9.form' (n := nb5) (m := lb5) en5 el5
      go_wp2_with fail
      obtain ⟨A5, hA5⟩ : ∃ A5, A5 = ((r11.w.setCell ⟨r0.w.heap.size + 1, 0, none⟩ (.slice qb5 (nb5) qd5)).setCell ⟨r0.w.heap.size + 1, 1, none⟩ (.slice ab5 (lb5) ad5)) := ⟨_, rfl⟩
      replace n0 : ∀ v : After A5, v.w.cell? ⟨W.heap.size, 0, none⟩ = some (.slice qa nn qc) := after_cell (by rw [hA5]; simpa using cell_lt (n0 r11)) (by rw [hA5]; exact (st_off _ (by first | (left; decide) | (right; omega) | (right; simp; omega)) (st_off _ (by first | (left; decide) | (right; omega) | (right; simp; omega)) (n0 r11))))
      replace fn0 : ∀ v : After A5, v.w.frozen? ⟨W.heap.size, 0, none⟩ = false := after_frozen (by rw [hA5]; simpa using zn r11) (by rw [hA5]; exact (sf _ (sf _ (fn0 r11))))
      replace n1 : ∀ v : After A5, v.w.cell? ⟨W.heap.size, 1, none⟩ = some (.slice aa mm ac) := after_cell (by rw [hA5]; simpa using cell_lt (n1 r11)) (by rw [hA5]; exact (st_off _ (by first | (left; decide) | (right; omega) | (right; simp; omega)) (st_off _ (by first | (left; decide) | (right; omega) | (right; simp; omega)) (n1 r11))))
      replace fn1 : ∀ v : After A5, v.w.frozen? ⟨W.heap.size, 1, none⟩ = false := after_frozen (by rw [hA5]; simpa using zn r11) (by rw [hA5]; exact (sf _ (sf _ (fn1 r11))))
      replace p0 : ∀ v : After A5, v.w.cell? ⟨r0.w.heap.size, 0, none⟩ = some (.int .i64 p.fr) := after_cell (by rw [hA5]; simpa using cell_lt (p0 r11)) (by rw [hA5]; exact (st_off _ (by first | (left; decide) | (right; omega) | (right; simp; omega)) (st_off _ (by first | (left; decide) | (right; omega) | (right; simp; omega)) (p0 r11))))
      replace fp0 : ∀ v : After A5, v.w.frozen? ⟨r0.w.heap.size, 0, none⟩ = false := after_frozen (by rw [hA5]; simpa using zp r11) (by rw [hA5]; exact (sf _ (sf _ (fp0 r11))))
      replace p1 : ∀ v : After A5, v.w.cell? ⟨r0.w.heap.size, 1, none⟩ = some (.int .i64 p.to) := after_cell (by rw [hA5]; simpa using cell_lt (p1 r11)) (by rw [hA5]; exact (st_off _ (by first | (left; decide) | (right; omega) | (right; simp; omega)) (st_off _ (by first | (left; decide) | (right; omega) | (right; simp; omega)) (p1 r11))))
      replace fp1 : ∀ v : After A5, v.w.frozen? ⟨r0.w.heap.size, 1, none⟩ = false := after_frozen (by rw [hA5]; simpa using zp r11) (by rw [hA5]; exact (sf _ (sf _ (fp1 r11))))
      replace p2 : ∀ v : After A5, v.w.cell? ⟨r0.w.heap.size, 2, none⟩ = some (.slice p.da p.dn p.dc) := after_cell (by rw [hA5]; simpa using cell_lt (p2 r11)) (by rw [hA5]; exact (st_off _ (by first | (left; decide) | (right; omega) | (right; simp; omega)) (st_off _ (by first | (left; decide) | (right; omega) | (right; simp; omega)) (p2 r11))))
      replace fp2 : ∀ v : After A5, v.w.frozen? ⟨r0.w.heap.size, 2, none⟩ = false := after_frozen (by rw [hA5]; simpa using zp r11) (by rw [hA5]; exact (sf _ (sf _ (fp2 r11))))
      replace c0 : ∀ v : After A5, v.w.cell? ⟨r0.w.heap.size + 1, 0, none⟩ = some (.slice qb5 (nb5) qd5) := after_cell (by rw [hA5]; simpa using cell_lt (c0 r11)) (by rw [hA5]; exact (st_off _ (.inl (by decide)) (st_hit _ (c0 r11))))
      replace fc0 : ∀ v : After A5, v.w.frozen? ⟨r0.w.heap.size + 1, 0, none⟩ = false := after_frozen (by rw [hA5]; simpa using zc r11) (by rw [hA5]; exact (sf _ (sf _ (fc0 r11))))
      replace c1 : ∀ v : After A5, v.w.cell? ⟨r0.w.heap.size + 1, 1, none⟩ = some (.slice ab5 (lb5) ad5) := after_cell (by rw [hA5]; simpa using cell_lt (c1 r11)) (by rw [hA5]; exact (st_hit _ (st_off _ (.inl (by decide)) (c1 r11))))
      replace fc1 : ∀ v : After A5, v.w.frozen? ⟨r0.w.heap.size + 1, 1, none⟩ = false := after_frozen (by rw [hA5]; simpa using zc r11) (by rw [hA5]; exact (sf _ (sf _ (fc1 r11))))
      replace q0 : ∀ v : After A5, v.w.cell? ⟨r2.w.heap.size, 0, none⟩ = some (.int .i64 p.fr) := after_cell (by rw [hA5]; simpa using cell_lt (q0 r11)) (by rw [hA5]; exact (st_off _ (by first | (left; decide) | (right; omega) | (right; simp; omega)) (st_off _ (by first | (left; decide) | (right; omega) | (right; simp; omega)) (q0 r11))))
      replace fq0 : ∀ v : After A5, v.w.frozen? ⟨r2.w.heap.size, 0, none⟩ = false := after_frozen (by rw [hA5]; simpa using zq r11) (by rw [hA5]; exact (sf _ (sf _ (fq0 r11))))
      replace q1 : ∀ v : After A5, v.w.cell? ⟨r2.w.heap.size, 1, none⟩ = some (.int .i64 p.to) := after_cell (by rw [hA5]; simpa using cell_lt (q1 r11)) (by rw [hA5]; exact (st_off _ (by first | (left; decide) | (right; omega) | (right; simp; omega)) (st_off _ (by first | (left; decide) | (right; omega) | (right; simp; omega)) (q1 r11))))
      replace fq1 : ∀ v : After A5, v.w.frozen? ⟨r2.w.heap.size, 1, none⟩ = false := after_frozen (by rw [hA5]; simpa using zq r11) (by rw [hA5]; exact (sf _ (sf _ (fq1 r11))))
      replace q2 : ∀ v : After A5, v.w.cell? ⟨r2.w.heap.size, 2, none⟩ = some (.slice p.da p.dn p.dc) := after_cell (by rw [hA5]; simpa using cell_lt (q2 r11)) (by rw [hA5]; exact (st_off _ (by first | (left; decide) | (right; omega) | (right; simp; omega)) (st_off _ (by first | (left; decide) | (right; omega) | (right; simp; omega)) (q2 r11))))
      replace fq2 : ∀ v : After A5, v.w.frozen? ⟨r2.w.heap.size, 2, none⟩ = false := after_frozen (by rw [hA5]; simpa using zq r11) (by rw [hA5]; exact (sf _ (sf _ (fq2 r11))))
      replace d0 : ∀ v : After A5, v.w.cell? ⟨r2.w.heap.size + 1, 0, none⟩ = some (.slice qb4 (nb4) qd4) := after_cell (by rw [hA5]; simpa using cell_lt (d0 r11)) (by rw [hA5]; exact (st_off _ (by first | (left; decide) | (right; omega) | (right; simp; omega)) (st_off _ (by first | (left; decide) | (right; omega) | (right; simp; omega)) (d0 r11))))
      replace fd0 : ∀ v : After A5, v.w.frozen? ⟨r2.w.heap.size + 1, 0, none⟩ = false := after_frozen (by rw [hA5]; simpa using zd r11) (by rw [hA5]; exact (sf _ (sf _ (fd0 r11))))
      replace d1 : ∀ v : After A5, v.w.cell? ⟨r2.w.heap.size + 1, 1, none⟩ = some (.slice ab4 (lb4) ad4) := after_cell (by rw [hA5]; simpa using cell_lt (d1 r11)) (by rw [hA5]; exact (st_off _ (by first | (left; decide) | (right; omega) | (right; simp; omega)) (st_off _ (by first | (left; decide) | (right; omega) | (right; simp; omega)) (d1 r11))))
      replace fd1 : ∀ v : After A5, v.w.frozen? ⟨r2.w.heap.size + 1, 1, none⟩ = false := after_frozen (by rw [hA5]; simpa using zd r11) (by rw [hA5]; exact (sf _ (sf _ (fd1 r11))))
      replace zn : ∀ v : After A5, W.heap.size < v.w.heap.size := after_size (by rw [hA5]; simpa using zn r11)
      replace zp : ∀ v : After A5, r0.w.heap.size < v.w.heap.size := after_size (by rw [hA5]; simpa using zp r11)
      replace zc : ∀ v : After A5, r0.w.heap.size + 1 < v.w.heap.size := after_size (by rw [hA5]; simpa using zc r11)
      replace zq : ∀ v : After A5, r2.w.heap.size < v.w.heap.size := after_size (by rw [hA5]; simpa using zq r11)
      replace zd : ∀ v : After A5, r2.w.heap.size + 1 < v.w.heap.size := after_size (by rw [hA5]; simpa using zd r11)
      have hwA5 : Below W.heap.size W A5 := by rw [hA5]; exact (b_set (b_set (WA4.out r11) (by omega) _) (by omega) _)
      have WA5 := hid (after_below hwA5)
      rw [← hA5]
      obtain ⟨r12, hu⟩ : ∃ u : After A5, u.w = A5 := ⟨After.here A5, rfl⟩
      rw [← hu]
      have HA5 := hid hA5
      clear hu hA5
      replace HN := hid (fun v : After A5 => NetIs.below (by rw [HA5.out]; exact NetIs.set (NetIs.set (HN.out r11) (by omega) _) (by omega) _) v.2)
      have HN5 : Hid (∀ v : After A5, NetIs (fun g => g < W.heap.size ∨ r10.w.heap.size ≤ g) v.w (.agg #[.slice qb5 (nb5) qd5, .slice ab5 (lb5) ad5]) (repQ ps ls i) (repL ps ls i)) := hid fun v => NetIs.below (by rw [HA5.out]; exact NetIs.set (NetIs.set hn9 (by omega) _) (by omega) _) v.2
      have lc12 := zc r12
      have ld12 := zd r12
      refine (rRepeat_any _ ps ls i _ _ hp1 hl1 (HN.out r12)).mono ?_
      rintro e w9 h9
      obtain ⟨v9, rfl, hn9, hB9⟩ := h9.one
      have hsz6 := hB9.size
      obtain ⟨r13, rfl⟩ : ∃ y9 : After A5, w9 = y9.w := ⟨r12.on hB9, rfl⟩
      clear hB9
      rw [HRX.out]
      obtain ⟨nb6, en6⟩ : ∃ n, (repQ ps ls i).length = n := ⟨_, rfl⟩
      obtain ⟨lb6, el6⟩ : ∃ n, (repL ps ls i).length = n := ⟨_, rfl⟩
      have hn9 : NetIs (fun g => g < W.heap.size ∨ r12.w.heap.size ≤ g) _ _ (repQ ps ls i) (repL ps ls i) := hn9
      obtain ⟨qb6, ab6, qd6, ad6, rfl⟩ := hn9.form' (n := nb6) (m := lb6) en6 el6
      go_wp2_with fail
      obtain ⟨A6, hA6⟩ : ∃ A6, A6 = ((r13.w.setCell ⟨r2.w.heap.size + 1, 0, none⟩ (.slice qb6 (nb6) qd6)).setCell ⟨r2.w.heap.size + 1, 1, none⟩ (.slice ab6 (lb6) ad6)) := ⟨_, rfl⟩
      replace n0 : ∀ v : After A6, v.w.cell? ⟨W.heap.size, 0, none⟩ = some (.slice qa nn qc) := after_cell (by rw [hA6]; simpa using cell_lt (n0 r13)) (by rw [hA6]; exact (st_off _ (by first | (left; decide) | (right; omega) | (right; simp; omega)) (st_off _ (by first | (left; decide) | (right; omega) | (right; simp; omega)) (n0 r13))))
      replace fn0 : ∀ v : After A6, v.w.frozen? ⟨W.heap.size, 0, none⟩ = false := after_frozen (by rw [hA6]; simpa using zn r13) (by rw [hA6]; exact (sf _ (sf _ (fn0 r13))))
      replace n1 : ∀ v : After A6, v.w.cell? ⟨W.heap.size, 1, none⟩ = some (.slice aa mm ac) := after_cell (by rw [hA6]; simpa using cell_lt (n1 r13)) (by rw [hA6]; exact (st_off _ (by first | (left; decide) | (right; omega) | (right; simp; omega)) (st_off _ (by first | (left; decide) | (right; omega) | (right; simp; omega)) (n1 r13))))
      replace fn1 : ∀ v : After A6, v.w.frozen? ⟨W.heap.size, 1, none⟩ = false := after_frozen (by rw [hA6]; simpa using zn r13) (by rw [hA6]; exact (sf _ (sf _ (fn1 r13))))
      replace p0 : ∀ v : After A6, v.w.cell? ⟨r0.w.heap.size, 0, none⟩ = some (.int .i64 p.fr) := after_cell (by rw [hA6]; simpa using cell_lt (p0 r13)) (by rw [hA6]; exact (st_off _ (by first | (left; decide) | (right; omega) | (right; simp; omega)) (st_off _ (by first | (left; decide) | (right; omega) | (right; simp; omega)) (p0 r13))))
      replace fp0 : ∀ v : After A6, v.w.frozen? ⟨r0.w.heap.size, 0, none⟩ = false := after_frozen (by rw [hA6]; simpa using zp r13) (by rw [hA6]; exact (sf _ (sf _ (fp0 r13))))
      replace p1 : ∀ v : After A6, v.w.cell? ⟨r0.w.heap.size, 1, none⟩ = some (.int .i64 p.to) := after_cell (by rw [hA6]; simpa using cell_lt (p1 r13)) (by rw [hA6]; exact (st_off _ (by first | (left; decide) | (right; omega) | (right; simp; omega)) (st_off _ (by first | (left; decide) | (right; omega) | (right; simp; omega)) (p1 r13))))
      replace fp1 : ∀ v : After A6, v.w.frozen? ⟨r0.w.heap.size, 1, none⟩ = false := after_frozen (by rw [hA6]; simpa using zp r13) (by rw [hA6]; exact (sf _ (sf _ (fp1 r13))))
      replace p2 : ∀ v : After A6, v.w.cell? ⟨r0.w.heap.size, 2, none⟩ = some (.slice p.da p.dn p.dc) := after_cell (by rw [hA6]; simpa using cell_lt (p2 r13)) (by rw [hA6]; exact (st_off _ (by first | (left; decide) | (right; omega) | (right; simp; omega)) (st_off _ (by first | (left; decide) | (right; omega) | (right; simp; omega)) (p2 r13))))
      replace fp2 : ∀ v : After A6, v.w.frozen? ⟨r0.w.heap.size, 2, none⟩ = false := after_frozen (by rw [hA6]; simpa using zp r13) (by rw [hA6]; exact (sf _ (sf _ (fp2 r13))))
      replace c0 : ∀ v : After A6, v.w.cell? ⟨r0.w.heap.size + 1, 0, none⟩ = some (.slice qb5 (nb5) qd5) := after_cell (by rw [hA6]; simpa using cell_lt (c0 r13)) (by rw [hA6]; exact (st_off _ (by first | (left; decide) | (right; omega) | (right; simp; omega)) (st_off _ (by first | (left; decide) | (right; omega) | (right; simp; omega)) (c0 r13))))
      replace fc0 : ∀ v : After A6, v.w.frozen? ⟨r0.w.heap.size + 1, 0, none⟩ = false := after_frozen (by rw [hA6]; simpa using zc r13) (by rw [hA6]; exact (sf _ (sf _ (fc0 r13))))
      replace c1 : ∀ v : After A6, v.w.cell? ⟨r0.w.heap.size + 1, 1, none⟩ = some (.slice ab5 (lb5) ad5) := after_cell (by rw [hA6]; simpa using cell_lt (c1 r13)) (by rw [hA6]; exact (st_off _ (by first | (left; decide) | (right; omega) | (right; simp; omega)) (st_off _ (by first | (left; decide) | (right; omega) | (right; simp; omega)) (c1 r13))))
      replace fc1 : ∀ v : After A6, v.w.frozen? ⟨r0.w.heap.size + 1, 1, none⟩ = false := after_frozen (by rw [hA6]; simpa using zc r13) (by rw [hA6]; exact (sf _ (sf _ (fc1 r13))))
      replace q0 : ∀ v : After A6, v.w.cell? ⟨r2.w.heap.size, 0, none⟩ = some (.int .i64 p.fr) := after_cell (by rw [hA6]; simpa using cell_lt (q0 r13)) (by rw [hA6]; exact (st_off _ (by first | (left; decide) | (right; omega) | (right; simp; omega)) (st_off _ (by first | (left; decide) | (right; omega) | (right; simp; omega)) (q0 r13))))
      replace fq0 : ∀ v : After A6, v.w.frozen? ⟨r2.w.heap.size, 0, none⟩ = false := after_frozen (by rw [hA6]; simpa using zq r13) (by rw [hA6]; exact (sf _ (sf _ (fq0 r13))))
      replace q1 : ∀ v : After A6, v.w.cell? ⟨r2.w.heap.size, 1, none⟩ = some (.int .i64 p.to) := after_cell (by rw [hA6]; simpa using cell_lt (q1 r13)) (by rw [hA6]; exact (st_off _ (by first | (left; decide) | (right; omega) | (right; simp; omega)) (st_off _ (by first | (left; decide) | (right; omega) | (right; simp; omega)) (q1 r13))))
      replace fq1 : ∀ v : After A6, v.w.frozen? ⟨r2.w.heap.size, 1, none⟩ = false := after_frozen (by rw [hA6]; simpa using zq r13) (by rw [hA6]; exact (sf _ (sf _ (fq1 r13))))
      replace q2 : ∀ v : After A6, v.w.cell? ⟨r2.w.heap.size, 2, none⟩ = some (.slice p.da p.dn p.dc) := after_cell (by rw [hA6]; simpa using cell_lt (q2 r13)) (by rw [hA6]; exact (st_off _ (by first | (left; decide) | (right; omega) | (right; simp; omega)) (st_off _ (by first | (left; decide) | (right; omega) | (right; simp; omega)) (q2 r13))))
      replace fq2 : ∀ v : After A6, v.w.frozen? ⟨r2.w.heap.size, 2, none⟩ = false := after_frozen (by rw [hA6]; simpa using zq r13) (by rw [hA6]; exact (sf _ (sf _ (fq2 r13))))
      replace d0 : ∀ v : After A6, v.w.cell? ⟨r2.w.heap.size + 1, 0, none⟩ = some (.slice qb6 (nb6) qd6) := after_cell (by rw [hA6]; simpa using cell_lt (d0 r13)) (by rw [hA6]; exact (st_off _ (.inl (by decide)) (st_hit _ (d0 r13))))
      replace fd0 : ∀ v : After A6, v.w.frozen? ⟨r2.w.heap.size + 1, 0, none⟩ = false := after_frozen (by rw [hA6]; simpa using zd r13) (by rw [hA6]; exact (sf _ (sf _ (fd0 r13))))
      replace d1 : ∀ v : After A6, v.w.cell? ⟨r2.w.heap.size + 1, 1, none⟩ = some (.slice ab6 (lb6) ad6) := after_cell (by rw [hA6]; simpa using cell_lt (d1 r13)) (by rw [hA6]; exact (st_hit _ (st_off _ (.inl (by decide)) (d1 r13))))
      replace fd1 : ∀ v : After A6, v.w.frozen? ⟨r2.w.heap.size + 1, 1, none⟩ = false := after_frozen (by rw [hA6]; simpa using zd r13) (by rw [hA6]; exact (sf _ (sf _ (fd1 r13))))
      replace zn : ∀ v : After A6, W.heap.size < v.w.heap.size := after_size (by rw [hA6]; simpa using zn r13)
      replace zp : ∀ v : After A6, r0.w.heap.size < v.w.heap.size := after_size (by rw [hA6]; simpa using zp r13)
      replace zc : ∀ v : After A6, r0.w.heap.size + 1 < v.w.heap.size := after_size (by rw [hA6]; simpa using zc r13)
      replace zq : ∀ v : After A6, r2.w.heap.size < v.w.heap.size := after_size (by rw [hA6]; simpa using zq r13)
      replace zd : ∀ v : After A6, r2.w.heap.size + 1 < v.w.heap.size := after_size (by rw [hA6]; simpa using zd r13)
      have hwA6 : Below W.heap.size W A6 := by rw [hA6]; exact (b_set (b_set (WA5.out r13) (by omega) _) (by omega) _)
      have WA6 := hid (after_below hwA6)
      rw [← hA6]
      obtain ⟨r14, hu⟩ : ∃ u : After A6, u.w = A6 := ⟨After.here A6, rfl⟩
      rw [← hu]
      have HA6 := hid hA6
      clear hu hA6
      replace HN := hid (fun v : After A6 => NetIs.below (by rw [HA6.out]; exact NetIs.set (NetIs.set (HN.out r13) (by omega) _) (by omega) _) v.2)
      replace HN5 := hid (fun v : After A6 => NetIs.below (by rw [HA6.out]; exact NetIs.set (NetIs.set (HN5.out r13) (by omega) _) (by omega) _) v.2)
      have HN6 : Hid (∀ v : After A6, NetIs (fun g => g < W.heap.size ∨ r12.w.heap.size ≤ g) v.w (.agg #[.slice qb6 (nb6) qd6, .slice ab6 (lb6) ad6]) (repQ ps ls i) (repL ps ls i)) := hid fun v => NetIs.below (by rw [HA6.out]; exact NetIs.set (NetIs.set hn9 (by omega) _) (by omega) _) v.2
      refine (met (same_any d (repQ ps ls i) (repQ ps ls i) (repL ps ls i) (repL ps ls i) _ _ _ _ _ (Nat.le_trans (repQ_len ps ls i) (by omega)) (Nat.le_trans (repL_len ps ls i) hl1) (HN5.out r14) (HN6.out r14) (fun q hq => (HE.out q (.inl (repQ_mem (hq.elim id id)))).below (WA6.out r14)))).mono ?_
      rintro e _ ⟨rfl, r15, rfl⟩
      rw [decide_eq_true ⟨rfl, rfl⟩]
      go_wp2_with fail
      have b2 : Below V3.heap.size V3 A2 := b_then hBA1 hBA2
      have s3 := b2.size
      have hs1 : V3.heap.size ≤ r0.w.heap.size := r0.2.size
      have hs2 : V3.heap.size ≤ r2.w.heap.size := Nat.le_trans hBA1.size r2.2.size
      have b3 : Below V3.heap.size V3 A3 := by rw [HA3.out]; exact b_set (b_set (b_then b2 r6.2) (by omega) _) (by omega) _
      have b4 : Below V3.heap.size V3 A4 := by rw [HA4.out]; exact b_set (b_set (b_then b3 r8.2) (by omega) _) (by omega) _
      have b5 : Below V3.heap.size V3 A5 := by rw [HA5.out]; exact b_set (b_set (b_then b4 r11.2) (by omega) _) (by omega) _
      have b6 : Below V3.heap.size V3 A6 := by rw [HA6.out]; exact b_set (b_set (b_then b5 r13.2) (by omega) _) (by omega) _
      go_roundw
      case rel => exact ⟨j + 1, ⟨r15.w, b_then b6 r15.2⟩, by omega, by go_num, rfl⟩
      case measure => simp [intOf]; omega
end Go.Proofs.Ytmikhkmdcpgkfaa
namespace Go.Proofs.Ytmikhkmdcpgkfaa.Move6
open Go.ChangeShapes Go.WideShapes Go.ChangeAt Go.RowKit Go.Joins

theorem own : ownKnob Try.prog.godebug = none := by kernel_rfl
theorem laidOut : laidOutB Try.prog = true := by kernel_rfl

set_option maxRecDepth 100000 in
theorem lifted (os : Os) (started : os.Started) (H : Type) (enc : TypeId × Value → H) :
    ReturnsInHanded {} Try.checked os 6 .any (Rows.networkMoveSpecSpec.pre6 enc Try.prog Try.f6 Rows.networkMoveSpecRow.domain false) (Rows.networkMoveSpecSpec.post enc Try.prog Try.f6 false true false false) := by
  refine returnsInHanded_of_change (C := Try.checked) own started (by kernel_rfl) Try.func6
    (ChangeSpec.witness6 (enc := enc) (C := Try.checked) false ⟨#[], #[.agg #[.slice none 0 0, .slice none 0 0], .int .i64 0, .int .i64 0, .int .i64 0, .bool false], []⟩ 8 (by kernel_rfl) (by kernel_rfl) (by kernel_rfl) (by kernel_rfl)) ?_
  intro W base args ds gs before hval0 hW hcnd _
  have hval : ∀ (j : Nat) t v, Try.f6.params[j]? = some t → args[j]? = some v → Value.okWide Try.prog W .any base t v := hval0
  have hW' := hW
  obtain ⟨p, q, hA0, hV, rfl, hfz, hnd⟩ := hW
  have hA : DataW.TrodAll enc Try.prog W 0 (fun _ => true) true Try.f6.params.toList args.toList ds p := hA0
  rw [Try.params6] at hA hval
  obtain ⟨v0, vs0, d0, ds0, p0, q0, hargs, rfl, rfl, h0, r0⟩ := trodAll_cons hA
  obtain ⟨v1, vs1, d1, ds1, p1, q1, rfl, rfl, rfl, h1, r1⟩ := trodAll_cons r0
  obtain ⟨v2, vs2, d2, ds2, p2, q2, rfl, rfl, rfl, h2, r2⟩ := trodAll_cons r1
  obtain ⟨v3, vs3, d3, ds3, p3, q3, rfl, rfl, rfl, h3, r3⟩ := trodAll_cons r2
  obtain ⟨v4, vs4, d4, ds4, p4, q4, rfl, rfl, rfl, h4, r4⟩ := trodAll_cons r3
  obtain ⟨rfl, rfl, rfl⟩ := trodAll_nil r4
  obtain rfl : args = #[v0, v1, v2, v3, v4] := by cases args; simp_all
  obtain ⟨rfl, rfl⟩ := trodVars_none hV
  have k0 := h0
  have lt0 : ∀ x ∈ p0, x.block < W.heap.size := by obtain ⟨m, hm⟩ := k0; exact DataW.trod_lt m _ _ _ hm
  obtain ⟨ps0, ls0, hN0, hD0⟩ := open_netv (hval 0 25 v0 rfl rfl) h0
  obtain ⟨a1, rfl, rfl, rfl, w1⟩ := open_int Try.underlying3 (hval 1 3 v1 rfl rfl) h1
  obtain ⟨a2, rfl, rfl, rfl, w2⟩ := open_int Try.underlying3 (hval 2 3 v2 rfl rfl) h2
  obtain ⟨a3, rfl, rfl, rfl, w3⟩ := open_int Try.underlying3 (hval 3 3 v3 rfl rfl) h3
  obtain ⟨a4, rfl, rfl, rfl⟩ := open_bool Try.underlying4 (hval 4 4 v4 rfl rfl) h4
  clear hA0 hval0
  refine (move_walk (dOf W) ps0 ls0 v0 a1 a2 a3 a4 W hN0 (fun q hq => hq.elim (hD0 q) (fun e => e ▸ dOf_is ⟨[], rfl, .inl rfl⟩))).mono fun e W' ⟨he, bel⟩ => ?_
  subst he
  exact ⟨_, rfl, _, _, _, [], _, [], hW', trodAll_mk1 (shut_bool Try.underlying4 _), (trodAll_cons_mk (Below.trod laidOut (by kernel_rfl) (of_decide_eq_true (by kernel_rfl)) k0 bel lt0) (trodAll_cons_mk (shut_int Try.underlying3 w1) (trodAll_cons_mk (shut_int Try.underlying3 w2) (trodAll_cons_mk (shut_int Try.underlying3 w3) (trodAll_cons_mk (shut_bool Try.underlying4 a4) trodAll_mk0))))), rfl, bel.frame _, fun h => by cases h⟩

theorem over : Rows.networkMoveSpecRow.holds Try.pinned (OpenSpec.ofChange Rows.networkMoveSpecSpec) :=
  OpenClaim.holds_of_wide 6 Try.f6 rfl rfl rfl rfl rfl rfl rfl ⟨rfl, rfl, rfl, rfl, rfl⟩ rfl rfl rfl rfl rfl (by kernel_rfl) Try.func6 (by kernel_rfl)
    (of_decide_eq_true (by kernel_rfl)) (by unfold Func.isWrapper; first | (rw [if_pos (by decide +kernel)]; kernel_rfl) | (rw [if_neg (by decide +kernel)]; exact ⟨rfl, rfl⟩))
    (fun os started H enc _ => lifted os started H enc)
end Go.Proofs.Ytmikhkmdcpgkfaa.Move6
namespace Go.Proofs.Ytmikhkmdcpgkfaa
/-- The statement. -/
theorem networkMoveSpec_holds : Rows.NetworkMoveSpecSaid := Move6.over
end Go.Proofs.Ytmikhkmdcpgkfaa
