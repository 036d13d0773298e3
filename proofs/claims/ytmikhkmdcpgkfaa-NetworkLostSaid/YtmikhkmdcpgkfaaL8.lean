/- NetworkLost: for all nets, valid or not, and every number: what is lost leaves what is delivered. No condition. -/
import Derived.Test.YtmikhkmdcpgkfaaF2
import Derived.Test.YtmikhkmdcpgkfaaT
namespace Go.Proofs.Ytmikhkmdcpgkfaa
open Go.RowKit
open Go.Lib (hid)

theorem region_whole {P : Program} {Q : Exit → Act → World → Prop} {id : Nat} {a : Act} {V : World} {u : After V} {l : List Oper} (n : Nat) (hn : l.length = n) (hm : P.follows .mixedOrders = true)
    (h : ∀ u : After V, wpAnyH P .any l.toArray (NoPanic Q) (Since V) n (Array.replicate n false) a u.w) : (Code.region id l.toArray true).wp P Q a u.w := by
  subst hn
  exact wp_region_noPanic (wp_region_held_drew hm (S := Since V) ⟨⟨u.w.drew, b_drew u.2⟩, rfl⟩ (fun _ => h ⟨u.w.drew, b_drew u.2⟩))
theorem chk_all {ps : List Pk} {ls : List (Int × Int)} (h : chk ps ls = 0) : ps.all pkOk = true ∧ ApOk ls := by
  unfold chk at h
  split at h
  · assumption
  · simp at h
theorem ask_ok {ps : List Pk} {ls : List (Int × Int)} {j : Nat} (h : chk ps ls = 0) (hj : j < ps.length) : ask ps ls j = 0 := by
  rw [ask, if_pos h, if_pos ⟨by omega, by omega⟩]
theorem atP_at {ps : List Pk} {j : Nat} (hj : j < ps.length) : atP ps j = ps[j] := by simp [atP, hj]
theorem lq_at {ps : List Pk} {ls : List (Int × Int)} {j : Nat} (h : chk ps ls = 0) (hj : j < ps.length) : leftQ ps ls j = ps.take j ++ ps.drop (j + 1) := by
  rw [leftQ, if_pos (ask_ok h hj), Int.toNat_natCast]
theorem ll_at {ps : List Pk} {ls : List (Int × Int)} {j : Nat} (h : chk ps ls = 0) (hj : j < ps.length) : leftL ps ls j = ls := by
  rw [leftL, if_pos (ask_ok h hj)]
theorem pk_in {ps : List Pk} {ls : List (Int × Int)} (h : chk ps ls = 0) {p : Pk} (hp : p ∈ ps) : pkOk p = true := List.all_eq_true.1 (chk_all h).1 p hp
theorem chk_sub {ps qs : List Pk} {ls : List (Int × Int)} (h : chk ps ls = 0) (hq : ∀ q ∈ qs, q ∈ ps) : chk qs ls = 0 := chk_ok (List.all_eq_true.2 fun q hm => pk_in h (hq q hm)) (chk_all h).2
theorem left_snoc {ps : List Pk} {x : Pk} {j : Nat} (hj : j < ps.length) : (ps ++ [x]).take j ++ (ps ++ [x]).drop (j + 1) = (ps.take j ++ ps.drop (j + 1)) ++ [x] := by
  rw [List.take_append_of_le_length (by omega), List.drop_append_of_le_length (by omega), List.append_assoc]
theorem left_in {ps : List Pk} {j : Nat} {q : Pk} (h : q ∈ ps.take j ++ ps.drop (j + 1)) : q ∈ ps := by
  rcases List.mem_append.1 h with h | h
  · exact List.mem_of_mem_take h
  · exact List.mem_of_mem_drop h
theorem net_rowq {ok : Nat → Prop} {w : World} {qa aa : Option Addr} {n m qc ac : Nat} {ps : List Pk} {ls : List (Int × Int)} (h : NetIs ok w (.agg #[.slice qa n qc, .slice aa m ac]) ps ls) : Rd w qa (ps.flatMap Pk.c) := by
  obtain ⟨qa', aa', qc', ac', hv, hq, _, _⟩ := h
  simp [netV] at hv
  obtain ⟨⟨rfl, _, _⟩, _⟩ := hv
  exact hq
theorem lost_plain {ps : List Pk} {ls : List (Int × Int)} {j : Nat} (h : chk ps ls = 0) (hj : j < ps.length) : ∃ lq pj, ps[j]? = some pj ∧ leftQ ps ls j = lq ∧ leftL ps ls j = ls ∧ ask ps ls j = 0 ∧
    repX ps ls j = 0 ∧ repQ ps ls j = ps ++ [pj] ∧ repL ps ls j = ls ∧ ask (ps ++ [pj]) ls j = 0 ∧ leftQ (ps ++ [pj]) ls j = lq ++ [pj] ∧ leftL (ps ++ [pj]) ls j = ls ∧
    sendX lq ls pj = 0 ∧ sendQ lq ls pj = lq ++ [pj] ∧ sendL lq ls pj = ls ∧ lq.length ≤ ps.length ∧ (∀ q ∈ lq, q ∈ ps) ∧ pj ∈ ps := by
  have hm : ps[j] ∈ ps := List.getElem_mem hj
  have hk := pk_in h hm
  have h2 : chk (ps ++ [ps[j]]) ls = 0 := chk_sub h fun q hq => by
    rcases List.mem_append.1 hq with hq | hq
    · exact hq
    · rw [List.mem_singleton.1 hq]; exact hm
  have hj2 : j < (ps ++ [ps[j]]).length := by simp; omega
  have h3 : chk (ps.take j ++ ps.drop (j + 1)) ls = 0 := chk_sub h fun q hq => left_in hq
  have hka : pkOk (atP ps j) = true := by rw [atP_at hj]; exact hk
  refine ⟨ps.take j ++ ps.drop (j + 1), ps[j], List.getElem?_eq_getElem hj, lq_at h hj, ll_at h hj, ask_ok h hj, ?_, ?_, ?_, ask_ok h2 hj2, ?_, ll_at h2 hj2, ?_, ?_, ?_, ?_, fun q hq => left_in hq, hm⟩
  · rw [repX, if_pos (ask_ok h hj), if_pos hka]
  · rw [repQ, if_pos (ask_ok h hj), if_pos hka, atP_at hj]
  · rw [repL, if_pos (ask_ok h hj), if_pos hka]
  · rw [lq_at h2 hj2, left_snoc hj]
  · rw [sendX, if_pos ⟨h3, hk⟩]
  · rw [sendQ, if_pos ⟨h3, hk⟩]
  · rw [sendL, if_pos ⟨h3, hk⟩]
  · simp; omega

set_option maxRecDepth 100000 in
set_option maxHeartbeats 8000000 in
theorem lost_walk (d : Pk → List UInt8) (ps : List Pk) (ls : List (Int × Int)) (v : Value) (at_ : Int) (h64 : 0 ≤ at_ ∧ at_ < 18446744073709551616) (W : World) (hv : NetIs (fun _ => True) W v ps ls) (hd : ∀ q, q ∈ ps → DataIs W q (d q)) :
    Calls Try.prog 8 #[v, .int .u64 at_] W fun e w' => e = .returned (.bool true) ∧ Below W.heap.size W w' := by
  have hv0 := hv.here
  obtain ⟨nn, hnn⟩ : ∃ n, ps.length = n := ⟨_, rfl⟩
  obtain ⟨mm, hmm⟩ : ∃ n, ls.length = n := ⟨_, rfl⟩
  obtain ⟨qa, aa, qc, ac, rfl⟩ := hv0.form' (n := nn) (m := mm) hnn hmm
  clear hv
  have HV := hid (hv0.mono (ok' := fun g => g < W.heap.size) fun g h => h.2); clear hv0
  have HE := hid hd; clear hd
  go_enter Try.func8, Try.ntmps8
  go_wp2_with fail
  obtain ⟨V0, hV0⟩ : ∃ V0, V0 = (W.alloc (.cells #[.slice qa nn qc, .slice aa mm ac] 25)) := ⟨_, rfl⟩
  have n0 : ∀ v : After V0, v.w.cell? ⟨W.heap.size, 0, none⟩ = some (.slice qa nn qc) := after_cell (by rw [hV0]; first | (simp; done) | omega | (simp; omega)) (by rw [hV0]; (repeat (first | with_reducible assumption | exact bn (by first | (simp; done) | omega | (simp; omega)) rfl | refine bo (by first | (simp; done) | omega | (simp; omega)) ?_)))
  have fn0 : ∀ v : After V0, v.w.frozen? ⟨W.heap.size, 0, none⟩ = false := after_frozen (by rw [hV0]; first | (simp; done) | omega | (simp; omega)) (by rw [hV0]; (repeat (first | exact fn (by first | (simp; done) | omega | (simp; omega)) | refine fo (by first | (simp; done) | omega | (simp; omega)) ?_)))
  have n1 : ∀ v : After V0, v.w.cell? ⟨W.heap.size, 1, none⟩ = some (.slice aa mm ac) := after_cell (by rw [hV0]; first | (simp; done) | omega | (simp; omega)) (by rw [hV0]; (repeat (first | with_reducible assumption | exact bn (by first | (simp; done) | omega | (simp; omega)) rfl | refine bo (by first | (simp; done) | omega | (simp; omega)) ?_)))
  have fn1 : ∀ v : After V0, v.w.frozen? ⟨W.heap.size, 1, none⟩ = false := after_frozen (by rw [hV0]; first | (simp; done) | omega | (simp; omega)) (by rw [hV0]; (repeat (first | exact fn (by first | (simp; done) | omega | (simp; omega)) | refine fo (by first | (simp; done) | omega | (simp; omega)) ?_)))
  have zn : ∀ v : After V0, W.heap.size < v.w.heap.size := after_size (by rw [hV0]; first | (simp; done) | omega | (simp; omega))
  have hwV0 : Below W.heap.size W V0 := by rw [hV0]; exact (by repeat (first | exact Below.refl _ _ | assumption | refine b_then ?_ (by assumption) | refine b_alloc ?_ _ | refine b_drewN ?_ _ | refine b_drew ?_ | refine b_set ?_ (by omega) _ | refine b_set ?_ (by simp) _))
  have WV0 := hid (after_below hwV0)
  rw [← hV0]
  obtain ⟨u0, hu⟩ : ∃ u : After V0, u.w = V0 := ⟨After.here V0, rfl⟩
  rw [← hu]
  clear hu hV0
  have HN := hid (fun v : After V0 => HV.out.below (WV0.out v))
  refine (met (sane_any _)).mono ?_
  rintro e _ ⟨rfl, u1, rfl⟩
  go_wp2_with fail
  refine (met (few_any _ ps ls _ _ (HN.out u1))).mono ?_
  rintro e _ ⟨rfl, u2, rfl⟩
  by_cases hf : (decide (ps.length ≤ 40) && decide (ls.length ≤ 40)) = true
  case neg =>
    rw [Bool.not_eq_true] at hf
    rw [hf]
    go_wp2_with fail
    exact bodyPost_ret (v := .bool true) (by simp [results, Try.results8, go_sem]) rfl ⟨rfl, WV0.out _⟩
  rw [hf]
  simp only [Bool.and_eq_true, decide_eq_true_eq] at hf
  have hp1 : ps.length ≤ 1000 := by omega
  have hl1 : ls.length ≤ 1000 := by omega
  have hn40 : nn ≤ 40 := by omega
  go_wp2_with fail
  refine (met (Check_net (HN.out u2) hp1 hl1)).mono ?_
  rintro e _ ⟨rfl, u3, rfl⟩
  by_cases hc : chk ps ls = 0
  case neg =>
    rw [chk_60 hc]
    go_wp2_with fail
    exact bodyPost_ret (v := .bool true) (by simp [results, Try.results8, go_sem]) rfl ⟨rfl, WV0.out _⟩
  rw [hc]
  by_cases hz : nn = 0
  case pos =>
    subst hz
    go_wp2_with fail
    exact bodyPost_ret (v := .bool true) (by simp [results, Try.results8, go_sem]) rfl ⟨rfl, WV0.out _⟩
  have hz' : ((nn : Int) == 0) = false := beq_eq_false_iff_ne.2 (by omega)
  have hr0 : 0 ≤ at_ % (nn : Int) := Int.emod_nonneg _ (by omega)
  have hr1 : at_ % (nn : Int) < nn := Int.emod_lt_of_pos _ (by omega)
  go_wp2_with fail
  obtain ⟨j, hj⟩ := Int.eq_ofNat_of_zero_le hr0
  rw [hj]
  rw [hj] at hr0 hr1
  clear hj
  have hjl : j < ps.length := by omega
  obtain ⟨lq, pj, hpj, F1, F2, F3, F4, F5, F6, F7, F8, F9, F10, F11, F12, hql, hqm, hpm⟩ := lost_plain hc hjl
  clear hc hz hz'
  have hq1 : lq.length ≤ 1000 := by omega
  refine (Deliver_any _ ps ls j _ _ hp1 hl1 (HN.out u3)).mono ?_
  rintro e w9 ⟨v9, rfl, hn9, hB9⟩
  obtain ⟨u4, rfl⟩ : ∃ y9 : After V0, w9 = y9.w := ⟨u3.on hB9, rfl⟩
  clear hB9
  rw [F1, F2] at hn9
  rw [F3]
  obtain ⟨nb1, en1⟩ : ∃ n, (lq).length = n := ⟨_, rfl⟩
  have hn9 : NetIs (fun g => g < u4.w.heap.size) _ _ (lq) (ls) := hn9.here.mono fun g h => h.2
  obtain ⟨qb1, ab1, qd1, ad1, rfl⟩ := hn9.form' (n := nb1) (m := mm) en1 hmm
  obtain ⟨dp, hdp⟩ : ∃ x, delP ps ls j = x := ⟨_, rfl⟩
  rw [hdp, show dp.v = .agg #[.int .i64 dp.fr, .int .i64 dp.to, .slice dp.da dp.dn dp.dc] from rfl]
  clear hdp
  go_wp2_with fail
  obtain ⟨V1, hV1⟩ : ∃ V1, V1 = ((u4.w.alloc (.cells #[.int .i64 dp.fr, .int .i64 dp.to, .slice dp.da dp.dn dp.dc] 28)).alloc (.cells #[.slice qb1 (nb1) qd1, .slice ab1 (mm) ad1] 25)) := ⟨_, rfl⟩
  have hCV1 : Below u4.w.heap.size u4.w V1 := by rw [hV1]; exact (by repeat (first | exact Below.refl _ _ | assumption | refine b_then ?_ (by assumption) | refine b_alloc ?_ _ | refine b_drewN ?_ _ | refine b_drew ?_ | refine b_set ?_ (by omega) _ | refine b_set ?_ (by simp) _))
  have hBV1 : Below V0.heap.size V0 V1 := b_then u4.w_below hCV1
  have yV1n := zn u4
  replace n0 := upc hBV1 n0
  replace fn0 := upf hBV1 fn0
  replace n1 := upc hBV1 n1
  replace fn1 := upf hBV1 fn1
  replace zn := upz hBV1 zn
  replace HN := hid (upn hBV1 HN.out)
  have WV1 := hid (upb hBV1 WV0.out)
  have HN1 : Hid (∀ v : After V1, NetIs (fun g => g < u4.w.heap.size) v.w (.agg #[.slice qb1 (nb1) qd1, .slice ab1 (mm) ad1]) (lq) (ls)) := hid fun v => hn9.below (b_then hCV1 v.2)
  have q0 : ∀ v : After V1, v.w.cell? ⟨u4.w.heap.size, 0, none⟩ = some (.int .i64 dp.fr) := after_cell (by rw [hV1]; first | (simp; done) | omega | (simp; omega)) (by rw [hV1]; (repeat (first | with_reducible assumption | exact bn (by first | (simp; done) | omega | (simp; omega)) rfl | refine bo (by first | (simp; done) | omega | (simp; omega)) ?_)))
  have fq0 : ∀ v : After V1, v.w.frozen? ⟨u4.w.heap.size, 0, none⟩ = false := after_frozen (by rw [hV1]; first | (simp; done) | omega | (simp; omega)) (by rw [hV1]; (repeat (first | exact fn (by first | (simp; done) | omega | (simp; omega)) | refine fo (by first | (simp; done) | omega | (simp; omega)) ?_)))
  have q1 : ∀ v : After V1, v.w.cell? ⟨u4.w.heap.size, 1, none⟩ = some (.int .i64 dp.to) := after_cell (by rw [hV1]; first | (simp; done) | omega | (simp; omega)) (by rw [hV1]; (repeat (first | with_reducible assumption | exact bn (by first | (simp; done) | omega | (simp; omega)) rfl | refine bo (by first | (simp; done) | omega | (simp; omega)) ?_)))
  have fq1 : ∀ v : After V1, v.w.frozen? ⟨u4.w.heap.size, 1, none⟩ = false := after_frozen (by rw [hV1]; first | (simp; done) | omega | (simp; omega)) (by rw [hV1]; (repeat (first | exact fn (by first | (simp; done) | omega | (simp; omega)) | refine fo (by first | (simp; done) | omega | (simp; omega)) ?_)))
  have q2 : ∀ v : After V1, v.w.cell? ⟨u4.w.heap.size, 2, none⟩ = some (.slice dp.da dp.dn dp.dc) := after_cell (by rw [hV1]; first | (simp; done) | omega | (simp; omega)) (by rw [hV1]; (repeat (first | with_reducible assumption | exact bn (by first | (simp; done) | omega | (simp; omega)) rfl | refine bo (by first | (simp; done) | omega | (simp; omega)) ?_)))
  have fq2 : ∀ v : After V1, v.w.frozen? ⟨u4.w.heap.size, 2, none⟩ = false := after_frozen (by rw [hV1]; first | (simp; done) | omega | (simp; omega)) (by rw [hV1]; (repeat (first | exact fn (by first | (simp; done) | omega | (simp; omega)) | refine fo (by first | (simp; done) | omega | (simp; omega)) ?_)))
  have zq : ∀ v : After V1, u4.w.heap.size < v.w.heap.size := after_size (by rw [hV1]; first | (simp; done) | omega | (simp; omega))
  have a0 : ∀ v : After V1, v.w.cell? ⟨u4.w.heap.size + 1, 0, none⟩ = some (.slice qb1 (nb1) qd1) := after_cell (by rw [hV1]; first | (simp; done) | omega | (simp; omega)) (by rw [hV1]; (repeat (first | with_reducible assumption | exact bn (by first | (simp; done) | omega | (simp; omega)) rfl | refine bo (by first | (simp; done) | omega | (simp; omega)) ?_)))
  have fa0 : ∀ v : After V1, v.w.frozen? ⟨u4.w.heap.size + 1, 0, none⟩ = false := after_frozen (by rw [hV1]; first | (simp; done) | omega | (simp; omega)) (by rw [hV1]; (repeat (first | exact fn (by first | (simp; done) | omega | (simp; omega)) | refine fo (by first | (simp; done) | omega | (simp; omega)) ?_)))
  have a1 : ∀ v : After V1, v.w.cell? ⟨u4.w.heap.size + 1, 1, none⟩ = some (.slice ab1 (mm) ad1) := after_cell (by rw [hV1]; first | (simp; done) | omega | (simp; omega)) (by rw [hV1]; (repeat (first | with_reducible assumption | exact bn (by first | (simp; done) | omega | (simp; omega)) rfl | refine bo (by first | (simp; done) | omega | (simp; omega)) ?_)))
  have fa1 : ∀ v : After V1, v.w.frozen? ⟨u4.w.heap.size + 1, 1, none⟩ = false := after_frozen (by rw [hV1]; first | (simp; done) | omega | (simp; omega)) (by rw [hV1]; (repeat (first | exact fn (by first | (simp; done) | omega | (simp; omega)) | refine fo (by first | (simp; done) | omega | (simp; omega)) ?_)))
  have za : ∀ v : After V1, u4.w.heap.size + 1 < v.w.heap.size := after_size (by rw [hV1]; first | (simp; done) | omega | (simp; omega))
  rw [← hV1]
  obtain ⟨u5, hu⟩ : ∃ u : After V1, u.w = V1 := ⟨After.here V1, rfl⟩
  rw [← hu]
  clear hu hV1 hCV1
  refine (Lose_any _ ps ls j _ _ hp1 hl1 (HN.out u5)).mono ?_
  rintro e w9 h9
  obtain ⟨v9, rfl, hn9, hB9⟩ := h9
  obtain ⟨u6, rfl⟩ : ∃ y9 : After V1, w9 = y9.w := ⟨u5.on hB9, rfl⟩
  clear hB9
  rw [F1, F2] at hn9
  rw [F3]
  obtain ⟨nb2, en2⟩ : ∃ n, (lq).length = n := ⟨_, rfl⟩
  have hn9 : NetIs (fun g => g < u6.w.heap.size) _ _ (lq) (ls) := hn9.here.mono fun g h => h.2
  obtain ⟨qb2, ab2, qd2, ad2, rfl⟩ := hn9.form' (n := nb2) (m := mm) en2 hmm
  have sn0u6 : W.heap.size < u6.w.heap.size := by have := zn u6; omega
  have ln0u6 : W.heap.size ≤ u6.w.heap.size := by have := zn u6; omega
  have sq0u6 : u4.w.heap.size < u6.w.heap.size := by have := zq u6; omega
  have lq0u6 : u4.w.heap.size ≤ u6.w.heap.size := by have := zq u6; omega
  have sa0u6 : u4.w.heap.size + 1 < u6.w.heap.size := by have := za u6; omega
  have la0u6 : u4.w.heap.size + 1 ≤ u6.w.heap.size := by have := za u6; omega
  go_wp2_with fail
  obtain ⟨V2, hV2⟩ : ∃ V2, V2 = (u6.w.alloc (.cells #[.slice qb2 (nb2) qd2, .slice ab2 (mm) ad2] 25)) := ⟨_, rfl⟩
  have hCV2 : Below u6.w.heap.size u6.w V2 := by rw [hV2]; exact (by repeat (first | exact Below.refl _ _ | assumption | refine b_then ?_ (by assumption) | refine b_alloc ?_ _ | refine b_drewN ?_ _ | refine b_drew ?_ | refine b_set ?_ (by omega) _ | refine b_set ?_ (by simp) _))
  have hBV2 : Below V1.heap.size V1 V2 := b_then u6.w_below hCV2
  have yV2n := zn u6
  have yV2q := zq u6
  have yV2a := za u6
  replace n0 := upc hBV2 n0
  replace fn0 := upf hBV2 fn0
  replace n1 := upc hBV2 n1
  replace fn1 := upf hBV2 fn1
  replace q0 := upc hBV2 q0
  replace fq0 := upf hBV2 fq0
  replace q1 := upc hBV2 q1
  replace fq1 := upf hBV2 fq1
  replace q2 := upc hBV2 q2
  replace fq2 := upf hBV2 fq2
  replace a0 := upc hBV2 a0
  replace fa0 := upf hBV2 fa0
  replace a1 := upc hBV2 a1
  replace fa1 := upf hBV2 fa1
  replace zn := upz hBV2 zn
  replace zq := upz hBV2 zq
  replace za := upz hBV2 za
  replace HN := hid (upn hBV2 HN.out)
  replace HN1 := hid (upn hBV2 HN1.out)
  have WV2 := hid (upb hBV2 WV1.out)
  have HN2 : Hid (∀ v : After V2, NetIs (fun g => g < u6.w.heap.size) v.w (.agg #[.slice qb2 (nb2) qd2, .slice ab2 (mm) ad2]) (lq) (ls)) := hid fun v => hn9.below (b_then hCV2 v.2)
  have b0 : ∀ v : After V2, v.w.cell? ⟨u6.w.heap.size, 0, none⟩ = some (.slice qb2 (nb2) qd2) := after_cell (by rw [hV2]; first | (simp; done) | omega | (simp; omega)) (by rw [hV2]; (repeat (first | with_reducible assumption | exact bn (by first | (simp; done) | omega | (simp; omega)) rfl | refine bo (by first | (simp; done) | omega | (simp; omega)) ?_)))
  have fb0 : ∀ v : After V2, v.w.frozen? ⟨u6.w.heap.size, 0, none⟩ = false := after_frozen (by rw [hV2]; first | (simp; done) | omega | (simp; omega)) (by rw [hV2]; (repeat (first | exact fn (by first | (simp; done) | omega | (simp; omega)) | refine fo (by first | (simp; done) | omega | (simp; omega)) ?_)))
  have b1 : ∀ v : After V2, v.w.cell? ⟨u6.w.heap.size, 1, none⟩ = some (.slice ab2 (mm) ad2) := after_cell (by rw [hV2]; first | (simp; done) | omega | (simp; omega)) (by rw [hV2]; (repeat (first | with_reducible assumption | exact bn (by first | (simp; done) | omega | (simp; omega)) rfl | refine bo (by first | (simp; done) | omega | (simp; omega)) ?_)))
  have fb1 : ∀ v : After V2, v.w.frozen? ⟨u6.w.heap.size, 1, none⟩ = false := after_frozen (by rw [hV2]; first | (simp; done) | omega | (simp; omega)) (by rw [hV2]; (repeat (first | exact fn (by first | (simp; done) | omega | (simp; omega)) | refine fo (by first | (simp; done) | omega | (simp; omega)) ?_)))
  have zb : ∀ v : After V2, u6.w.heap.size < v.w.heap.size := after_size (by rw [hV2]; first | (simp; done) | omega | (simp; omega))
  rw [← hV2]
  obtain ⟨u7, hu⟩ : ∃ u : After V2, u.w = V2 := ⟨After.here V2, rfl⟩
  rw [← hu]
  clear hu hV2 hCV2
  refine (Repeat_any _ ps ls j _ _ hp1 hl1 (HN.out u7)).mono ?_
  rintro e w9 h9
  obtain ⟨v9, rfl, hn9, hB9⟩ := h9.one
  obtain ⟨u8, rfl⟩ : ∃ y9 : After V2, w9 = y9.w := ⟨u7.on hB9, rfl⟩
  clear hB9
  rw [F5, F6] at hn9
  rw [F4]
  have hn9 : NetIs (fun g => g < u8.w.heap.size) _ _ (ps ++ [pj]) (ls) := hn9.here.mono fun g h => h.2
  obtain ⟨qb3, ab3, qd3, ad3, rfl⟩ := hn9.form' (n := nn + 1) (m := mm) (by simp [hnn]) hmm
  have sn0u8 : W.heap.size < u8.w.heap.size := by have := zn u8; omega
  have ln0u8 : W.heap.size ≤ u8.w.heap.size := by have := zn u8; omega
  have sq0u8 : u4.w.heap.size < u8.w.heap.size := by have := zq u8; omega
  have lq0u8 : u4.w.heap.size ≤ u8.w.heap.size := by have := zq u8; omega
  have sa0u8 : u4.w.heap.size + 1 < u8.w.heap.size := by have := za u8; omega
  have la0u8 : u4.w.heap.size + 1 ≤ u8.w.heap.size := by have := za u8; omega
  have sb0u8 : u6.w.heap.size < u8.w.heap.size := by have := zb u8; omega
  have lb0u8 : u6.w.heap.size ≤ u8.w.heap.size := by have := zb u8; omega
  go_wp2_with fail
  obtain ⟨V3, hV3⟩ : ∃ V3, V3 = (u8.w.alloc (.cells #[.slice qb3 (nn + 1) qd3, .slice ab3 (mm) ad3] 25)) := ⟨_, rfl⟩
  have hCV3 : Below u8.w.heap.size u8.w V3 := by rw [hV3]; exact (by repeat (first | exact Below.refl _ _ | assumption | refine b_then ?_ (by assumption) | refine b_alloc ?_ _ | refine b_drewN ?_ _ | refine b_drew ?_ | refine b_set ?_ (by omega) _ | refine b_set ?_ (by simp) _))
  have hBV3 : Below V2.heap.size V2 V3 := b_then u8.w_below hCV3
  have yV3n := zn u8
  have yV3q := zq u8
  have yV3a := za u8
  have yV3b := zb u8
  replace n0 := upc hBV3 n0
  replace fn0 := upf hBV3 fn0
  replace n1 := upc hBV3 n1
  replace fn1 := upf hBV3 fn1
  replace q0 := upc hBV3 q0
  replace fq0 := upf hBV3 fq0
  replace q1 := upc hBV3 q1
  replace fq1 := upf hBV3 fq1
  replace q2 := upc hBV3 q2
  replace fq2 := upf hBV3 fq2
  replace a0 := upc hBV3 a0
  replace fa0 := upf hBV3 fa0
  replace a1 := upc hBV3 a1
  replace fa1 := upf hBV3 fa1
  replace b0 := upc hBV3 b0
  replace fb0 := upf hBV3 fb0
  replace b1 := upc hBV3 b1
  replace fb1 := upf hBV3 fb1
  replace zn := upz hBV3 zn
  replace zq := upz hBV3 zq
  replace za := upz hBV3 za
  replace zb := upz hBV3 zb
  replace HN := hid (upn hBV3 HN.out)
  replace HN1 := hid (upn hBV3 HN1.out)
  replace HN2 := hid (upn hBV3 HN2.out)
  have WV3 := hid (upb hBV3 WV2.out)
  have HN3 : Hid (∀ v : After V3, NetIs (fun g => g < u8.w.heap.size) v.w (.agg #[.slice qb3 (nn + 1) qd3, .slice ab3 (mm) ad3]) (ps ++ [pj]) (ls)) := hid fun v => hn9.below (b_then hCV3 v.2)
  have c0 : ∀ v : After V3, v.w.cell? ⟨u8.w.heap.size, 0, none⟩ = some (.slice qb3 (nn + 1) qd3) := after_cell (by rw [hV3]; first | (simp; done) | omega | (simp; omega)) (by rw [hV3]; (repeat (first | with_reducible assumption | exact bn (by first | (simp; done) | omega | (simp; omega)) rfl | refine bo (by first | (simp; done) | omega | (simp; omega)) ?_)))
  have fc0 : ∀ v : After V3, v.w.frozen? ⟨u8.w.heap.size, 0, none⟩ = false := after_frozen (by rw [hV3]; first | (simp; done) | omega | (simp; omega)) (by rw [hV3]; (repeat (first | exact fn (by first | (simp; done) | omega | (simp; omega)) | refine fo (by first | (simp; done) | omega | (simp; omega)) ?_)))
  have c1 : ∀ v : After V3, v.w.cell? ⟨u8.w.heap.size, 1, none⟩ = some (.slice ab3 (mm) ad3) := after_cell (by rw [hV3]; first | (simp; done) | omega | (simp; omega)) (by rw [hV3]; (repeat (first | with_reducible assumption | exact bn (by first | (simp; done) | omega | (simp; omega)) rfl | refine bo (by first | (simp; done) | omega | (simp; omega)) ?_)))
  have fc1 : ∀ v : After V3, v.w.frozen? ⟨u8.w.heap.size, 1, none⟩ = false := after_frozen (by rw [hV3]; first | (simp; done) | omega | (simp; omega)) (by rw [hV3]; (repeat (first | exact fn (by first | (simp; done) | omega | (simp; omega)) | refine fo (by first | (simp; done) | omega | (simp; omega)) ?_)))
  have zc : ∀ v : After V3, u8.w.heap.size < v.w.heap.size := after_size (by rw [hV3]; first | (simp; done) | omega | (simp; omega))
  rw [← hV3]
  obtain ⟨u9, hu⟩ : ∃ u : After V3, u.w = V3 := ⟨After.here V3, rfl⟩
  rw [← hu]
  clear hu hV3 hCV3
  refine (Lose_any _ (ps ++ [pj]) ls j _ _ (by simp; omega) hl1 (HN3.out u9)).mono ?_
  rintro e w9 h9
  obtain ⟨v9, rfl, hn9, hB9⟩ := h9
  obtain ⟨u10, rfl⟩ : ∃ y9 : After V3, w9 = y9.w := ⟨u9.on hB9, rfl⟩
  clear hB9
  rw [F8, F9] at hn9
  rw [F7]
  obtain ⟨nb4, en4⟩ : ∃ n, (lq ++ [pj]).length = n := ⟨_, rfl⟩
  have hn9 : NetIs (fun g => g < u10.w.heap.size) _ _ (lq ++ [pj]) (ls) := hn9.here.mono fun g h => h.2
  obtain ⟨qb4, ab4, qd4, ad4, rfl⟩ := hn9.form' (n := nb4) (m := mm) en4 hmm
  have sn0u10 : W.heap.size < u10.w.heap.size := by have := zn u10; omega
  have ln0u10 : W.heap.size ≤ u10.w.heap.size := by have := zn u10; omega
  have sq0u10 : u4.w.heap.size < u10.w.heap.size := by have := zq u10; omega
  have lq0u10 : u4.w.heap.size ≤ u10.w.heap.size := by have := zq u10; omega
  have sa0u10 : u4.w.heap.size + 1 < u10.w.heap.size := by have := za u10; omega
  have la0u10 : u4.w.heap.size + 1 ≤ u10.w.heap.size := by have := za u10; omega
  have sb0u10 : u6.w.heap.size < u10.w.heap.size := by have := zb u10; omega
  have lb0u10 : u6.w.heap.size ≤ u10.w.heap.size := by have := zb u10; omega
  have sc0u10 : u8.w.heap.size < u10.w.heap.size := by have := zc u10; omega
  have lc0u10 : u8.w.heap.size ≤ u10.w.heap.size := by have := zc u10; omega
  go_wp2_with fail
  obtain ⟨V4, hV4⟩ : ∃ V4, V4 = (u10.w.alloc (.cells #[.slice qb4 (nb4) qd4, .slice ab4 (mm) ad4] 25)) := ⟨_, rfl⟩
  have hCV4 : Below u10.w.heap.size u10.w V4 := by rw [hV4]; exact (by repeat (first | exact Below.refl _ _ | assumption | refine b_then ?_ (by assumption) | refine b_alloc ?_ _ | refine b_drewN ?_ _ | refine b_drew ?_ | refine b_set ?_ (by omega) _ | refine b_set ?_ (by simp) _))
  have hBV4 : Below V3.heap.size V3 V4 := b_then u10.w_below hCV4
  have yV4n := zn u10
  have yV4q := zq u10
  have yV4a := za u10
  have yV4b := zb u10
  have yV4c := zc u10
  replace n0 := upc hBV4 n0
  replace fn0 := upf hBV4 fn0
  replace n1 := upc hBV4 n1
  replace fn1 := upf hBV4 fn1
  replace q0 := upc hBV4 q0
  replace fq0 := upf hBV4 fq0
  replace q1 := upc hBV4 q1
  replace fq1 := upf hBV4 fq1
  replace q2 := upc hBV4 q2
  replace fq2 := upf hBV4 fq2
  replace a0 := upc hBV4 a0
  replace fa0 := upf hBV4 fa0
  replace a1 := upc hBV4 a1
  replace fa1 := upf hBV4 fa1
  replace b0 := upc hBV4 b0
  replace fb0 := upf hBV4 fb0
  replace b1 := upc hBV4 b1
  replace fb1 := upf hBV4 fb1
  replace c0 := upc hBV4 c0
  replace fc0 := upf hBV4 fc0
  replace c1 := upc hBV4 c1
  replace fc1 := upf hBV4 fc1
  replace zn := upz hBV4 zn
  replace zq := upz hBV4 zq
  replace za := upz hBV4 za
  replace zb := upz hBV4 zb
  replace zc := upz hBV4 zc
  replace HN := hid (upn hBV4 HN.out)
  replace HN1 := hid (upn hBV4 HN1.out)
  replace HN2 := hid (upn hBV4 HN2.out)
  replace HN3 := hid (upn hBV4 HN3.out)
  have WV4 := hid (upb hBV4 WV3.out)
  have HN4 : Hid (∀ v : After V4, NetIs (fun g => g < u10.w.heap.size) v.w (.agg #[.slice qb4 (nb4) qd4, .slice ab4 (mm) ad4]) (lq ++ [pj]) (ls)) := hid fun v => hn9.below (b_then hCV4 v.2)
  have d0 : ∀ v : After V4, v.w.cell? ⟨u10.w.heap.size, 0, none⟩ = some (.slice qb4 (nb4) qd4) := after_cell (by rw [hV4]; first | (simp; done) | omega | (simp; omega)) (by rw [hV4]; (repeat (first | with_reducible assumption | exact bn (by first | (simp; done) | omega | (simp; omega)) rfl | refine bo (by first | (simp; done) | omega | (simp; omega)) ?_)))
  have fd0 : ∀ v : After V4, v.w.frozen? ⟨u10.w.heap.size, 0, none⟩ = false := after_frozen (by rw [hV4]; first | (simp; done) | omega | (simp; omega)) (by rw [hV4]; (repeat (first | exact fn (by first | (simp; done) | omega | (simp; omega)) | refine fo (by first | (simp; done) | omega | (simp; omega)) ?_)))
  have d1 : ∀ v : After V4, v.w.cell? ⟨u10.w.heap.size, 1, none⟩ = some (.slice ab4 (mm) ad4) := after_cell (by rw [hV4]; first | (simp; done) | omega | (simp; omega)) (by rw [hV4]; (repeat (first | with_reducible assumption | exact bn (by first | (simp; done) | omega | (simp; omega)) rfl | refine bo (by first | (simp; done) | omega | (simp; omega)) ?_)))
  have fd1 : ∀ v : After V4, v.w.frozen? ⟨u10.w.heap.size, 1, none⟩ = false := after_frozen (by rw [hV4]; first | (simp; done) | omega | (simp; omega)) (by rw [hV4]; (repeat (first | exact fn (by first | (simp; done) | omega | (simp; omega)) | refine fo (by first | (simp; done) | omega | (simp; omega)) ?_)))
  have zd : ∀ v : After V4, u10.w.heap.size < v.w.heap.size := after_size (by rw [hV4]; first | (simp; done) | omega | (simp; omega))
  rw [← hV4]
  obtain ⟨u11, hu⟩ : ∃ u : After V4, u.w = V4 := ⟨After.here V4, rfl⟩
  rw [← hu]
  clear hu hV4 hCV4
  have hqa := net_rowq (HN.out u11)
  obtain ⟨bq, oq, rfl, hbq⟩ := hqa.addr (by rw [flat_len Pk.c 3 Pk.c3]; omega)
  clear hqa
  have RQ := hid (fun v : After V4 => net_rowq (HN.out v))
  obtain rfl : ps[j] = pj := by rw [List.getElem?_eq_getElem hjl] at hpj; simpa using hpj
  have k0 : ∀ v : After V4, v.w.cell? ⟨bq, oq + j * 3, none⟩ = some (.int .i64 ps[j].fr) := row_cell Pk.c3 RQ.out hjl 0 (by decide) rfl rfl
  have k1 : ∀ v : After V4, v.w.cell? ⟨bq, oq + j * 3 + 1, none⟩ = some (.int .i64 ps[j].to) := row_cell Pk.c3 RQ.out hjl 1 (by decide) rfl rfl
  have k2 : ∀ v : After V4, v.w.cell? ⟨bq, oq + j * 3 + 2, none⟩ = some (.slice ps[j].da ps[j].dn ps[j].dc) := row_cell Pk.c3 RQ.out hjl 2 (by decide) rfl rfl
  have hsu : u6.w.heap.size ≤ V4.heap.size := by have := zb (After.here V4); exact Nat.le_of_lt this
  go_upto_region 10 with fail
  refine region_whole 13 rfl (by kernel_rfl) ?_
  intro u0
  refine h_take 0 (x := ?_) rfl (by kernel_rfl) (by kernel_rfl) (by kernel_rfl) (fun _ _ _ h => h) (by rfl) (fun v => ?_) ?_
  rotate_left
  · (go_simp; try with_reducible rfl)
  try simp only [Act.put, List.setIfInBounds_toArray, List.set_cons_zero, List.set_cons_succ]
  refine h_take 1 (x := ?_) rfl (by kernel_rfl) (by kernel_rfl) (by kernel_rfl) (fun _ _ _ h => h) (by rfl) (fun v => ?_) ?_
  rotate_left
  · (go_simp; try with_reducible rfl)
  try simp only [Act.put, List.setIfInBounds_toArray, List.set_cons_zero, List.set_cons_succ]
  refine h_take 2 (x := ?_) rfl (by kernel_rfl) (by kernel_rfl) (by kernel_rfl) (fun _ _ _ h => h) (by rfl) (fun v => ?_) ?_
  rotate_left
  · (go_simp; try with_reducible rfl)
  try simp only [Act.put, List.setIfInBounds_toArray, List.set_cons_zero, List.set_cons_succ]
  refine h_take 3 (x := ?_) rfl (by kernel_rfl) (by kernel_rfl) (by kernel_rfl) (fun _ _ _ h => h) (by rfl) (fun v => ?_) ?_
  rotate_left
  · (go_simp; try with_reducible rfl)
  try simp only [Act.put, List.setIfInBounds_toArray, List.set_cons_zero, List.set_cons_succ]
  refine h_take 4 (x := ?_) rfl (by kernel_rfl) (by kernel_rfl) (by kernel_rfl) (fun _ _ _ h => h) (by rfl) (fun v => ?_) ?_
  rotate_left
  · (go_simp; try with_reducible rfl)
  try simp only [Act.put, List.setIfInBounds_toArray, List.set_cons_zero, List.set_cons_succ]
  refine h_take 5 (x := ?_) rfl (by kernel_rfl) (by kernel_rfl) (by kernel_rfl) (fun _ _ _ h => h) (by rfl) (fun v => ?_) ?_
  rotate_left
  · (go_simp; try with_reducible rfl)
  try simp only [Act.put, List.setIfInBounds_toArray, List.set_cons_zero, List.set_cons_succ]
  refine h_two 6 10 (by kernel_rfl) rfl rfl (fun K hK => ?_) (fun K hK => ?_)
  · go_simp
    refine (Send_any _ lq ls ps[j] (.agg #[.slice qb2 nb2 qd2, .slice ab2 mm ad2]) _ hq1 hl1 (HN2.out u0)).mono ?_
    rintro e w7 h7
    obtain ⟨v7, rfl, hn7, hB7⟩ := h7.one
    rw [F10]
    rw [F11, F12] at hn7
    obtain ⟨nb5, en5⟩ : ∃ n, (lq ++ [ps[j]]).length = n := ⟨_, rfl⟩
    obtain ⟨qb5, ab5, qd5, ad5, rfl⟩ := hn7.form' (n := nb5) (m := mm) en5 hmm
    have hn7 := hn7.here
    have hs7 := hB7.size
    have hs8 : V4.heap.size ≤ u0.w.heap.size := u0.2.size
    obtain ⟨v1, rfl⟩ : ∃ v1 : After V4, w7 = v1.w := ⟨u0.on hB7, rfl⟩
    go_simp
    refine hK _ v1 ?_
    clear hK K
    try simp only [Act.put, List.setIfInBounds_toArray, List.set_cons_zero, List.set_cons_succ]
    refine h_take 7 (x := ?_) rfl (by kernel_rfl) (by kernel_rfl) (by kernel_rfl) (fun _ _ _ h => h) (by rfl) (fun v => ?_) ?_
    rotate_left
    · (go_simp; try with_reducible rfl)
    try simp only [Act.put, List.setIfInBounds_toArray, List.set_cons_zero, List.set_cons_succ]
    refine h_take 8 (x := ?_) rfl (by kernel_rfl) (by kernel_rfl) (by kernel_rfl) (fun _ _ _ h => h) (by rfl) (fun v => ?_) ?_
    rotate_left
    · (go_simp; try with_reducible rfl)
    try simp only [Act.put, List.setIfInBounds_toArray, List.set_cons_zero, List.set_cons_succ]
    refine h_take 9 (x := ?_) rfl (by kernel_rfl) (by kernel_rfl) (by kernel_rfl) (fun _ _ _ h => h) (by rfl) (fun v => ?_) ?_
    rotate_left
    · (go_simp; try with_reducible rfl)
    try simp only [Act.put, List.setIfInBounds_toArray, List.set_cons_zero, List.set_cons_succ]
    refine h_step 10 (by kernel_rfl) rfl (fun K hK => ?_)
    go_simp
    obtain ⟨va, hva⟩ : ∃ y : After V4, y.w = v1.w.alloc (.cells #[.slice none 0 0, .slice none 0 0] 25) := ⟨v1.on (b_alloc (Below.refl _ _) _), rfl⟩
    rw [← hva]
    have x0 : va.w.cell? ⟨v1.w.heap.size, 0, none⟩ = some (.slice none 0 0) := by rw [hva]; exact bn rfl rfl
    have x1 : va.w.cell? ⟨v1.w.heap.size, 1, none⟩ = some (.slice none 0 0) := by rw [hva]; exact bn rfl rfl
    have fx0 : va.w.frozen? ⟨v1.w.heap.size, 0, none⟩ = false := by rw [hva]; exact fn rfl
    have fx1 : va.w.frozen? ⟨v1.w.heap.size, 1, none⟩ = false := by rw [hva]; exact fn rfl
    have zx : v1.w.heap.size < va.w.heap.size := by rw [hva]; simp
    have hsa : va.w.heap.size = v1.w.heap.size + 1 := by rw [hva]; simp
    have hs9 : V4.heap.size ≤ v1.w.heap.size := v1.2.size
    have hn7 := hn7.below (w' := va.w) (by rw [hva]; exact b_alloc (Below.refl _ _) _)
    clear hva
    refine hK _ va ?_
    clear hK K
    try simp only [Act.put, List.setIfInBounds_toArray, List.set_cons_zero, List.set_cons_succ]
    refine h_step 11 (by kernel_rfl) rfl (fun K hK => ?_)
    go_simp
    generalize hZ : World.setCell _ _ _ = Z
    have y0 : Z.cell? ⟨v1.w.heap.size, 0, none⟩ = some (.slice qb5 nb5 qd5) := by rw [← hZ]; exact st_off _ (.inl (by decide)) (st_hit _ x0)
    have y1 : Z.cell? ⟨v1.w.heap.size, 1, none⟩ = some (.slice ab5 mm ad5) := by rw [← hZ]; exact st_hit _ (st_off _ (.inl (by decide)) x1)
    have hnz := (by rw [← hZ]; exact NetIs.set (NetIs.set hn7 (by omega) _) (by omega) _ : NetIs _ Z _ _ _)
    have zz : v1.w.heap.size < Z.heap.size := by rw [← hZ]; simpa using zx
    obtain ⟨z, rfl⟩ : ∃ z : After V4, Z = z.w := ⟨After.to (by rw [← hZ]; exact b_set (b_set va.w_below (by omega) _) (by omega) _), rfl⟩
    clear hZ
    refine hK _ z ?_
    clear hK K
    try simp only [Act.put, List.setIfInBounds_toArray, List.set_cons_zero, List.set_cons_succ]
    refine h_take 12 (x := ?_) rfl (by kernel_rfl) (by kernel_rfl) (by kernel_rfl) (fun _ _ _ h => h) (by rfl) (fun v => ?_) ?_
    rotate_left
    · (go_simp; try with_reducible rfl)
    try simp only [Act.put, List.setIfInBounds_toArray, List.set_cons_zero, List.set_cons_succ]
    refine wpAnyH_done (by kernel_rfl) ?_ _
    refine NoPanic.normal ?_
    obtain ⟨V5, hV5⟩ : ∃ V5, V5 = z.w := ⟨_, rfl⟩
    have hBV5 : Below V4.heap.size V4 V5 := by rw [hV5]; exact z.w_below
    replace n0 := upc hBV5 n0
    replace fn0 := upf hBV5 fn0
    replace n1 := upc hBV5 n1
    replace fn1 := upf hBV5 fn1
    replace q0 := upc hBV5 q0
    replace fq0 := upf hBV5 fq0
    replace q1 := upc hBV5 q1
    replace fq1 := upf hBV5 fq1
    replace q2 := upc hBV5 q2
    replace fq2 := upf hBV5 fq2
    replace a0 := upc hBV5 a0
    replace fa0 := upf hBV5 fa0
    replace a1 := upc hBV5 a1
    replace fa1 := upf hBV5 fa1
    replace b0 := upc hBV5 b0
    replace fb0 := upf hBV5 fb0
    replace b1 := upc hBV5 b1
    replace fb1 := upf hBV5 fb1
    replace c0 := upc hBV5 c0
    replace fc0 := upf hBV5 fc0
    replace c1 := upc hBV5 c1
    replace fc1 := upf hBV5 fc1
    replace d0 := upc hBV5 d0
    replace fd0 := upf hBV5 fd0
    replace d1 := upc hBV5 d1
    replace fd1 := upf hBV5 fd1
    replace zn := upz hBV5 zn
    replace zq := upz hBV5 zq
    replace za := upz hBV5 za
    replace zb := upz hBV5 zb
    replace zc := upz hBV5 zc
    replace zd := upz hBV5 zd
    replace HN := hid (upn hBV5 HN.out)
    replace HN1 := hid (upn hBV5 HN1.out)
    replace HN2 := hid (upn hBV5 HN2.out)
    replace HN3 := hid (upn hBV5 HN3.out)
    replace HN4 := hid (upn hBV5 HN4.out)
    have WV5 := hid (upb hBV5 WV4.out)
    have HN5 : Hid (∀ v : After V5, NetIs (fun _ => True) v.w (.agg #[.slice qb5 nb5 qd5, .slice ab5 mm ad5]) (lq ++ [ps[j]]) ls) := hid fun v => NetIs.below (by rw [hV5]; exact hnz.mono (ok' := fun _ => True) fun _ _ => trivial) v.2
    have x0 : ∀ v : After V5, v.w.cell? ⟨v1.w.heap.size, 0, none⟩ = some (.slice qb5 nb5 qd5) := after_cell (by rw [hV5]; exact zz) (by rw [hV5]; exact y0)
    have x1 : ∀ v : After V5, v.w.cell? ⟨v1.w.heap.size, 1, none⟩ = some (.slice ab5 mm ad5) := after_cell (by rw [hV5]; exact zz) (by rw [hV5]; exact y1)
    have zx : ∀ v : After V5, v1.w.heap.size < v.w.heap.size := after_size (by rw [hV5]; exact zz)
    rw [← hV5]
    obtain ⟨u12, hu⟩ : ∃ u : After V5, u.w = V5 := ⟨After.here V5, rfl⟩
    rw [← hu]
    clear hu hV5
    go_wp2_with fail
    refine (met (same_any d lq lq ls ls _ _ _ _ _ hq1 hl1 (HN1.out u12) (HN2.out u12) (fun q hq => (HE.out q (hqm q (hq.elim id id))).below (WV5.out u12)))).mono ?_
    rintro e _ ⟨rfl, u13, rfl⟩
    rw [decide_eq_true ⟨rfl, rfl⟩]
    go_wp2_with fail
    refine (met (same_any d (lq ++ [ps[j]]) (lq ++ [ps[j]]) ls ls _ _ _ _ _ (by simp; omega) hl1 (HN4.out u13) (HN5.out u13) (fun q hq => (HE.out q (by have hq := hq.elim id id; rcases List.mem_append.1 hq with h | h; exact hqm q h; rw [List.mem_singleton.1 h]; exact hpm)).below (WV5.out u13)))).mono ?_
    rintro e _ ⟨rfl, u14, rfl⟩
    rw [decide_eq_true ⟨rfl, rfl⟩]
    go_wp2_with fail
    exact bodyPost_ret (v := .bool true) (by simp [results, Try.results8, go_sem]) rfl ⟨rfl, WV5.out _⟩
  · go_simp
    obtain ⟨va, hva⟩ : ∃ y : After V4, y.w = u0.w.alloc (.cells #[.slice none 0 0, .slice none 0 0] 25) := ⟨u0.on (b_alloc (Below.refl _ _) _), rfl⟩
    rw [← hva]
    have x0 : va.w.cell? ⟨u0.w.heap.size, 0, none⟩ = some (.slice none 0 0) := by rw [hva]; exact bn rfl rfl
    have x1 : va.w.cell? ⟨u0.w.heap.size, 1, none⟩ = some (.slice none 0 0) := by rw [hva]; exact bn rfl rfl
    have fx0 : va.w.frozen? ⟨u0.w.heap.size, 0, none⟩ = false := by rw [hva]; exact fn rfl
    have fx1 : va.w.frozen? ⟨u0.w.heap.size, 1, none⟩ = false := by rw [hva]; exact fn rfl
    have zx : u0.w.heap.size < va.w.heap.size := by rw [hva]; simp
    have hsa : va.w.heap.size = u0.w.heap.size + 1 := by rw [hva]; simp
    have hs9 : V4.heap.size ≤ u0.w.heap.size := u0.2.size
    clear hva
    refine hK _ va ?_
    clear hK K
    try simp only [Act.put, List.setIfInBounds_toArray, List.set_cons_zero, List.set_cons_succ]
    refine h_step 6 (by kernel_rfl) rfl (fun K hK => ?_)
    go_simp
    refine (Send_any _ lq ls ps[j] (.agg #[.slice qb2 nb2 qd2, .slice ab2 mm ad2]) _ hq1 hl1 (HN2.out va)).mono ?_
    rintro e w7 h7
    obtain ⟨v7, rfl, hn7, hB7⟩ := h7.one
    rw [F10]
    rw [F11, F12] at hn7
    obtain ⟨nb5, en5⟩ : ∃ n, (lq ++ [ps[j]]).length = n := ⟨_, rfl⟩
    obtain ⟨qb5, ab5, qd5, ad5, rfl⟩ := hn7.form' (n := nb5) (m := mm) en5 hmm
    have hn7 := hn7.here
    have hs7 := hB7.size
    have hs8 : V4.heap.size ≤ va.w.heap.size := va.2.size
    have x0 := bb hB7 zx x0
    have x1 := bb hB7 zx x1
    have fx0 := fb hB7 zx fx0
    have fx1 := fb hB7 zx fx1
    have zx := Nat.lt_of_lt_of_le zx hs7
    obtain ⟨v1, rfl⟩ : ∃ v1 : After V4, w7 = v1.w := ⟨va.on hB7, rfl⟩
    go_simp
    refine hK _ v1 ?_
    clear hK K
    try simp only [Act.put, List.setIfInBounds_toArray, List.set_cons_zero, List.set_cons_succ]
    refine h_take 7 (x := ?_) rfl (by kernel_rfl) (by kernel_rfl) (by kernel_rfl) (fun _ _ _ h => h) (by rfl) (fun v => ?_) ?_
    rotate_left
    · (go_simp; try with_reducible rfl)
    try simp only [Act.put, List.setIfInBounds_toArray, List.set_cons_zero, List.set_cons_succ]
    refine h_take 8 (x := ?_) rfl (by kernel_rfl) (by kernel_rfl) (by kernel_rfl) (fun _ _ _ h => h) (by rfl) (fun v => ?_) ?_
    rotate_left
    · (go_simp; try with_reducible rfl)
    try simp only [Act.put, List.setIfInBounds_toArray, List.set_cons_zero, List.set_cons_succ]
    refine h_take 9 (x := ?_) rfl (by kernel_rfl) (by kernel_rfl) (by kernel_rfl) (fun _ _ _ h => h) (by rfl) (fun v => ?_) ?_
    rotate_left
    · (go_simp; try with_reducible rfl)
    try simp only [Act.put, List.setIfInBounds_toArray, List.set_cons_zero, List.set_cons_succ]
    refine h_step 11 (by kernel_rfl) rfl (fun K hK => ?_)
    go_simp
    generalize hZ : World.setCell _ _ _ = Z
    have y0 : Z.cell? ⟨u0.w.heap.size, 0, none⟩ = some (.slice qb5 nb5 qd5) := by rw [← hZ]; exact st_off _ (.inl (by decide)) (st_hit _ x0)
    have y1 : Z.cell? ⟨u0.w.heap.size, 1, none⟩ = some (.slice ab5 mm ad5) := by rw [← hZ]; exact st_hit _ (st_off _ (.inl (by decide)) x1)
    have hnz := (by rw [← hZ]; exact NetIs.set (NetIs.set hn7 (by omega) _) (by omega) _ : NetIs _ Z _ _ _)
    have zz : u0.w.heap.size < Z.heap.size := by rw [← hZ]; simpa using zx
    obtain ⟨z, rfl⟩ : ∃ z : After V4, Z = z.w := ⟨After.to (by rw [← hZ]; exact b_set (b_set v1.w_below (by omega) _) (by omega) _), rfl⟩
    clear hZ
    refine hK _ z ?_
    clear hK K
    try simp only [Act.put, List.setIfInBounds_toArray, List.set_cons_zero, List.set_cons_succ]
    refine h_take 12 (x := ?_) rfl (by kernel_rfl) (by kernel_rfl) (by kernel_rfl) (fun _ _ _ h => h) (by rfl) (fun v => ?_) ?_
    rotate_left
    · (go_simp; try with_reducible rfl)
    try simp only [Act.put, List.setIfInBounds_toArray, List.set_cons_zero, List.set_cons_succ]
    refine wpAnyH_done (by kernel_rfl) ?_ _
    refine NoPanic.normal ?_
    obtain ⟨V5, hV5⟩ : ∃ V5, V5 = z.w := ⟨_, rfl⟩
    have hBV5 : Below V4.heap.size V4 V5 := by rw [hV5]; exact z.w_below
    replace n0 := upc hBV5 n0
    replace fn0 := upf hBV5 fn0
    replace n1 := upc hBV5 n1
    replace fn1 := upf hBV5 fn1
    replace q0 := upc hBV5 q0
    replace fq0 := upf hBV5 fq0
    replace q1 := upc hBV5 q1
    replace fq1 := upf hBV5 fq1
    replace q2 := upc hBV5 q2
    replace fq2 := upf hBV5 fq2
    replace a0 := upc hBV5 a0
    replace fa0 := upf hBV5 fa0
    replace a1 := upc hBV5 a1
    replace fa1 := upf hBV5 fa1
    replace b0 := upc hBV5 b0
    replace fb0 := upf hBV5 fb0
    replace b1 := upc hBV5 b1
    replace fb1 := upf hBV5 fb1
    replace c0 := upc hBV5 c0
    replace fc0 := upf hBV5 fc0
    replace c1 := upc hBV5 c1
    replace fc1 := upf hBV5 fc1
    replace d0 := upc hBV5 d0
    replace fd0 := upf hBV5 fd0
    replace d1 := upc hBV5 d1
    replace fd1 := upf hBV5 fd1
    replace zn := upz hBV5 zn
    replace zq := upz hBV5 zq
    replace za := upz hBV5 za
    replace zb := upz hBV5 zb
    replace zc := upz hBV5 zc
    replace zd := upz hBV5 zd
    replace HN := hid (upn hBV5 HN.out)
    replace HN1 := hid (upn hBV5 HN1.out)
    replace HN2 := hid (upn hBV5 HN2.out)
    replace HN3 := hid (upn hBV5 HN3.out)
    replace HN4 := hid (upn hBV5 HN4.out)
    have WV5 := hid (upb hBV5 WV4.out)
    have HN5 : Hid (∀ v : After V5, NetIs (fun _ => True) v.w (.agg #[.slice qb5 nb5 qd5, .slice ab5 mm ad5]) (lq ++ [ps[j]]) ls) := hid fun v => NetIs.below (by rw [hV5]; exact hnz.mono (ok' := fun _ => True) fun _ _ => trivial) v.2
    have x0 : ∀ v : After V5, v.w.cell? ⟨u0.w.heap.size, 0, none⟩ = some (.slice qb5 nb5 qd5) := after_cell (by rw [hV5]; exact zz) (by rw [hV5]; exact y0)
    have x1 : ∀ v : After V5, v.w.cell? ⟨u0.w.heap.size, 1, none⟩ = some (.slice ab5 mm ad5) := after_cell (by rw [hV5]; exact zz) (by rw [hV5]; exact y1)
    have zx : ∀ v : After V5, u0.w.heap.size < v.w.heap.size := after_size (by rw [hV5]; exact zz)
    rw [← hV5]
    obtain ⟨u12, hu⟩ : ∃ u : After V5, u.w = V5 := ⟨After.here V5, rfl⟩
    rw [← hu]
    clear hu hV5
    go_wp2_with fail
    refine (met (same_any d lq lq ls ls _ _ _ _ _ hq1 hl1 (HN1.out u12) (HN2.out u12) (fun q hq => (HE.out q (hqm q (hq.elim id id))).below (WV5.out u12)))).mono ?_
    rintro e _ ⟨rfl, u13, rfl⟩
    rw [decide_eq_true ⟨rfl, rfl⟩]
    go_wp2_with fail
    refine (met (same_any d (lq ++ [ps[j]]) (lq ++ [ps[j]]) ls ls _ _ _ _ _ (by simp; omega) hl1 (HN4.out u13) (HN5.out u13) (fun q hq => (HE.out q (by have hq := hq.elim id id; rcases List.mem_append.1 hq with h | h; exact hqm q h; rw [List.mem_singleton.1 h]; exact hpm)).below (WV5.out u13)))).mono ?_
    rintro e _ ⟨rfl, u14, rfl⟩
    rw [decide_eq_true ⟨rfl, rfl⟩]
    go_wp2_with fail
    exact bodyPost_ret (v := .bool true) (by simp [results, Try.results8, go_sem]) rfl ⟨rfl, WV5.out _⟩
end Go.Proofs.Ytmikhkmdcpgkfaa
namespace Go.Proofs.Ytmikhkmdcpgkfaa.Lost8
open Go.ChangeShapes Go.WideShapes Go.ChangeAt Go.RowKit Go.Joins

theorem own : ownKnob Try.prog.godebug = none := by kernel_rfl
theorem laidOut : laidOutB Try.prog = true := by kernel_rfl

set_option maxRecDepth 100000 in
theorem lifted (os : Os) (started : os.Started) (H : Type) (enc : TypeId × Value → H) :
    ReturnsInHanded {} Try.checked os 8 .any (Rows.networkLostSpec.pre6 enc Try.prog Try.f8 Rows.networkLostRow.domain false) (Rows.networkLostSpec.post enc Try.prog Try.f8 false true false false) := by
  refine returnsInHanded_of_change (C := Try.checked) own started (by kernel_rfl) Try.func8
    (ChangeSpec.witness6 (enc := enc) (C := Try.checked) false ⟨#[], #[.agg #[.slice none 0 0, .slice none 0 0], .int .u64 0], []⟩ 8 (by kernel_rfl) (by kernel_rfl) (by kernel_rfl) (by kernel_rfl)) ?_
  intro W base args ds gs before hval0 hW hcnd _
  have hval : ∀ (j : Nat) t v, Try.f8.params[j]? = some t → args[j]? = some v → Value.okWide Try.prog W .any base t v := hval0
  have hW' := hW
  obtain ⟨p, q, hA0, hV, rfl, hfz, hnd⟩ := hW
  have hA : DataW.TrodAll enc Try.prog W 0 (fun _ => true) true Try.f8.params.toList args.toList ds p := hA0
  rw [Try.params8] at hA hval
  obtain ⟨v0, vs0, d0, ds0, p0, q0, hargs, rfl, rfl, h0, r0⟩ := trodAll_cons hA
  obtain ⟨v1, vs1, d1, ds1, p1, q1, rfl, rfl, rfl, h1, r1⟩ := trodAll_cons r0
  obtain ⟨rfl, rfl, rfl⟩ := trodAll_nil r1
  obtain rfl : args = #[v0, v1] := by cases args; simp_all
  obtain ⟨rfl, rfl⟩ := trodVars_none hV
  have k0 := h0
  have lt0 : ∀ x ∈ p0, x.block < W.heap.size := by obtain ⟨m, hm⟩ := k0; exact DataW.trod_lt m _ _ _ hm
  obtain ⟨ps0, ls0, hN0, hD0⟩ := open_netv (hval 0 25 v0 rfl rfl) h0
  obtain ⟨a1, rfl, rfl, rfl, w1⟩ := open_int Try.underlying42 (hval 1 42 v1 rfl rfl) h1
  clear hA0 hval0
  refine (lost_walk (dOf W) ps0 ls0 v0 a1 (by have := bounds_u64 w1; omega) W hN0 hD0).mono fun e W' ⟨he, bel⟩ => ?_
  subst he
  exact ⟨_, rfl, _, _, _, [], _, [], hW', trodAll_mk1 (shut_bool Try.underlying4 _), (trodAll_cons_mk (Below.trod laidOut (by kernel_rfl) (of_decide_eq_true (by kernel_rfl)) k0 bel lt0) (trodAll_cons_mk (shut_int Try.underlying42 w1) trodAll_mk0)), rfl, bel.frame _, fun h => by cases h⟩

theorem over : Rows.networkLostRow.holds Try.pinned (OpenSpec.ofChange Rows.networkLostSpec) :=
  OpenClaim.holds_of_wide 8 Try.f8 rfl rfl rfl rfl rfl rfl rfl ⟨rfl, rfl, rfl, rfl, rfl⟩ rfl rfl rfl rfl rfl (by kernel_rfl) Try.func8 (by kernel_rfl)
    (of_decide_eq_true (by kernel_rfl)) (by unfold Func.isWrapper; first | (rw [if_pos (by decide +kernel)]; kernel_rfl) | (rw [if_neg (by decide +kernel)]; exact ⟨rfl, rfl⟩))
    (fun os started H enc _ => lifted os started H enc)
end Go.Proofs.Ytmikhkmdcpgkfaa.Lost8
namespace Go.Proofs.Ytmikhkmdcpgkfaa
/-- The statement. -/
theorem networkLost_holds : Rows.NetworkLostSaid := Lost8.over
end Go.Proofs.Ytmikhkmdcpgkfaa
