/- NetworkSpec. -/
import Derived.Test.YtmikhkmdcpgkfaaF2
import Derived.Test.YtmikhkmdcpgkfaaT
namespace Go.Proofs.Ytmikhkmdcpgkfaa
open Go.RowKit
open Go.Lib (hid)

set_option maxRecDepth 100000 in
set_option maxHeartbeats 8000000 in
theorem spec_walk (d : Pk → List UInt8) (ps : List Pk) (ls : List (Int × Int)) (p : Pk) (v : Value) (W : World) (hv : NetIs (fun _ => True) W v ps ls) (hd : ∀ q, q ∈ ps ∨ q = p → DataIs W q (d q)) :
    Calls Try.prog 3 #[v, p.v] W fun e w' => e = .returned (.bool true) ∧ Below W.heap.size W w' := by
  have hv0 := hv
  obtain ⟨nn, hnn⟩ : ∃ n, ps.length = n := ⟨_, rfl⟩
  obtain ⟨mm, hmm⟩ : ∃ n, ls.length = n := ⟨_, rfl⟩
  obtain ⟨qa, aa, qc, ac, rfl⟩ := hv0.form' (n := nn) (m := mm) hnn hmm
  clear hv0
  have HV := hid hv; clear hv
  have HD := hid hd; clear hd
  rw [show p.v = .agg #[.int .i64 p.fr, .int .i64 p.to, .slice p.da p.dn p.dc] from rfl]
  go_enter Try.func3, Try.ntmps3
  go_wp2_with fail
  obtain ⟨V0, hV0⟩ : ∃ V0, V0 = ((W.alloc (.cells #[.slice qa nn qc, .slice aa mm ac] 25)).alloc (.cells #[.int .i64 p.fr, .int .i64 p.to, .slice p.da p.dn p.dc] 28)) := ⟨_, rfl⟩
  have n0 : ∀ v : After V0, v.w.cell? ⟨W.heap.size, 0, none⟩ = some (.slice qa nn qc) := after_cell (by rw [hV0]; first | (simp; done) | omega | (simp; omega)) (by rw [hV0]; (repeat (first | with_reducible assumption | exact bn (by first | (simp; done) | omega | (simp; omega)) rfl | refine bo (by first | (simp; done) | omega | (simp; omega)) ?_)))
  have fn0 : ∀ v : After V0, v.w.frozen? ⟨W.heap.size, 0, none⟩ = false := after_frozen (by rw [hV0]; first | (simp; done) | omega | (simp; omega)) (by rw [hV0]; (repeat (first | exact fn (by first | (simp; done) | omega | (simp; omega)) | refine fo (by first | (simp; done) | omega | (simp; omega)) ?_)))
  have n1 : ∀ v : After V0, v.w.cell? ⟨W.heap.size, 1, none⟩ = some (.slice aa mm ac) := after_cell (by rw [hV0]; first | (simp; done) | omega | (simp; omega)) (by rw [hV0]; (repeat (first | with_reducible assumption | exact bn (by first | (simp; done) | omega | (simp; omega)) rfl | refine bo (by first | (simp; done) | omega | (simp; omega)) ?_)))
  have fn1 : ∀ v : After V0, v.w.frozen? ⟨W.heap.size, 1, none⟩ = false := after_frozen (by rw [hV0]; first | (simp; done) | omega | (simp; omega)) (by rw [hV0]; (repeat (first | exact fn (by first | (simp; done) | omega | (simp; omega)) | refine fo (by first | (simp; done) | omega | (simp; omega)) ?_)))
  have zn : ∀ v : After V0, W.heap.size < v.w.heap.size := after_size (by rw [hV0]; first | (simp; done) | omega | (simp; omega))
  have p0 : ∀ v : After V0, v.w.cell? ⟨W.heap.size + 1, 0, none⟩ = some (.int .i64 p.fr) := after_cell (by rw [hV0]; first | (simp; done) | omega | (simp; omega)) (by rw [hV0]; (repeat (first | with_reducible assumption | exact bn (by first | (simp; done) | omega | (simp; omega)) rfl | refine bo (by first | (simp; done) | omega | (simp; omega)) ?_)))
  have fp0 : ∀ v : After V0, v.w.frozen? ⟨W.heap.size + 1, 0, none⟩ = false := after_frozen (by rw [hV0]; first | (simp; done) | omega | (simp; omega)) (by rw [hV0]; (repeat (first | exact fn (by first | (simp; done) | omega | (simp; omega)) | refine fo (by first | (simp; done) | omega | (simp; omega)) ?_)))
  have p1 : ∀ v : After V0, v.w.cell? ⟨W.heap.size + 1, 1, none⟩ = some (.int .i64 p.to) := after_cell (by rw [hV0]; first | (simp; done) | omega | (simp; omega)) (by rw [hV0]; (repeat (first | with_reducible assumption | exact bn (by first | (simp; done) | omega | (simp; omega)) rfl | refine bo (by first | (simp; done) | omega | (simp; omega)) ?_)))
  have fp1 : ∀ v : After V0, v.w.frozen? ⟨W.heap.size + 1, 1, none⟩ = false := after_frozen (by rw [hV0]; first | (simp; done) | omega | (simp; omega)) (by rw [hV0]; (repeat (first | exact fn (by first | (simp; done) | omega | (simp; omega)) | refine fo (by first | (simp; done) | omega | (simp; omega)) ?_)))
  have p2 : ∀ v : After V0, v.w.cell? ⟨W.heap.size + 1, 2, none⟩ = some (.slice p.da p.dn p.dc) := after_cell (by rw [hV0]; first | (simp; done) | omega | (simp; omega)) (by rw [hV0]; (repeat (first | with_reducible assumption | exact bn (by first | (simp; done) | omega | (simp; omega)) rfl | refine bo (by first | (simp; done) | omega | (simp; omega)) ?_)))
  have fp2 : ∀ v : After V0, v.w.frozen? ⟨W.heap.size + 1, 2, none⟩ = false := after_frozen (by rw [hV0]; first | (simp; done) | omega | (simp; omega)) (by rw [hV0]; (repeat (first | exact fn (by first | (simp; done) | omega | (simp; omega)) | refine fo (by first | (simp; done) | omega | (simp; omega)) ?_)))
  have zp : ∀ v : After V0, W.heap.size + 1 < v.w.heap.size := after_size (by rw [hV0]; first | (simp; done) | omega | (simp; omega))
  have hwV0 : Below W.heap.size W V0 := by rw [hV0]; exact (by repeat (first | exact Below.refl _ _ | assumption | refine b_then ?_ (by assumption) | refine b_alloc ?_ _ | refine b_drewN ?_ _ | refine b_drew ?_ | refine b_set ?_ (by omega) _ | refine b_set ?_ (by simp) _))
  have WV0 := hid (after_below hwV0)
  rw [← hV0]
  obtain ⟨u0, hu⟩ : ∃ u : After V0, u.w = V0 := ⟨After.here V0, rfl⟩
  rw [← hu]
  clear hu hV0
  have HN := hid (fun v : After V0 => HV.out.below (WV0.out v))
  have HP := hid (fun v : After V0 => (fun q hq => (HD.out q hq).below (WV0.out v) : ∀ q, q ∈ ps ∨ q = p → DataIs v.w q (d q)))
  refine (met (sane_any _)).mono ?_
  rintro e _ ⟨rfl, u1, rfl⟩
  go_wp2_with fail
  refine (met (few_any _ ps ls _ _ (HN.out u1))).mono ?_
  rintro e _ ⟨rfl, u2, rfl⟩
  by_cases hf : (decide (ps.length ≤ 40) && decide (ls.length ≤ 40)) = true
  case neg =>
    rw [Bool.not_eq_true] at hf
    rw [hf]
    go_wp2_with fail
    exact bodyPost_ret (v := .bool true) (by simp [results, Try.results3, go_sem]) rfl ⟨rfl, WV0.out _⟩
  rw [hf]
  simp only [Bool.and_eq_true, decide_eq_true_eq] at hf
  have hp1 : ps.length ≤ 1000 := by omega
  have hl1 : ls.length ≤ 1000 := by omega
  go_wp2_with fail
  rw [← show p.v = .agg #[.int .i64 p.fr, .int .i64 p.to, .slice p.da p.dn p.dc] from rfl]
  refine (Send_any _ ps ls p _ _ hp1 hl1 (HN.out u2)).mono ?_
  rintro e w9 h9
  obtain ⟨v9, rfl, hn9, hB9⟩ := h9.one
  obtain ⟨u3, rfl⟩ : ∃ y9 : After V0, w9 = y9.w := ⟨u2.on hB9, rfl⟩
  clear hB9
  obtain ⟨nb1, en1⟩ : ∃ n, (sendQ ps ls p).length = n := ⟨_, rfl⟩
  obtain ⟨lb1, el1⟩ : ∃ n, (sendL ps ls p).length = n := ⟨_, rfl⟩
  have hn9 : NetIs (fun g => True ∨ u2.w.heap.size ≤ g) _ _ (sendQ ps ls p) (sendL ps ls p) := hn9
  obtain ⟨qb1, ab1, qd1, ad1, rfl⟩ := hn9.form' (n := nb1) (m := lb1) en1 el1
  go_wp2_with fail
  obtain ⟨V1, hV1⟩ : ∃ V1, V1 = (u3.w.alloc (.cells #[.slice qb1 nb1 qd1, .slice ab1 lb1 ad1] 25)) := ⟨_, rfl⟩
  have hCV1 : Below u3.w.heap.size u3.w V1 := by rw [hV1]; exact (by repeat (first | exact Below.refl _ _ | assumption | refine b_then ?_ (by assumption) | refine b_alloc ?_ _ | refine b_drewN ?_ _ | refine b_drew ?_ | refine b_set ?_ (by omega) _ | refine b_set ?_ (by simp) _))
  have hBV1 : Below V0.heap.size V0 V1 := b_then u3.w_below hCV1
  have yV1n := zn u3
  have yV1p := zp u3
  replace n0 := upc hBV1 n0
  replace fn0 := upf hBV1 fn0
  replace n1 := upc hBV1 n1
  replace fn1 := upf hBV1 fn1
  replace p0 := upc hBV1 p0
  replace fp0 := upf hBV1 fp0
  replace p1 := upc hBV1 p1
  replace fp1 := upf hBV1 fp1
  replace p2 := upc hBV1 p2
  replace fp2 := upf hBV1 fp2
  replace zn := upz hBV1 zn
  replace zp := upz hBV1 zp
  have WV1 := hid (upb hBV1 WV0.out)
  have HN1 : Hid (∀ v : After V1, NetIs (fun g => True ∨ u2.w.heap.size ≤ g) v.w (.agg #[.slice qb1 nb1 qd1, .slice ab1 lb1 ad1]) (sendQ ps ls p) (sendL ps ls p)) := hid fun v => hn9.below (b_then hCV1 v.2)
  have a0 : ∀ v : After V1, v.w.cell? ⟨u3.w.heap.size, 0, none⟩ = some (.slice qb1 nb1 qd1) := after_cell (by rw [hV1]; first | (simp; done) | omega | (simp; omega)) (by rw [hV1]; (repeat (first | with_reducible assumption | exact bn (by first | (simp; done) | omega | (simp; omega)) rfl | refine bo (by first | (simp; done) | omega | (simp; omega)) ?_)))
  have fa0 : ∀ v : After V1, v.w.frozen? ⟨u3.w.heap.size, 0, none⟩ = false := after_frozen (by rw [hV1]; first | (simp; done) | omega | (simp; omega)) (by rw [hV1]; (repeat (first | exact fn (by first | (simp; done) | omega | (simp; omega)) | refine fo (by first | (simp; done) | omega | (simp; omega)) ?_)))
  have a1 : ∀ v : After V1, v.w.cell? ⟨u3.w.heap.size, 1, none⟩ = some (.slice ab1 lb1 ad1) := after_cell (by rw [hV1]; first | (simp; done) | omega | (simp; omega)) (by rw [hV1]; (repeat (first | with_reducible assumption | exact bn (by first | (simp; done) | omega | (simp; omega)) rfl | refine bo (by first | (simp; done) | omega | (simp; omega)) ?_)))
  have fa1 : ∀ v : After V1, v.w.frozen? ⟨u3.w.heap.size, 1, none⟩ = false := after_frozen (by rw [hV1]; first | (simp; done) | omega | (simp; omega)) (by rw [hV1]; (repeat (first | exact fn (by first | (simp; done) | omega | (simp; omega)) | refine fo (by first | (simp; done) | omega | (simp; omega)) ?_)))
  have za : ∀ v : After V1, u3.w.heap.size < v.w.heap.size := after_size (by rw [hV1]; first | (simp; done) | omega | (simp; omega))
  rw [← hV1]
  obtain ⟨u4, hu⟩ : ∃ u : After V1, u.w = V1 := ⟨After.here V1, rfl⟩
  rw [← hu]
  clear hu hV1 hCV1
  have HN := hid (fun v : After V1 => HN.out (v.up hBV1))
  have HP := hid (fun v : After V1 => HP.out (v.up hBV1))
  rw [← show p.v = .agg #[.int .i64 p.fr, .int .i64 p.to, .slice p.da p.dn p.dc] from rfl]
  refine (rSend_any _ ps ls p _ _ hp1 hl1 (HN.out u4)).mono ?_
  rintro e w9 h9
  obtain ⟨v9, rfl, hn9, hB9⟩ := h9.one
  obtain ⟨u5, rfl⟩ : ∃ y9 : After V1, w9 = y9.w := ⟨u4.on hB9, rfl⟩
  clear hB9
  obtain ⟨nb2, en2⟩ : ∃ n, (sendQ ps ls p).length = n := ⟨_, rfl⟩
  obtain ⟨lb2, el2⟩ : ∃ n, (sendL ps ls p).length = n := ⟨_, rfl⟩
  have hn9 : NetIs (fun g => True ∨ u4.w.heap.size ≤ g) _ _ (sendQ ps ls p) (sendL ps ls p) := hn9
  obtain ⟨qb2, ab2, qd2, ad2, rfl⟩ := hn9.form' (n := nb2) (m := lb2) en2 el2
  have sn0u5 : W.heap.size < u5.w.heap.size := by have := zn u5; omega
  have ln0u5 : W.heap.size ≤ u5.w.heap.size := by have := zn u5; omega
  have sp0u5 : W.heap.size + 1 < u5.w.heap.size := by have := zp u5; omega
  have lp0u5 : W.heap.size + 1 ≤ u5.w.heap.size := by have := zp u5; omega
  have sa0u5 : u3.w.heap.size < u5.w.heap.size := by have := za u5; omega
  have la0u5 : u3.w.heap.size ≤ u5.w.heap.size := by have := za u5; omega
  go_wp2_with fail
  obtain ⟨V2, hV2⟩ : ∃ V2, V2 = (u5.w.alloc (.cells #[.slice qb2 nb2 qd2, .slice ab2 lb2 ad2] 25)) := ⟨_, rfl⟩
  have hCV2 : Below u5.w.heap.size u5.w V2 := by rw [hV2]; exact (by repeat (first | exact Below.refl _ _ | assumption | refine b_then ?_ (by assumption) | refine b_alloc ?_ _ | refine b_drewN ?_ _ | refine b_drew ?_ | refine b_set ?_ (by omega) _ | refine b_set ?_ (by simp) _))
  have hBV2 : Below V1.heap.size V1 V2 := b_then u5.w_below hCV2
  have yV2n := zn u5
  have yV2p := zp u5
  have yV2a := za u5
  replace n0 := upc hBV2 n0
  replace fn0 := upf hBV2 fn0
  replace n1 := upc hBV2 n1
  replace fn1 := upf hBV2 fn1
  replace p0 := upc hBV2 p0
  replace fp0 := upf hBV2 fp0
  replace p1 := upc hBV2 p1
  replace fp1 := upf hBV2 fp1
  replace p2 := upc hBV2 p2
  replace fp2 := upf hBV2 fp2
  replace a0 := upc hBV2 a0
  replace fa0 := upf hBV2 fa0
  replace a1 := upc hBV2 a1
  replace fa1 := upf hBV2 fa1
  replace zn := upz hBV2 zn
  replace zp := upz hBV2 zp
  replace za := upz hBV2 za
  replace HN1 := hid (upn hBV2 HN1.out)
  have WV2 := hid (upb hBV2 WV1.out)
  have HN2 : Hid (∀ v : After V2, NetIs (fun g => True ∨ u4.w.heap.size ≤ g) v.w (.agg #[.slice qb2 nb2 qd2, .slice ab2 lb2 ad2]) (sendQ ps ls p) (sendL ps ls p)) := hid fun v => hn9.below (b_then hCV2 v.2)
  have b0 : ∀ v : After V2, v.w.cell? ⟨u5.w.heap.size, 0, none⟩ = some (.slice qb2 nb2 qd2) := after_cell (by rw [hV2]; first | (simp; done) | omega | (simp; omega)) (by rw [hV2]; (repeat (first | with_reducible assumption | exact bn (by first | (simp; done) | omega | (simp; omega)) rfl | refine bo (by first | (simp; done) | omega | (simp; omega)) ?_)))
  have fb0 : ∀ v : After V2, v.w.frozen? ⟨u5.w.heap.size, 0, none⟩ = false := after_frozen (by rw [hV2]; first | (simp; done) | omega | (simp; omega)) (by rw [hV2]; (repeat (first | exact fn (by first | (simp; done) | omega | (simp; omega)) | refine fo (by first | (simp; done) | omega | (simp; omega)) ?_)))
  have b1 : ∀ v : After V2, v.w.cell? ⟨u5.w.heap.size, 1, none⟩ = some (.slice ab2 lb2 ad2) := after_cell (by rw [hV2]; first | (simp; done) | omega | (simp; omega)) (by rw [hV2]; (repeat (first | with_reducible assumption | exact bn (by first | (simp; done) | omega | (simp; omega)) rfl | refine bo (by first | (simp; done) | omega | (simp; omega)) ?_)))
  have fb1 : ∀ v : After V2, v.w.frozen? ⟨u5.w.heap.size, 1, none⟩ = false := after_frozen (by rw [hV2]; first | (simp; done) | omega | (simp; omega)) (by rw [hV2]; (repeat (first | exact fn (by first | (simp; done) | omega | (simp; omega)) | refine fo (by first | (simp; done) | omega | (simp; omega)) ?_)))
  have zb : ∀ v : After V2, u5.w.heap.size < v.w.heap.size := after_size (by rw [hV2]; first | (simp; done) | omega | (simp; omega))
  rw [← hV2]
  obtain ⟨u6, hu⟩ : ∃ u : After V2, u.w = V2 := ⟨After.here V2, rfl⟩
  rw [← hu]
  clear hu hV2 hCV2
  have HN := hid (fun v : After V2 => HN.out (v.up hBV2))
  have HP := hid (fun v : After V2 => HP.out (v.up hBV2))
  obtain ⟨ck, hck⟩ : ∃ x, chk ps ls = x := ⟨_, rfl⟩
  have eck : (ck == ck) = true := beq_self_eq_true _
  obtain ⟨sx, hsx⟩ : ∃ x, sendX ps ls p = x := ⟨_, rfl⟩
  rw [hsx]
  have esx : (sx == sx) = true := beq_self_eq_true _
  have g13 : ∀ v : After V2, Calls Try.prog 13 #[.agg #[.slice qa nn qc, .slice aa mm ac]] v.w fun e w'' => e = .returned (.int .i64 ck) ∧ ∃ u : After V2, w'' = u.w := fun v => met (hck ▸ Check_net (HN.out v) hp1 hl1)
  have g14 : ∀ v : After V2, Calls Try.prog 14 #[.agg #[.slice qa nn qc, .slice aa mm ac]] v.w fun e w'' => e = .returned (.int .i64 ck) ∧ ∃ u : After V2, w'' = u.w := fun v => met (hck ▸ rCheck_net (HN.out v) hp1 hl1)
  have g15 : ∀ v : After V2, Calls Try.prog 15 #[.agg #[.slice qb1 nb1 qd1, .slice ab1 lb1 ad1], .agg #[.slice qb2 nb2 qd2, .slice ab2 lb2 ad2]] v.w fun e w'' => e = .returned (.bool true) ∧ ∃ u : After V2, w'' = u.w := fun v => (by have h := met (same_any d _ _ _ _ _ _ _ _ v.w (Nat.le_trans (sendQ_len ps ls p) (by omega)) (Nat.le_trans (sendL_len ps ls p) (by omega)) (HN1.out v) (HN2.out v) (fun q hq => HP.out v q (by rcases hq with hq | hq <;> exact sendQ_mem hq))); rw [decide_eq_true ⟨rfl, rfl⟩] at h; exact h)
  have g15b : ∀ v : After V2, Calls Try.prog 15 #[.agg #[.slice none 0 0, .slice none 0 0], .agg #[.slice none 0 0, .slice none 0 0]] v.w fun e w'' => e = .returned (.bool true) ∧ ∃ u : After V2, w'' = u.w := fun v => (by have h := met (same_any d [] [] [] [] _ _ _ _ v.w (by simp) (by simp) (NetIs.zero (fun _ => False) v.w) (NetIs.zero (fun _ => False) v.w) (fun q hq => by simp at hq)); rw [decide_eq_true ⟨rfl, rfl⟩] at h; exact h)
  have g16 : ∀ v : After V2, Calls Try.prog 16 #[] v.w fun e w'' => e = .returned (.agg #[.slice none 0 0, .slice none 0 0]) ∧ ∃ u : After V2, w'' = u.w := fun v => met (new_any _)
  have g17 : ∀ v : After V2, Calls Try.prog 17 #[] v.w fun e w'' => e = .returned (.agg #[.slice none 0 0, .slice none 0 0]) ∧ ∃ u : After V2, w'' = u.w := fun v => met (rnew_any _)
  go_upto_region 7 with fail
  refine wp_region_since (by kernel_rfl) (by kernel_rfl) ?_
  iterate 18 (go_big_quiet_step ((first | (go_at_call 13; exact g13 _) | (go_at_call 14; exact g14 _) | (go_at_call 15; exact g15 _) | (go_at_call 16; exact g16 _) | (go_at_call 17; exact g17 _))))
  repeat (go_big_quiet_step ((first | (go_at_call 13; exact g13 _) | (go_at_call 14; exact g14 _) | (go_at_call 15; exact g15b _) | (go_at_call 16; exact g16 _) | (go_at_call 17; exact g17 _))))
  refine wpQuiet_nil ?_
  intro u7
  go_wp2_with fail
  exact bodyPost_ret (v := .bool true) (by simp [results, Try.results3, go_sem]) rfl ⟨rfl, WV2.out _⟩
end Go.Proofs.Ytmikhkmdcpgkfaa
namespace Go.Proofs.Ytmikhkmdcpgkfaa.Spec3
open Go.ChangeShapes Go.WideShapes Go.ChangeAt Go.RowKit Go.Joins

theorem own : ownKnob Try.prog.godebug = none := by kernel_rfl
theorem laidOut : laidOutB Try.prog = true := by kernel_rfl

set_option maxRecDepth 100000 in
theorem lifted (os : Os) (started : os.Started) (H : Type) (enc : TypeId × Value → H) :
    ReturnsInHanded {} Try.checked os 3 .any (Rows.networkSpecSpec.pre6 enc Try.prog Try.f3 Rows.networkSpecRow.domain false) (Rows.networkSpecSpec.post enc Try.prog Try.f3 false true false false) := by
  refine returnsInHanded_of_change (C := Try.checked) own started (by kernel_rfl) Try.func3
    (ChangeSpec.witness6 (enc := enc) (C := Try.checked) false ⟨#[], #[.agg #[.slice none 0 0, .slice none 0 0], .agg #[.int .i64 0, .int .i64 0, .slice none 0 0]], []⟩ 8 (by kernel_rfl) (by kernel_rfl) (by kernel_rfl) (by kernel_rfl)) ?_
  intro W base args ds gs before hval0 hW hcnd _
  have hval : ∀ (j : Nat) t v, Try.f3.params[j]? = some t → args[j]? = some v → Value.okWide Try.prog W .any base t v := hval0
  have hW' := hW
  obtain ⟨p, q, hA0, hV, rfl, hfz, hnd⟩ := hW
  have hA : DataW.TrodAll enc Try.prog W 0 (fun _ => true) true Try.f3.params.toList args.toList ds p := hA0
  rw [Try.params3] at hA hval
  obtain ⟨v0, vs0, d0, ds0, p0, q0, hargs, rfl, rfl, h0, r0⟩ := trodAll_cons hA
  obtain ⟨v1, vs1, d1, ds1, p1, q1, rfl, rfl, rfl, h1, r1⟩ := trodAll_cons r0
  obtain ⟨rfl, rfl, rfl⟩ := trodAll_nil r1
  obtain rfl : args = #[v0, v1] := by cases args; simp_all
  obtain ⟨rfl, rfl⟩ := trodVars_none hV
  have k0 := h0
  have lt0 : ∀ x ∈ p0, x.block < W.heap.size := by obtain ⟨m, hm⟩ := k0; exact DataW.trod_lt m _ _ _ hm
  obtain ⟨ps0, ls0, hN0, hD0⟩ := open_netv (hval 0 25 v0 rfl rfl) h0
  have k1 := h1
  have lt1 : ∀ x ∈ p1, x.block < W.heap.size := by obtain ⟨m, hm⟩ := k1; exact DataW.trod_lt m _ _ _ hm
  obtain ⟨pk1, rfl, hP1⟩ := open_packetv (hval 1 28 v1 rfl rfl) h1
  clear hA0 hval0
  refine (spec_walk (dOf W) ps0 ls0 pk1 v0 W hN0 (fun q hq => hq.elim (hD0 q) (fun e => e ▸ hP1))).mono fun e W' ⟨he, bel⟩ => ?_
  subst he
  exact ⟨_, rfl, _, _, _, [], _, [], hW', trodAll_mk1 (shut_bool Try.underlying4 _), (trodAll_cons_mk (Below.trod laidOut (by kernel_rfl) (of_decide_eq_true (by kernel_rfl)) k0 bel lt0) (trodAll_cons_mk (Below.trod laidOut (by kernel_rfl) (of_decide_eq_true (by kernel_rfl)) k1 bel lt1) trodAll_mk0)), rfl, bel.frame _, fun h => by cases h⟩

theorem over : Rows.networkSpecRow.holds Try.pinned (OpenSpec.ofChange Rows.networkSpecSpec) :=
  OpenClaim.holds_of_wide 3 Try.f3 rfl rfl rfl rfl rfl rfl rfl ⟨rfl, rfl, rfl, rfl, rfl⟩ rfl rfl rfl rfl rfl (by kernel_rfl) Try.func3 (by kernel_rfl)
    (of_decide_eq_true (by kernel_rfl)) (by unfold Func.isWrapper; first | (rw [if_pos (by decide +kernel)]; kernel_rfl) | (rw [if_neg (by decide +kernel)]; exact ⟨rfl, rfl⟩))
    (fun os started H enc _ => lifted os started H enc)
end Go.Proofs.Ytmikhkmdcpgkfaa.Spec3
namespace Go.Proofs.Ytmikhkmdcpgkfaa
/-- The statement. -/
theorem networkSpec_holds : Rows.NetworkSpecSaid := Spec3.over
end Go.Proofs.Ytmikhkmdcpgkfaa
