/- The reference's Add. -/
import Derived.Test.YtdnjpfjiaomlgaaC7
import Derived.IntWalk
namespace Go.Proofs.Ytdnjpfjiaomlgaa
open Go.RowKit
open Go.Lib (hid)

theorem Rd.take {w : World} {a : Option Addr} {xs : List Value} (h : Rd w a xs) (i : Nat) : Rd w a (xs.take i) := by
  rcases h with h | ⟨b, off, ha, hb, hc⟩
  · exact .inl (by rw [h, List.take_nil])
  · exact .inr ⟨b, off, ha, hb, fun j u hu => hc j u (by
      rw [List.getElem?_take] at hu
      split at hu
      · exact hu
      · cases hu)⟩
theorem Rd.drop {w : World} {b off : Nat} {xs : List Value} (h : Rd w (some ⟨b, off, none⟩) xs) (i : Nat) : Rd w (some ⟨b, off + i, none⟩) (xs.drop i) := by
  rcases h with h | ⟨b', off', ha, hb, hc⟩
  · exact .inl (by rw [h, List.drop_nil])
  · cases ha
    exact .inr ⟨b, off + i, rfl, hb, fun j u hu => by rw [Nat.add_assoc]; exact hc _ u (by rw [List.getElem?_drop] at hu; exact hu)⟩
def AL (l : List Rc) (t : Rc) (n : Nat) (V : World) (i : Value) (wr : World) : Prop := ∃ (j : Nat) (z : After V), j ≤ n ∧ i = .int .i64 j ∧ wr = z.w ∧ Hid (∀ x, x < j → RLt (rc l x) t)
set_option maxRecDepth 100000 in
set_option maxHeartbeats 4000000 in
theorem radd_any (l : List Rc) (nn : Nat) (hnn : l.length = nn) (a : Option Addr) (c : Nat) (t : Rc) (hf : a = none → nn = 0 ∧ c = 0) (hnc : nn ≤ c) (w : World) (hn : nn ≤ 9223372036854775807) (hr : Rd w a (l.flatMap Rc.cs)) :
    Calls Try.prog 11 #[.slice a nn c, .agg #[.int .i64 t.d, .int .i64 t.f, .int .i64 t.k, .int .i64 t.i, .int .i64 t.o]] w fun e w' => ∃ v, e = .returned (.tuple #[v, .int .i64 (addE l t)]) ∧ RcIs w' v (addV l t) ∧ Below w.heap.size w w' := by
  have HN := hid hnn; have HR0 := hid hr; have HF := hid hf
  clear hnn hr hf
  obtain ⟨i0, hi, hz0, hz1, hz2⟩ := info_parts info24
  go_enter Try.func11, Try.ntmps11
  go_upto_region 1 with (fail)
  obtain ⟨V, hV⟩ : ∃ V, V = (w.alloc (.cells #[.int .i64 t.d, .int .i64 t.f, .int .i64 t.k, .int .i64 t.i, .int .i64 t.o] 24)) := ⟨_, rfl⟩
  have t0 : ∀ v : After V, v.w.cell? ⟨w.heap.size, 0, none⟩ = some (.int .i64 t.d) := after_cell (by rw [hV]; first | (simp; done) | omega | (simp; omega)) (by rw [hV]; (repeat (first | with_reducible assumption | exact bn (by first | (simp; done) | omega | (simp; omega)) rfl | refine bo (by first | (simp; done) | omega | (simp; omega)) ?_)))
  have ft0 : ∀ v : After V, v.w.frozen? ⟨w.heap.size, 0, none⟩ = false := after_frozen (by rw [hV]; first | (simp; done) | omega | (simp; omega)) (by rw [hV]; (repeat (first | exact fn (by first | (simp; done) | omega | (simp; omega)) | refine fo (by first | (simp; done) | omega | (simp; omega)) ?_)))
  have t1 : ∀ v : After V, v.w.cell? ⟨w.heap.size, 1, none⟩ = some (.int .i64 t.f) := after_cell (by rw [hV]; first | (simp; done) | omega | (simp; omega)) (by rw [hV]; (repeat (first | with_reducible assumption | exact bn (by first | (simp; done) | omega | (simp; omega)) rfl | refine bo (by first | (simp; done) | omega | (simp; omega)) ?_)))
  have ft1 : ∀ v : After V, v.w.frozen? ⟨w.heap.size, 1, none⟩ = false := after_frozen (by rw [hV]; first | (simp; done) | omega | (simp; omega)) (by rw [hV]; (repeat (first | exact fn (by first | (simp; done) | omega | (simp; omega)) | refine fo (by first | (simp; done) | omega | (simp; omega)) ?_)))
  have t2 : ∀ v : After V, v.w.cell? ⟨w.heap.size, 2, none⟩ = some (.int .i64 t.k) := after_cell (by rw [hV]; first | (simp; done) | omega | (simp; omega)) (by rw [hV]; (repeat (first | with_reducible assumption | exact bn (by first | (simp; done) | omega | (simp; omega)) rfl | refine bo (by first | (simp; done) | omega | (simp; omega)) ?_)))
  have ft2 : ∀ v : After V, v.w.frozen? ⟨w.heap.size, 2, none⟩ = false := after_frozen (by rw [hV]; first | (simp; done) | omega | (simp; omega)) (by rw [hV]; (repeat (first | exact fn (by first | (simp; done) | omega | (simp; omega)) | refine fo (by first | (simp; done) | omega | (simp; omega)) ?_)))
  have t3 : ∀ v : After V, v.w.cell? ⟨w.heap.size, 3, none⟩ = some (.int .i64 t.i) := after_cell (by rw [hV]; first | (simp; done) | omega | (simp; omega)) (by rw [hV]; (repeat (first | with_reducible assumption | exact bn (by first | (simp; done) | omega | (simp; omega)) rfl | refine bo (by first | (simp; done) | omega | (simp; omega)) ?_)))
  have ft3 : ∀ v : After V, v.w.frozen? ⟨w.heap.size, 3, none⟩ = false := after_frozen (by rw [hV]; first | (simp; done) | omega | (simp; omega)) (by rw [hV]; (repeat (first | exact fn (by first | (simp; done) | omega | (simp; omega)) | refine fo (by first | (simp; done) | omega | (simp; omega)) ?_)))
  have t4 : ∀ v : After V, v.w.cell? ⟨w.heap.size, 4, none⟩ = some (.int .i64 t.o) := after_cell (by rw [hV]; first | (simp; done) | omega | (simp; omega)) (by rw [hV]; (repeat (first | with_reducible assumption | exact bn (by first | (simp; done) | omega | (simp; omega)) rfl | refine bo (by first | (simp; done) | omega | (simp; omega)) ?_)))
  have ft4 : ∀ v : After V, v.w.frozen? ⟨w.heap.size, 4, none⟩ = false := after_frozen (by rw [hV]; first | (simp; done) | omega | (simp; omega)) (by rw [hV]; (repeat (first | exact fn (by first | (simp; done) | omega | (simp; omega)) | refine fo (by first | (simp; done) | omega | (simp; omega)) ?_)))
  have zt : ∀ v : After V, w.heap.size < v.w.heap.size := after_size (by rw [hV]; first | (simp; done) | omega | (simp; omega))
  have hwV : Below w.heap.size w V := by rw [hV]; exact (by repeat (first | exact Below.refl _ _ | assumption | refine b_then ?_ (by assumption) | refine b_alloc ?_ _ | refine b_drewN ?_ _ | refine b_drew ?_ | refine b_set ?_ (by omega) _ | refine b_set ?_ (by simp) _))
  have WV := hid (after_below hwV)
  rw [← hV]
  obtain ⟨u0, hu⟩ : ∃ u : After V, u.w = V := ⟨After.here V, rfl⟩
  rw [← hu]
  clear hu hV
  have RV := hid (fun v : After V => HR0.out.below (WV.out v))
  go_wp2_with fail
  refine (met (rcheck_any l nn HN.out a c u0.w hn (RV.out u0))).mono ?_
  rintro e _ ⟨rfl, u1, rfl⟩
  by_cases hk : chkR l = 0
  case neg =>
    have HE := hid (show addE l t = chkR l from if_pos hk)
    have hne : (chkR l != 0) = true := by simpa using hk
    obtain ⟨E, hE⟩ : ∃ E, chkR l = E := ⟨_, rfl⟩
    rw [hE] at hne HE ⊢
    have HKE := hid (show ¬ E = 0 by rw [← hE]; exact hk)
    clear hk hE
    go_wp2_with fail
    exact bodyPost_ret (v := .tuple #[.slice none 0 0, .int .i64 E]) (by simp [results, Try.results11, go_sem]) rfl ⟨_, by rw [HE.out], by rw [addV, if_neg (by rw [HE.out]; first | decide | exact HKE.out)]; exact RcIs.nil _, WV.out u1⟩
  obtain ⟨h256, hg⟩ := chkR_good hk
  rw [HN.out] at h256
  rw [hk]
  have HK := hid hk; have HG := hid hg
  clear hk hg
  go_wp2_with fail
  refine (met (rvalid_any t.d t.f t.k t.i t.o u1.w)).mono ?_
  rintro e _ ⟨rfl, u7, rfl⟩
  have hv0 : rcOk ⟨t.d, t.f, t.k, t.i, t.o⟩ = rcOk t := rfl
  rw [hv0]
  clear hv0
  rcases hv : rcOk t with _ | _
  · have HE := hid (show addE l t = 420 by unfold addE; rw [if_neg (fun h => h HK.out), if_pos hv])
    clear hv
    go_wp2_with fail
    exact bodyPost_ret (v := .tuple #[.slice none 0 0, .int .i64 420]) (by simp [results, Try.results11, go_sem]) rfl ⟨_, by rw [HE.out], by rw [addV, if_neg (by rw [HE.out]; first | decide | exact HKE.out)]; exact RcIs.nil _, WV.out u7⟩
  have HVT := hid hv; clear hv
  go_wp2_with fail
  go_loopw [7] (fun i wr => AL l t nn V i wr) (fun i _ => nn - (intOf i).toNat)
  case atStart => exact ⟨0, u7, by omega, rfl, rfl, hid (fun i hi => absurd hi (by omega))⟩
  case round =>
    obtain ⟨j, z, hj, rfl, rfl, hp⟩ := hrel
    by_cases hlt' : j < nn
    case pos =>
      have hlt : j < l.length := by rw [HN.out]; exact hlt'
      have d1 : decide ((j : Int) < (nn : Int)) = true := decide_eq_true (by omega)
      have d1' : decide (j < nn) = true := decide_eq_true (by omega)
      have hjj : (j : Int) < (nn : Int) := by omega
      obtain ⟨blk, off, rfl, hbl⟩ := HR0.out.addr (by rw [flat_len Rc.cs 5 Rc.c5, HN.out]; omega)
      obtain ⟨⟨xd, xf, xk, xi, xo⟩, hx⟩ : ∃ t, rc l j = t := ⟨_, rfl⟩
      have x0 : ∀ v : After V, v.w.cell? ⟨blk, off + j * 5, none⟩ = some (.int .i64 xd) := rc_cell RV.out (j := j) (hlt) 0 (by decide) (by rw [hx]; rfl) rfl
      have x1 : ∀ v : After V, v.w.cell? ⟨blk, off + j * 5 + 1, none⟩ = some (.int .i64 xf) := rc_cell RV.out (j := j) (hlt) 1 (by decide) (by rw [hx]; rfl) (by omega)
      have x2 : ∀ v : After V, v.w.cell? ⟨blk, off + j * 5 + 2, none⟩ = some (.int .i64 xk) := rc_cell RV.out (j := j) (hlt) 2 (by decide) (by rw [hx]; rfl) (by omega)
      have x3 : ∀ v : After V, v.w.cell? ⟨blk, off + j * 5 + 3, none⟩ = some (.int .i64 xi) := rc_cell RV.out (j := j) (hlt) 3 (by decide) (by rw [hx]; rfl) (by omega)
      have x4 : ∀ v : After V, v.w.cell? ⟨blk, off + j * 5 + 4, none⟩ = some (.int .i64 xo) := rc_cell RV.out (j := j) (hlt) 4 (by decide) (by rw [hx]; rfl) (by omega)
      have Hx := hid hx; clear hx
      rcases g1 : decide (RLt ⟨xd, xf, xk, xi, xo⟩ t) with _ | _
      · have k25 : ∀ y : After V, Calls Try.prog 25 #[.agg #[.int .i64 xd, .int .i64 xf, .int .i64 xk, .int .i64 xi, .int .i64 xo], .agg #[.int .i64 t.d, .int .i64 t.f, .int .i64 t.k, .int .i64 t.i, .int .i64 t.o]] y.w fun e w'' => e = .returned (.bool false) ∧ ∃ u : After V, w'' = u.w := fun y => g1 ▸ met (less_any xd xf xk xi xo t.d t.f t.k t.i t.o y.w)
        have HC := hid (cntR_is (l := l) (r := t) (n := j) (by rw [HN.out]; omega) hp.out (fun _ => by rw [Hx.out]; simpa using g1))
        clear g1
        go_wp2_with fail
        refine wp_region_since (by kernel_rfl) (by kernel_rfl) ?_
        repeat (go_big_quiet_step ((go_at_call 25; exact k25 _)))
        refine wpQuiet_nil ?_
        intro u9
        go_wp2_with fail
        clear k25
        rcases g2 : decide (RLt t ⟨xd, xf, xk, xi, xo⟩) with _ | _
        · have k25 : ∀ y : After V, Calls Try.prog 25 #[.agg #[.int .i64 t.d, .int .i64 t.f, .int .i64 t.k, .int .i64 t.i, .int .i64 t.o], .agg #[.int .i64 xd, .int .i64 xf, .int .i64 xk, .int .i64 xi, .int .i64 xo]] y.w fun e w'' => e = .returned (.bool false) ∧ ∃ u : After V, w'' = u.w := fun y => g2 ▸ met (less_any t.d t.f t.k t.i t.o xd xf xk xi xo y.w)
          have HD := hid (show dupR l t = true by
            unfold dupR
            rw [HC.out, decide_eq_true hlt, Bool.true_and, decide_eq_true]
            have h1 := (cntR_spec l t).2.2 (by rw [HC.out]; exact hlt)
            rw [HC.out, Hx.out] at h1
            have h2 : ¬ RLt t ⟨xd, xf, xk, xi, xo⟩ := by simpa using g2
            rw [Hx.out, cmpR_eq]
            unfold RLt at h1 h2
            omega)
          have HE := hid (show addE l t = 420 by unfold addE; rw [if_neg (fun h => h HK.out), if_neg (by rw [HVT.out]; decide), if_pos HD.out])
          clear g2
          refine wp_region_since (by kernel_rfl) (by kernel_rfl) ?_
          repeat (go_big_quiet_step ((go_at_call 25; exact k25 _)))
          refine wpQuiet_nil ?_
          intro u8
          go_wp2_with fail
          exact bodyPost_ret (v := .tuple #[.slice none 0 0, .int .i64 420]) (by simp [results, Try.results11, go_sem]) rfl ⟨_, by rw [HE.out], by rw [addV, if_neg (by rw [HE.out]; first | decide | exact HKE.out)]; exact RcIs.nil _, WV.out u8⟩
        · have k25 : ∀ y : After V, Calls Try.prog 25 #[.agg #[.int .i64 t.d, .int .i64 t.f, .int .i64 t.k, .int .i64 t.i, .int .i64 t.o], .agg #[.int .i64 xd, .int .i64 xf, .int .i64 xk, .int .i64 xi, .int .i64 xo]] y.w fun e w'' => e = .returned (.bool true) ∧ ∃ u : After V, w'' = u.w := fun y => g2 ▸ met (less_any t.d t.f t.k t.i t.o xd xf xk xi xo y.w)
          have HD := hid (show dupR l t = false by
            unfold dupR
            rw [HC.out, decide_eq_true hlt, Bool.true_and, decide_eq_false]
            have h2 : RLt t ⟨xd, xf, xk, xi, xo⟩ := by simpa using g2
            rw [Hx.out, cmpR_eq]
            unfold RLt at h2
            omega)
          clear g2
          refine wp_region_since (by kernel_rfl) (by kernel_rfl) ?_
          repeat (go_big_quiet_step ((go_at_call 25; exact k25 _)))
          refine wpQuiet_nil ?_
          intro u2
          clear k25 x0 x1 x2 x3 x4
          obtain ⟨b, hb⟩ : ∃ b, j = b := ⟨_, rfl⟩
          subst hb
          have HB := hid (show addL l t = l.take j ++ t :: l.drop j by unfold addL; rw [HC.out])
          have hbn : j ≤ nn := by omega
          by_cases h6 : nn = 256
          · have HE := hid (show addE l t = 2 by unfold addE; rw [if_neg (fun h => h HK.out), if_neg (by rw [HVT.out]; decide), if_neg (by rw [HD.out]; decide), if_pos (by rw [HN.out]; exact h6)])
            have d5 : ((nn : Int) == 256) = true := by simp; omega
            have d5' : (nn == 256) = true := by simpa using h6
            go_wp2_with fail
            exact bodyPost_ret (v := .tuple #[.slice none 0 0, .int .i64 2]) (by simp [results, Try.results11, go_sem]) rfl ⟨_, by rw [HE.out], by rw [addV, if_neg (by rw [HE.out]; first | decide | exact HKE.out)]; exact RcIs.nil _, WV.out u2⟩
          have HE := hid (show addE l t = 0 by unfold addE; rw [if_neg (fun h => h HK.out), if_neg (by rw [HVT.out]; decide), if_neg (by rw [HD.out]; decide), if_neg (by rw [HN.out]; exact h6)])
          have d5 : ((nn : Int) == 256) = false := beq_eq_false_iff_ne.2 (by omega)
          have d5' : (nn == 256) = false := beq_eq_false_iff_ne.2 h6
          have b1 : (j : Int) ≤ (nn : Int) := by omega
          have b2 : (j : Int) ≤ (c : Int) := by omega
          have b3 : j ≤ c := by omega
          have b4 : (nn : Int) ≤ (c : Int) := by omega
          go_upto_region 13 with (fail)
          have hcb : ¬ c = j := by omega
          refine whole_region 9 rfl (by kernel_rfl) ?_
          intro u2
          refine h_take 1 (x := ?_) rfl (by kernel_rfl) (by kernel_rfl) (by kernel_rfl) (fun _ _ _ h => h) (by rfl) (fun v => ?_) ?_
          rotate_left
          · (go_simp; try with_reducible rfl)
          try simp only [Act.put, List.setIfInBounds_toArray, List.set_cons_zero, List.set_cons_succ]
          refine h_take 2 (x := ?_) rfl (by kernel_rfl) (by kernel_rfl) (by kernel_rfl) (fun _ _ _ h => h) (by rfl) (fun v => ?_) ?_
          rotate_left
          · (go_simp; try with_reducible rfl)
          try simp only [Act.put, List.setIfInBounds_toArray, List.set_cons_zero, List.set_cons_succ]
          refine h_take 3 (x := ?_) rfl (by kernel_rfl) (by kernel_rfl) (by kernel_rfl) (fun _ _ _ h => h) (by rfl) (fun v => ?_) ?_
          rotate_left
          · (go_simp; try with_reducible rfl)
          try simp only [Act.put, List.setIfInBounds_toArray, List.set_cons_zero, List.set_cons_succ]
          refine h_take 5 (x := ?_) rfl (by kernel_rfl) (by kernel_rfl) (by kernel_rfl) (fun _ _ _ h => h) (by rfl) (fun v => ?_) ?_
          rotate_left
          · (go_simp; try with_reducible rfl)
          try simp only [Act.put, List.setIfInBounds_toArray, List.set_cons_zero, List.set_cons_succ]
          refine h_two 0 6 (by kernel_rfl) rfl rfl (fun K hK => ?_) (fun K hK => ?_)
          · go_simp
            obtain ⟨v1, hv1⟩ : ∃ y9 : After V, y9.w = u2.w.alloc (.cells #[] 24) := ⟨u2.on (b_alloc (Below.refl _ _) _), rfl⟩
            rw [← hv1]
            have hown1 : v1.w.ownsRow u2.w.heap.size 24 5 (.slice (some ⟨u2.w.heap.size, 0, none⟩) 0 0) 0 [] := by rw [hv1]; exact World.ownsRow_made u2.w #[] 0 (Nat.le_refl _) (by unfold maxLen; omega) (by simp)
            have sz1 : u2.w.heap.size ≤ v1.w.heap.size := by rw [hv1]; simp
            clear hv1
            refine hK _ v1 ?_
            clear hK K
            try simp only [Act.put, List.setIfInBounds_toArray, List.set_cons_zero, List.set_cons_succ]
            refine h_two 4 6 (by kernel_rfl) rfl rfl (fun K hK => ?_) (fun K hK => ?_)
            · refine step_append_rd _ rfl (.tmp 47) (.tmp 50) 22 rfl u2.w.heap.size 24 i0 (.agg #[.int .i64 0, .int .i64 0, .int .i64 0, .int .i64 0, .int .i64 0]) 5 40 und22 hi hz0 hz1 hz2 rfl (by decide) _ _ _ (by rfl) hown1 _ j _ ((l.take j).flatMap Rc.cs) (by rfl) (by rw [flat_len Rc.cs 5 Rc.c5, List.length_take, HN.out]; try omega) ((RV.out v1).take (j * 5) |> fun h => by rw [flat_takek Rc.cs 5 Rc.c5] at h; exact h) (Rc.ones _) (by unfold maxLen; omega) (by omega) sz1 ?_
              intro x2 w' hown2 hgrow
              obtain ⟨v2, rfl, sz2⟩ := After.app u2 v1 hown1 hgrow sz1
              clear hgrow
              refine hK _ v2 ?_
              clear hK K
              try simp only [Act.put, List.setIfInBounds_toArray, List.set_cons_zero, List.set_cons_succ]
              refine h_step 6 (by kernel_rfl) rfl (fun K hK => ?_)
              go_simp
              obtain ⟨v3, hv1⟩ : ∃ y9 : After V, y9.w = v2.w.alloc (.cells #[.int .i64 t.d, .int .i64 t.f, .int .i64 t.k, .int .i64 t.i, .int .i64 t.o] 24) := ⟨v2.on (b_alloc (Below.refl _ _) _), rfl⟩
              rw [← hv1]
              have hgx3 : Rd v3.w (some ⟨v2.w.heap.size, 0, none⟩) (Rc.cs t) := by rw [hv1]; exact rd_new _ _ _ rfl
              have hgl3 : v2.w.heap.size < v3.w.heap.size := by rw [hv1]; simp
              have sz3 : u2.w.heap.size ≤ v3.w.heap.size := by rw [hv1]; simpa using Nat.le_succ_of_le sz2
              have hown3 := own_eq (own_after hown2 (b_alloc (Below.refl _ _) _)) hv1
              have hne3 := own_far hown2 (v2.w.heap.size) (Nat.le_refl _)
              clear hv1
              refine hK _ v3 ?_
              clear hK K
              try simp only [Act.put, List.setIfInBounds_toArray, List.set_cons_zero, List.set_cons_succ]
              refine h_step 7 (by kernel_rfl) rfl (fun K hK => ?_)
              refine step_append_rd _ rfl (.tmp 51) (.tmp 53) 22 rfl u2.w.heap.size 24 i0 (.agg #[.int .i64 0, .int .i64 0, .int .i64 0, .int .i64 0, .int .i64 0]) 5 40 und22 hi hz0 hz1 hz2 rfl (by decide) _ _ _ (by rfl) hown3 (some ⟨v2.w.heap.size, 0, none⟩) 1 _ (Rc.cs t) (by rfl) rfl hgx3 t.one (by unfold maxLen; omega) (by omega) sz3 ?_
              intro x4 w' hown4 hgrow
              obtain ⟨v4, rfl, sz4⟩ := After.app u2 v3 hown3 hgrow sz3
              clear hgrow
              refine hK _ v4 ?_
              clear hK K
              try simp only [Act.put, List.setIfInBounds_toArray, List.set_cons_zero, List.set_cons_succ]
              refine h_take 8 (x := ?_) rfl (by kernel_rfl) (by kernel_rfl) (by kernel_rfl) (fun _ _ _ h => h) (by rfl) (fun v => ?_) ?_
              rotate_left
              · (go_simp; try with_reducible rfl)
              try simp only [Act.put, List.setIfInBounds_toArray, List.set_cons_zero, List.set_cons_succ]
              refine wpAnyH_done (by kernel_rfl) ?_ _
              refine NoPanic.normal ?_
              have hwB : w.heap.size ≤ u2.w.heap.size := (WV.out u2).size
              go_wp2_with (at_builtin; refine wpList_append_rd _ rfl (.tmp 55) (.tmp 58) 22 rfl u2.w.heap.size 24 i0 (.agg #[.int .i64 0, .int .i64 0, .int .i64 0, .int .i64 0, .int .i64 0]) 5 40 und22 hi hz0 hz1 hz2 rfl (by decide) _ _ _ (by rfl) hown4 _ (nn - j) _ ((l.drop j).flatMap Rc.cs) (by rfl) (by rw [flat_len Rc.cs 5 Rc.c5, List.length_drop, HN.out]; try omega) ((RV.out v4).drop (j * 5) |> fun h => by rw [flat_dropk Rc.cs 5 Rc.c5] at h; exact h) (Rc.ones _) (by unfold maxLen; omega) (by omega) sz4 ?_; intro v8 w8 ho8 hgrow)
              have hB8 := own_below hown4 hgrow sz4
              have HWB := hid (Below.trans (WV.out v4) (hB8.mono hwB))
              obtain ⟨xa, xc, rfl, hxc, hxn, hxR, -⟩ := own_slice ho8
              have hxl : (addL l t).length = 0 + j + 1 + (nn - j) := by rw [addL_len, HN.out]; try omega
              have hxR2 : Rd w8 xa ((addL l t).flatMap Rc.cs) := by rw [HB.out, List.flatMap_append, List.flatMap_cons]; simpa using hxR
              obtain ⟨L, hL⟩ : ∃ L, 0 + j + 1 + (nn - j) = L := ⟨_, rfl⟩
              rw [hL] at hxl hxc hxn
              try rw [hL]
              have hsl := hid (show RcIs w8 (.slice xa L xc) (addL l t) from ⟨xa, xc, by rw [hxl], hxR2, by rw [hxl]; exact hxc, by rw [hxl]; exact hxn⟩)
              clear hxR hxR2 hxn hxc hxl hL ho8 hgrow hB8
              exact bodyPost_ret (v := .tuple #[.slice xa L xc, .int .i64 0]) (by simp [results, Try.results11, go_sem]) rfl ⟨_, by rw [HE.out], by rw [addV, if_pos HE.out]; exact hsl.out, HWB.out⟩
    
            · go_simp
              obtain ⟨v2, hv1⟩ : ∃ y9 : After V, y9.w = v1.w.alloc (.cells #[.int .i64 t.d, .int .i64 t.f, .int .i64 t.k, .int .i64 t.i, .int .i64 t.o] 24) := ⟨v1.on (b_alloc (Below.refl _ _) _), rfl⟩
              rw [← hv1]
              have hgx2 : Rd v2.w (some ⟨v1.w.heap.size, 0, none⟩) (Rc.cs t) := by rw [hv1]; exact rd_new _ _ _ rfl
              have hgl2 : v1.w.heap.size < v2.w.heap.size := by rw [hv1]; simp
              have sz2 : u2.w.heap.size ≤ v2.w.heap.size := by rw [hv1]; simpa using Nat.le_succ_of_le sz1
              have hown2 := own_eq (own_after hown1 (b_alloc (Below.refl _ _) _)) hv1
              have hne2 := own_far hown1 (v1.w.heap.size) (Nat.le_refl _)
              clear hv1
              refine hK _ v2 ?_
              clear hK K
              try simp only [Act.put, List.setIfInBounds_toArray, List.set_cons_zero, List.set_cons_succ]
              refine h_step 4 (by kernel_rfl) rfl (fun K hK => ?_)
              refine step_append_rd _ rfl (.tmp 47) (.tmp 50) 22 rfl u2.w.heap.size 24 i0 (.agg #[.int .i64 0, .int .i64 0, .int .i64 0, .int .i64 0, .int .i64 0]) 5 40 und22 hi hz0 hz1 hz2 rfl (by decide) _ _ _ (by rfl) hown2 _ j _ ((l.take j).flatMap Rc.cs) (by rfl) (by rw [flat_len Rc.cs 5 Rc.c5, List.length_take, HN.out]; try omega) ((RV.out v2).take (j * 5) |> fun h => by rw [flat_takek Rc.cs 5 Rc.c5] at h; exact h) (Rc.ones _) (by unfold maxLen; omega) (by omega) sz2 ?_
              intro x3 w' hown3 hgrow
              have hgx3 := rd_grown hgx2 hgrow hne2
              have hgl3 := Nat.lt_of_lt_of_le hgl2 hgrow.size
              obtain ⟨v3, rfl, sz3⟩ := After.app u2 v2 hown2 hgrow sz2
              clear hgrow
              refine hK _ v3 ?_
              clear hK K
              try simp only [Act.put, List.setIfInBounds_toArray, List.set_cons_zero, List.set_cons_succ]
              refine h_step 7 (by kernel_rfl) rfl (fun K hK => ?_)
              refine step_append_rd _ rfl (.tmp 51) (.tmp 53) 22 rfl u2.w.heap.size 24 i0 (.agg #[.int .i64 0, .int .i64 0, .int .i64 0, .int .i64 0, .int .i64 0]) 5 40 und22 hi hz0 hz1 hz2 rfl (by decide) _ _ _ (by rfl) hown3 (some ⟨v1.w.heap.size, 0, none⟩) 1 _ (Rc.cs t) (by rfl) rfl hgx3 t.one (by unfold maxLen; omega) (by omega) sz3 ?_
              intro x4 w' hown4 hgrow
              obtain ⟨v4, rfl, sz4⟩ := After.app u2 v3 hown3 hgrow sz3
              clear hgrow
              refine hK _ v4 ?_
              clear hK K
              try simp only [Act.put, List.setIfInBounds_toArray, List.set_cons_zero, List.set_cons_succ]
              refine h_take 8 (x := ?_) rfl (by kernel_rfl) (by kernel_rfl) (by kernel_rfl) (fun _ _ _ h => h) (by rfl) (fun v => ?_) ?_
              rotate_left
              · (go_simp; try with_reducible rfl)
              try simp only [Act.put, List.setIfInBounds_toArray, List.set_cons_zero, List.set_cons_succ]
              refine wpAnyH_done (by kernel_rfl) ?_ _
              refine NoPanic.normal ?_
              have hwB : w.heap.size ≤ u2.w.heap.size := (WV.out u2).size
              go_wp2_with (at_builtin; refine wpList_append_rd _ rfl (.tmp 55) (.tmp 58) 22 rfl u2.w.heap.size 24 i0 (.agg #[.int .i64 0, .int .i64 0, .int .i64 0, .int .i64 0, .int .i64 0]) 5 40 und22 hi hz0 hz1 hz2 rfl (by decide) _ _ _ (by rfl) hown4 _ (nn - j) _ ((l.drop j).flatMap Rc.cs) (by rfl) (by rw [flat_len Rc.cs 5 Rc.c5, List.length_drop, HN.out]; try omega) ((RV.out v4).drop (j * 5) |> fun h => by rw [flat_dropk Rc.cs 5 Rc.c5] at h; exact h) (Rc.ones _) (by unfold maxLen; omega) (by omega) sz4 ?_; intro v8 w8 ho8 hgrow)
              have hB8 := own_below hown4 hgrow sz4
              have HWB := hid (Below.trans (WV.out v4) (hB8.mono hwB))
              obtain ⟨xa, xc, rfl, hxc, hxn, hxR, -⟩ := own_slice ho8
              have hxl : (addL l t).length = 0 + j + 1 + (nn - j) := by rw [addL_len, HN.out]; try omega
              have hxR2 : Rd w8 xa ((addL l t).flatMap Rc.cs) := by rw [HB.out, List.flatMap_append, List.flatMap_cons]; simpa using hxR
              obtain ⟨L, hL⟩ : ∃ L, 0 + j + 1 + (nn - j) = L := ⟨_, rfl⟩
              rw [hL] at hxl hxc hxn
              try rw [hL]
              have hsl := hid (show RcIs w8 (.slice xa L xc) (addL l t) from ⟨xa, xc, by rw [hxl], hxR2, by rw [hxl]; exact hxc, by rw [hxl]; exact hxn⟩)
              clear hxR hxR2 hxn hxc hxl hL ho8 hgrow hB8
              exact bodyPost_ret (v := .tuple #[.slice xa L xc, .int .i64 0]) (by simp [results, Try.results11, go_sem]) rfl ⟨_, by rw [HE.out], by rw [addV, if_pos HE.out]; exact hsl.out, HWB.out⟩
    
          · go_simp
            obtain ⟨v1, hv1⟩ : ∃ y9 : After V, y9.w = u2.w.alloc (.cells #[.int .i64 t.d, .int .i64 t.f, .int .i64 t.k, .int .i64 t.i, .int .i64 t.o] 24) := ⟨u2.on (b_alloc (Below.refl _ _) _), rfl⟩
            rw [← hv1]
            have hgx1 : Rd v1.w (some ⟨u2.w.heap.size, 0, none⟩) (Rc.cs t) := by rw [hv1]; exact rd_new _ _ _ rfl
            have hgl1 : u2.w.heap.size < v1.w.heap.size := by rw [hv1]; simp
            have sz1 : u2.w.heap.size ≤ v1.w.heap.size := by rw [hv1]; simp
            clear hv1
            refine hK _ v1 ?_
            clear hK K
            try simp only [Act.put, List.setIfInBounds_toArray, List.set_cons_zero, List.set_cons_succ]
            refine h_step 0 (by kernel_rfl) rfl (fun K hK => ?_)
            go_simp
            obtain ⟨v2, hv1⟩ : ∃ y9 : After V, y9.w = v1.w.alloc (.cells #[] 24) := ⟨v1.on (b_alloc (Below.refl _ _) _), rfl⟩
            rw [← hv1]
            have hown2 : v2.w.ownsRow u2.w.heap.size 24 5 (.slice (some ⟨v1.w.heap.size, 0, none⟩) 0 0) 0 [] := by rw [hv1]; exact World.ownsRow_made v1.w #[] 0 sz1 (by unfold maxLen; omega) (by simp)
            have sz2 : u2.w.heap.size ≤ v2.w.heap.size := by rw [hv1]; simpa using Nat.le_succ_of_le sz1
            have hgx2 : Rd v2.w (some ⟨u2.w.heap.size, 0, none⟩) (Rc.cs t) := by rw [hv1]; exact hgx1.alloc _
            have hne2 : ∀ g off, (some ⟨u2.w.heap.size, 0, none⟩ : Option Addr) = some ⟨g, off, none⟩ → (Value.slice (some ⟨v1.w.heap.size, 0, none⟩) 0 0).ownBlock ≠ some g := fun g off h => by have := hgl1; simp only [Option.some.injEq, Addr.mk.injEq] at h; simp only [Value.ownBlock, ne_eq, Option.some.injEq]; omega
            have hgl2 : u2.w.heap.size < v2.w.heap.size := Nat.lt_of_lt_of_le hgl1 (by rw [hv1]; simp)
            clear hv1
            refine hK _ v2 ?_
            clear hK K
            try simp only [Act.put, List.setIfInBounds_toArray, List.set_cons_zero, List.set_cons_succ]
            refine h_step 4 (by kernel_rfl) rfl (fun K hK => ?_)
            refine step_append_rd _ rfl (.tmp 47) (.tmp 50) 22 rfl u2.w.heap.size 24 i0 (.agg #[.int .i64 0, .int .i64 0, .int .i64 0, .int .i64 0, .int .i64 0]) 5 40 und22 hi hz0 hz1 hz2 rfl (by decide) _ _ _ (by rfl) hown2 _ j _ ((l.take j).flatMap Rc.cs) (by rfl) (by rw [flat_len Rc.cs 5 Rc.c5, List.length_take, HN.out]; try omega) ((RV.out v2).take (j * 5) |> fun h => by rw [flat_takek Rc.cs 5 Rc.c5] at h; exact h) (Rc.ones _) (by unfold maxLen; omega) (by omega) sz2 ?_
            intro x3 w' hown3 hgrow
            have hgx3 := rd_grown hgx2 hgrow hne2
            have hgl3 := Nat.lt_of_lt_of_le hgl2 hgrow.size
            obtain ⟨v3, rfl, sz3⟩ := After.app u2 v2 hown2 hgrow sz2
            clear hgrow
            refine hK _ v3 ?_
            clear hK K
            try simp only [Act.put, List.setIfInBounds_toArray, List.set_cons_zero, List.set_cons_succ]
            refine h_step 7 (by kernel_rfl) rfl (fun K hK => ?_)
            refine step_append_rd _ rfl (.tmp 51) (.tmp 53) 22 rfl u2.w.heap.size 24 i0 (.agg #[.int .i64 0, .int .i64 0, .int .i64 0, .int .i64 0, .int .i64 0]) 5 40 und22 hi hz0 hz1 hz2 rfl (by decide) _ _ _ (by rfl) hown3 (some ⟨u2.w.heap.size, 0, none⟩) 1 _ (Rc.cs t) (by rfl) rfl hgx3 t.one (by unfold maxLen; omega) (by omega) sz3 ?_
            intro x4 w' hown4 hgrow
            obtain ⟨v4, rfl, sz4⟩ := After.app u2 v3 hown3 hgrow sz3
            clear hgrow
            refine hK _ v4 ?_
            clear hK K
            try simp only [Act.put, List.setIfInBounds_toArray, List.set_cons_zero, List.set_cons_succ]
            refine h_take 8 (x := ?_) rfl (by kernel_rfl) (by kernel_rfl) (by kernel_rfl) (fun _ _ _ h => h) (by rfl) (fun v => ?_) ?_
            rotate_left
            · (go_simp; try with_reducible rfl)
            try simp only [Act.put, List.setIfInBounds_toArray, List.set_cons_zero, List.set_cons_succ]
            refine wpAnyH_done (by kernel_rfl) ?_ _
            refine NoPanic.normal ?_
            have hwB : w.heap.size ≤ u2.w.heap.size := (WV.out u2).size
            go_wp2_with (at_builtin; refine wpList_append_rd _ rfl (.tmp 55) (.tmp 58) 22 rfl u2.w.heap.size 24 i0 (.agg #[.int .i64 0, .int .i64 0, .int .i64 0, .int .i64 0, .int .i64 0]) 5 40 und22 hi hz0 hz1 hz2 rfl (by decide) _ _ _ (by rfl) hown4 _ (nn - j) _ ((l.drop j).flatMap Rc.cs) (by rfl) (by rw [flat_len Rc.cs 5 Rc.c5, List.length_drop, HN.out]; try omega) ((RV.out v4).drop (j * 5) |> fun h => by rw [flat_dropk Rc.cs 5 Rc.c5] at h; exact h) (Rc.ones _) (by unfold maxLen; omega) (by omega) sz4 ?_; intro v8 w8 ho8 hgrow)
            have hB8 := own_below hown4 hgrow sz4
            have HWB := hid (Below.trans (WV.out v4) (hB8.mono hwB))
            obtain ⟨xa, xc, rfl, hxc, hxn, hxR, -⟩ := own_slice ho8
            have hxl : (addL l t).length = 0 + j + 1 + (nn - j) := by rw [addL_len, HN.out]; try omega
            have hxR2 : Rd w8 xa ((addL l t).flatMap Rc.cs) := by rw [HB.out, List.flatMap_append, List.flatMap_cons]; simpa using hxR
            obtain ⟨L, hL⟩ : ∃ L, 0 + j + 1 + (nn - j) = L := ⟨_, rfl⟩
            rw [hL] at hxl hxc hxn
            try rw [hL]
            have hsl := hid (show RcIs w8 (.slice xa L xc) (addL l t) from ⟨xa, xc, by rw [hxl], hxR2, by rw [hxl]; exact hxc, by rw [hxl]; exact hxn⟩)
            clear hxR hxR2 hxn hxc hxl hL ho8 hgrow hB8
            exact bodyPost_ret (v := .tuple #[.slice xa L xc, .int .i64 0]) (by simp [results, Try.results11, go_sem]) rfl ⟨_, by rw [HE.out], by rw [addV, if_pos HE.out]; exact hsl.out, HWB.out⟩
  
      · have k25 : ∀ y : After V, Calls Try.prog 25 #[.agg #[.int .i64 xd, .int .i64 xf, .int .i64 xk, .int .i64 xi, .int .i64 xo], .agg #[.int .i64 t.d, .int .i64 t.f, .int .i64 t.k, .int .i64 t.i, .int .i64 t.o]] y.w fun e w'' => e = .returned (.bool true) ∧ ∃ u : After V, w'' = u.w := fun y => g1 ▸ met (less_any xd xf xk xi xo t.d t.f t.k t.i t.o y.w)
        have HX := hid (show RLt (rc l j) t by rw [Hx.out]; simpa using g1)
        clear g1
        go_wp2_with fail
        refine wp_region_since (by kernel_rfl) (by kernel_rfl) ?_
        repeat (go_big_quiet_step ((go_at_call 25; exact k25 _)))
        refine wpQuiet_nil ?_
        intro u9
        go_wp2_with fail
        clear k25
        go_roundw
        case rel => exact ⟨j + 1, u9, by omega, by go_num, rfl, hid (fun x hx => by
          by_cases he : x = j
          · rw [he]; exact HX.out
          · exact hp.out x (by omega))⟩
        case measure => first | (simp [intOf]; done) | (simp [intOf]; omega)
    have d1 : decide ((j : Int) < (nn : Int)) = false := decide_eq_false (by omega)
    have d1' : decide (j < nn) = false := decide_eq_false (by omega)
    have hjn : j = nn := by omega
    have HC := hid (cntR_is (l := l) (r := t) (n := j) (by rw [HN.out]; omega) hp.out (fun h => absurd h (by rw [HN.out]; omega)))
    have HD := hid (show dupR l t = false by unfold dupR; rw [HC.out, decide_eq_false (by rw [HN.out]; omega), Bool.false_and])
    have HB := hid (show addL l t = l.take j ++ t :: l.drop j by unfold addL; rw [HC.out])
    clear hjn
    go_wp2_with fail
    refine wp_region_since (by kernel_rfl) (by kernel_rfl) ?_
    repeat (go_big_quiet_step (fail))
    refine wpQuiet_nil ?_
    intro u9
    go_wp2_with fail
    refine wp_region_since (by kernel_rfl) (by kernel_rfl) ?_
    repeat (go_big_quiet_step (fail))
    refine wpQuiet_nil ?_
    intro u2
    skip
    have hbn : j ≤ nn := by omega
    by_cases h6 : nn = 256
    · have HE := hid (show addE l t = 2 by unfold addE; rw [if_neg (fun h => h HK.out), if_neg (by rw [HVT.out]; decide), if_neg (by rw [HD.out]; decide), if_pos (by rw [HN.out]; exact h6)])
      have d5 : ((nn : Int) == 256) = true := by simp; omega
      have d5' : (nn == 256) = true := by simpa using h6
      go_wp2_with fail
      exact bodyPost_ret (v := .tuple #[.slice none 0 0, .int .i64 2]) (by simp [results, Try.results11, go_sem]) rfl ⟨_, by rw [HE.out], by rw [addV, if_neg (by rw [HE.out]; first | decide | exact HKE.out)]; exact RcIs.nil _, WV.out u2⟩
    have HE := hid (show addE l t = 0 by unfold addE; rw [if_neg (fun h => h HK.out), if_neg (by rw [HVT.out]; decide), if_neg (by rw [HD.out]; decide), if_neg (by rw [HN.out]; exact h6)])
    have d5 : ((nn : Int) == 256) = false := beq_eq_false_iff_ne.2 (by omega)
    have d5' : (nn == 256) = false := beq_eq_false_iff_ne.2 h6
    have b1 : (j : Int) ≤ (nn : Int) := by omega
    have b2 : (j : Int) ≤ (c : Int) := by omega
    have b3 : j ≤ c := by omega
    have b4 : (nn : Int) ≤ (c : Int) := by omega
    go_upto_region 13 with (fail)
    rcases Nat.eq_zero_or_pos nn with rfl | hpos
    · obtain rfl : j = 0 := by omega
      have HM := hid (List.eq_nil_of_length_eq_zero HN.out)
      cases a with
      | none =>
        obtain ⟨-, rfl⟩ := HF.out rfl
        refine whole_region 9 rfl (by kernel_rfl) ?_
        intro u2
        refine h_take 1 (x := ?_) rfl (by kernel_rfl) (by kernel_rfl) (by kernel_rfl) (fun _ _ _ h => h) (by rfl) (fun v => ?_) ?_
        rotate_left
        · (go_simp; try with_reducible rfl)
        try simp only [Act.put, List.setIfInBounds_toArray, List.set_cons_zero, List.set_cons_succ]
        refine h_take 2 (x := ?_) rfl (by kernel_rfl) (by kernel_rfl) (by kernel_rfl) (fun _ _ _ h => h) (by rfl) (fun v => ?_) ?_
        rotate_left
        · (go_simp; try with_reducible rfl)
        try simp only [Act.put, List.setIfInBounds_toArray, List.set_cons_zero, List.set_cons_succ]
        refine h_take 3 (x := ?_) rfl (by kernel_rfl) (by kernel_rfl) (by kernel_rfl) (fun _ _ _ h => h) (by rfl) (fun v => ?_) ?_
        rotate_left
        · (go_simp; try with_reducible rfl)
        try simp only [Act.put, List.setIfInBounds_toArray, List.set_cons_zero, List.set_cons_succ]
        refine h_take 5 (x := ?_) rfl (by kernel_rfl) (by kernel_rfl) (by kernel_rfl) (fun _ _ _ h => h) (by rfl) (fun v => ?_) ?_
        rotate_left
        · (go_simp; try with_reducible rfl)
        try simp only [Act.put, List.setIfInBounds_toArray, List.set_cons_zero, List.set_cons_succ]
        refine h_two 0 6 (by kernel_rfl) rfl rfl (fun K hK => ?_) (fun K hK => ?_)
        · go_simp
          obtain ⟨v1, hv1⟩ : ∃ y9 : After V, y9.w = u2.w.alloc (.cells #[] 24) := ⟨u2.on (b_alloc (Below.refl _ _) _), rfl⟩
          rw [← hv1]
          have hown1 : v1.w.ownsRow u2.w.heap.size 24 5 (.slice (some ⟨u2.w.heap.size, 0, none⟩) 0 0) 0 [] := by rw [hv1]; exact World.ownsRow_made u2.w #[] 0 (Nat.le_refl _) (by unfold maxLen; omega) (by simp)
          have sz1 : u2.w.heap.size ≤ v1.w.heap.size := by rw [hv1]; simp
          clear hv1
          refine hK _ v1 ?_
          clear hK K
          try simp only [Act.put, List.setIfInBounds_toArray, List.set_cons_zero, List.set_cons_succ]
          refine h_two 4 6 (by kernel_rfl) rfl rfl (fun K hK => ?_) (fun K hK => ?_)
          · refine step_append_rd _ rfl (.tmp 47) (.tmp 50) 22 rfl u2.w.heap.size 24 i0 (.agg #[.int .i64 0, .int .i64 0, .int .i64 0, .int .i64 0, .int .i64 0]) 5 40 und22 hi hz0 hz1 hz2 rfl (by decide) _ _ _ (by rfl) hown1 _ 0 _ ((l.take 0).flatMap Rc.cs) (by rfl) (by rw [flat_len Rc.cs 5 Rc.c5, List.length_take, HN.out]; try omega) (.inl (by rw [HM.out]; rfl)) (Rc.ones _) (by unfold maxLen; omega) (by omega) sz1 ?_
            intro x2 w' hown2 hgrow
            obtain ⟨v2, rfl, sz2⟩ := After.app u2 v1 hown1 hgrow sz1
            clear hgrow
            refine hK _ v2 ?_
            clear hK K
            try simp only [Act.put, List.setIfInBounds_toArray, List.set_cons_zero, List.set_cons_succ]
            refine h_step 6 (by kernel_rfl) rfl (fun K hK => ?_)
            go_simp
            obtain ⟨v3, hv1⟩ : ∃ y9 : After V, y9.w = v2.w.alloc (.cells #[.int .i64 t.d, .int .i64 t.f, .int .i64 t.k, .int .i64 t.i, .int .i64 t.o] 24) := ⟨v2.on (b_alloc (Below.refl _ _) _), rfl⟩
            rw [← hv1]
            have hgx3 : Rd v3.w (some ⟨v2.w.heap.size, 0, none⟩) (Rc.cs t) := by rw [hv1]; exact rd_new _ _ _ rfl
            have hgl3 : v2.w.heap.size < v3.w.heap.size := by rw [hv1]; simp
            have sz3 : u2.w.heap.size ≤ v3.w.heap.size := by rw [hv1]; simpa using Nat.le_succ_of_le sz2
            have hown3 := own_eq (own_after hown2 (b_alloc (Below.refl _ _) _)) hv1
            have hne3 := own_far hown2 (v2.w.heap.size) (Nat.le_refl _)
            clear hv1
            refine hK _ v3 ?_
            clear hK K
            try simp only [Act.put, List.setIfInBounds_toArray, List.set_cons_zero, List.set_cons_succ]
            refine h_step 7 (by kernel_rfl) rfl (fun K hK => ?_)
            refine step_append_rd _ rfl (.tmp 51) (.tmp 53) 22 rfl u2.w.heap.size 24 i0 (.agg #[.int .i64 0, .int .i64 0, .int .i64 0, .int .i64 0, .int .i64 0]) 5 40 und22 hi hz0 hz1 hz2 rfl (by decide) _ _ _ (by rfl) hown3 (some ⟨v2.w.heap.size, 0, none⟩) 1 _ (Rc.cs t) (by rfl) rfl hgx3 t.one (by unfold maxLen; omega) (by omega) sz3 ?_
            intro x4 w' hown4 hgrow
            obtain ⟨v4, rfl, sz4⟩ := After.app u2 v3 hown3 hgrow sz3
            clear hgrow
            refine hK _ v4 ?_
            clear hK K
            try simp only [Act.put, List.setIfInBounds_toArray, List.set_cons_zero, List.set_cons_succ]
            refine h_take 8 (x := ?_) rfl (by kernel_rfl) (by kernel_rfl) (by kernel_rfl) (fun _ _ _ h => h) (by rfl) (fun v => ?_) ?_
            rotate_left
            · (go_simp; try with_reducible rfl)
            try simp only [Act.put, List.setIfInBounds_toArray, List.set_cons_zero, List.set_cons_succ]
            refine wpAnyH_done (by kernel_rfl) ?_ _
            refine NoPanic.normal ?_
            have hwB : w.heap.size ≤ u2.w.heap.size := (WV.out u2).size
            go_wp2_with (at_builtin; refine wpList_append_rd _ rfl (.tmp 55) (.tmp 58) 22 rfl u2.w.heap.size 24 i0 (.agg #[.int .i64 0, .int .i64 0, .int .i64 0, .int .i64 0, .int .i64 0]) 5 40 und22 hi hz0 hz1 hz2 rfl (by decide) _ _ _ (by rfl) hown4 _ 0 _ ((l.drop 0).flatMap Rc.cs) (by rfl) (by rw [flat_len Rc.cs 5 Rc.c5, List.length_drop, HN.out]; try omega) (.inl (by rw [HM.out]; rfl)) (Rc.ones _) (by unfold maxLen; omega) (by omega) sz4 ?_; intro v8 w8 ho8 hgrow)
            have hB8 := own_below hown4 hgrow sz4
            have HWB := hid (Below.trans (WV.out v4) (hB8.mono hwB))
            obtain ⟨xa, xc, rfl, hxc, hxn, hxR, -⟩ := own_slice ho8
            have hxl : (addL l t).length = 0 + 0 + 1 + 0 := by rw [addL_len, HN.out]; try omega
            have hxR2 : Rd w8 xa ((addL l t).flatMap Rc.cs) := by rw [HB.out, List.flatMap_append, List.flatMap_cons]; simpa using hxR
            obtain ⟨L, hL⟩ : ∃ L, 0 + 0 + 1 + 0 = L := ⟨_, rfl⟩
            rw [hL] at hxl hxc hxn
            try rw [hL]
            have hsl := hid (show RcIs w8 (.slice xa L xc) (addL l t) from ⟨xa, xc, by rw [hxl], hxR2, by rw [hxl]; exact hxc, by rw [hxl]; exact hxn⟩)
            clear hxR hxR2 hxn hxc hxl hL ho8 hgrow hB8
            exact bodyPost_ret (v := .tuple #[.slice xa L xc, .int .i64 0]) (by simp [results, Try.results11, go_sem]) rfl ⟨_, by rw [HE.out], by rw [addV, if_pos HE.out]; exact hsl.out, HWB.out⟩
    
          · go_simp
            obtain ⟨v2, hv1⟩ : ∃ y9 : After V, y9.w = v1.w.alloc (.cells #[.int .i64 t.d, .int .i64 t.f, .int .i64 t.k, .int .i64 t.i, .int .i64 t.o] 24) := ⟨v1.on (b_alloc (Below.refl _ _) _), rfl⟩
            rw [← hv1]
            have hgx2 : Rd v2.w (some ⟨v1.w.heap.size, 0, none⟩) (Rc.cs t) := by rw [hv1]; exact rd_new _ _ _ rfl
            have hgl2 : v1.w.heap.size < v2.w.heap.size := by rw [hv1]; simp
            have sz2 : u2.w.heap.size ≤ v2.w.heap.size := by rw [hv1]; simpa using Nat.le_succ_of_le sz1
            have hown2 := own_eq (own_after hown1 (b_alloc (Below.refl _ _) _)) hv1
            have hne2 := own_far hown1 (v1.w.heap.size) (Nat.le_refl _)
            clear hv1
            refine hK _ v2 ?_
            clear hK K
            try simp only [Act.put, List.setIfInBounds_toArray, List.set_cons_zero, List.set_cons_succ]
            refine h_step 4 (by kernel_rfl) rfl (fun K hK => ?_)
            refine step_append_rd _ rfl (.tmp 47) (.tmp 50) 22 rfl u2.w.heap.size 24 i0 (.agg #[.int .i64 0, .int .i64 0, .int .i64 0, .int .i64 0, .int .i64 0]) 5 40 und22 hi hz0 hz1 hz2 rfl (by decide) _ _ _ (by rfl) hown2 _ 0 _ ((l.take 0).flatMap Rc.cs) (by rfl) (by rw [flat_len Rc.cs 5 Rc.c5, List.length_take, HN.out]; try omega) (.inl (by rw [HM.out]; rfl)) (Rc.ones _) (by unfold maxLen; omega) (by omega) sz2 ?_
            intro x3 w' hown3 hgrow
            have hgx3 := rd_grown hgx2 hgrow hne2
            have hgl3 := Nat.lt_of_lt_of_le hgl2 hgrow.size
            obtain ⟨v3, rfl, sz3⟩ := After.app u2 v2 hown2 hgrow sz2
            clear hgrow
            refine hK _ v3 ?_
            clear hK K
            try simp only [Act.put, List.setIfInBounds_toArray, List.set_cons_zero, List.set_cons_succ]
            refine h_step 7 (by kernel_rfl) rfl (fun K hK => ?_)
            refine step_append_rd _ rfl (.tmp 51) (.tmp 53) 22 rfl u2.w.heap.size 24 i0 (.agg #[.int .i64 0, .int .i64 0, .int .i64 0, .int .i64 0, .int .i64 0]) 5 40 und22 hi hz0 hz1 hz2 rfl (by decide) _ _ _ (by rfl) hown3 (some ⟨v1.w.heap.size, 0, none⟩) 1 _ (Rc.cs t) (by rfl) rfl hgx3 t.one (by unfold maxLen; omega) (by omega) sz3 ?_
            intro x4 w' hown4 hgrow
            obtain ⟨v4, rfl, sz4⟩ := After.app u2 v3 hown3 hgrow sz3
            clear hgrow
            refine hK _ v4 ?_
            clear hK K
            try simp only [Act.put, List.setIfInBounds_toArray, List.set_cons_zero, List.set_cons_succ]
            refine h_take 8 (x := ?_) rfl (by kernel_rfl) (by kernel_rfl) (by kernel_rfl) (fun _ _ _ h => h) (by rfl) (fun v => ?_) ?_
            rotate_left
            · (go_simp; try with_reducible rfl)
            try simp only [Act.put, List.setIfInBounds_toArray, List.set_cons_zero, List.set_cons_succ]
            refine wpAnyH_done (by kernel_rfl) ?_ _
            refine NoPanic.normal ?_
            have hwB : w.heap.size ≤ u2.w.heap.size := (WV.out u2).size
            go_wp2_with (at_builtin; refine wpList_append_rd _ rfl (.tmp 55) (.tmp 58) 22 rfl u2.w.heap.size 24 i0 (.agg #[.int .i64 0, .int .i64 0, .int .i64 0, .int .i64 0, .int .i64 0]) 5 40 und22 hi hz0 hz1 hz2 rfl (by decide) _ _ _ (by rfl) hown4 _ 0 _ ((l.drop 0).flatMap Rc.cs) (by rfl) (by rw [flat_len Rc.cs 5 Rc.c5, List.length_drop, HN.out]; try omega) (.inl (by rw [HM.out]; rfl)) (Rc.ones _) (by unfold maxLen; omega) (by omega) sz4 ?_; intro v8 w8 ho8 hgrow)
            have hB8 := own_below hown4 hgrow sz4
            have HWB := hid (Below.trans (WV.out v4) (hB8.mono hwB))
            obtain ⟨xa, xc, rfl, hxc, hxn, hxR, -⟩ := own_slice ho8
            have hxl : (addL l t).length = 0 + 0 + 1 + 0 := by rw [addL_len, HN.out]; try omega
            have hxR2 : Rd w8 xa ((addL l t).flatMap Rc.cs) := by rw [HB.out, List.flatMap_append, List.flatMap_cons]; simpa using hxR
            obtain ⟨L, hL⟩ : ∃ L, 0 + 0 + 1 + 0 = L := ⟨_, rfl⟩
            rw [hL] at hxl hxc hxn
            try rw [hL]
            have hsl := hid (show RcIs w8 (.slice xa L xc) (addL l t) from ⟨xa, xc, by rw [hxl], hxR2, by rw [hxl]; exact hxc, by rw [hxl]; exact hxn⟩)
            clear hxR hxR2 hxn hxc hxl hL ho8 hgrow hB8
            exact bodyPost_ret (v := .tuple #[.slice xa L xc, .int .i64 0]) (by simp [results, Try.results11, go_sem]) rfl ⟨_, by rw [HE.out], by rw [addV, if_pos HE.out]; exact hsl.out, HWB.out⟩
    
        · go_simp
          obtain ⟨v1, hv1⟩ : ∃ y9 : After V, y9.w = u2.w.alloc (.cells #[.int .i64 t.d, .int .i64 t.f, .int .i64 t.k, .int .i64 t.i, .int .i64 t.o] 24) := ⟨u2.on (b_alloc (Below.refl _ _) _), rfl⟩
          rw [← hv1]
          have hgx1 : Rd v1.w (some ⟨u2.w.heap.size, 0, none⟩) (Rc.cs t) := by rw [hv1]; exact rd_new _ _ _ rfl
          have hgl1 : u2.w.heap.size < v1.w.heap.size := by rw [hv1]; simp
          have sz1 : u2.w.heap.size ≤ v1.w.heap.size := by rw [hv1]; simp
          clear hv1
          refine hK _ v1 ?_
          clear hK K
          try simp only [Act.put, List.setIfInBounds_toArray, List.set_cons_zero, List.set_cons_succ]
          refine h_step 0 (by kernel_rfl) rfl (fun K hK => ?_)
          go_simp
          obtain ⟨v2, hv1⟩ : ∃ y9 : After V, y9.w = v1.w.alloc (.cells #[] 24) := ⟨v1.on (b_alloc (Below.refl _ _) _), rfl⟩
          rw [← hv1]
          have hown2 : v2.w.ownsRow u2.w.heap.size 24 5 (.slice (some ⟨v1.w.heap.size, 0, none⟩) 0 0) 0 [] := by rw [hv1]; exact World.ownsRow_made v1.w #[] 0 sz1 (by unfold maxLen; omega) (by simp)
          have sz2 : u2.w.heap.size ≤ v2.w.heap.size := by rw [hv1]; simpa using Nat.le_succ_of_le sz1
          have hgx2 : Rd v2.w (some ⟨u2.w.heap.size, 0, none⟩) (Rc.cs t) := by rw [hv1]; exact hgx1.alloc _
          have hne2 : ∀ g off, (some ⟨u2.w.heap.size, 0, none⟩ : Option Addr) = some ⟨g, off, none⟩ → (Value.slice (some ⟨v1.w.heap.size, 0, none⟩) 0 0).ownBlock ≠ some g := fun g off h => by have := hgl1; simp only [Option.some.injEq, Addr.mk.injEq] at h; simp only [Value.ownBlock, ne_eq, Option.some.injEq]; omega
          have hgl2 : u2.w.heap.size < v2.w.heap.size := Nat.lt_of_lt_of_le hgl1 (by rw [hv1]; simp)
          clear hv1
          refine hK _ v2 ?_
          clear hK K
          try simp only [Act.put, List.setIfInBounds_toArray, List.set_cons_zero, List.set_cons_succ]
          refine h_step 4 (by kernel_rfl) rfl (fun K hK => ?_)
          refine step_append_rd _ rfl (.tmp 47) (.tmp 50) 22 rfl u2.w.heap.size 24 i0 (.agg #[.int .i64 0, .int .i64 0, .int .i64 0, .int .i64 0, .int .i64 0]) 5 40 und22 hi hz0 hz1 hz2 rfl (by decide) _ _ _ (by rfl) hown2 _ 0 _ ((l.take 0).flatMap Rc.cs) (by rfl) (by rw [flat_len Rc.cs 5 Rc.c5, List.length_take, HN.out]; try omega) (.inl (by rw [HM.out]; rfl)) (Rc.ones _) (by unfold maxLen; omega) (by omega) sz2 ?_
          intro x3 w' hown3 hgrow
          have hgx3 := rd_grown hgx2 hgrow hne2
          have hgl3 := Nat.lt_of_lt_of_le hgl2 hgrow.size
          obtain ⟨v3, rfl, sz3⟩ := After.app u2 v2 hown2 hgrow sz2
          clear hgrow
          refine hK _ v3 ?_
          clear hK K
          try simp only [Act.put, List.setIfInBounds_toArray, List.set_cons_zero, List.set_cons_succ]
          refine h_step 7 (by kernel_rfl) rfl (fun K hK => ?_)
          refine step_append_rd _ rfl (.tmp 51) (.tmp 53) 22 rfl u2.w.heap.size 24 i0 (.agg #[.int .i64 0, .int .i64 0, .int .i64 0, .int .i64 0, .int .i64 0]) 5 40 und22 hi hz0 hz1 hz2 rfl (by decide) _ _ _ (by rfl) hown3 (some ⟨u2.w.heap.size, 0, none⟩) 1 _ (Rc.cs t) (by rfl) rfl hgx3 t.one (by unfold maxLen; omega) (by omega) sz3 ?_
          intro x4 w' hown4 hgrow
          obtain ⟨v4, rfl, sz4⟩ := After.app u2 v3 hown3 hgrow sz3
          clear hgrow
          refine hK _ v4 ?_
          clear hK K
          try simp only [Act.put, List.setIfInBounds_toArray, List.set_cons_zero, List.set_cons_succ]
          refine h_take 8 (x := ?_) rfl (by kernel_rfl) (by kernel_rfl) (by kernel_rfl) (fun _ _ _ h => h) (by rfl) (fun v => ?_) ?_
          rotate_left
          · (go_simp; try with_reducible rfl)
          try simp only [Act.put, List.setIfInBounds_toArray, List.set_cons_zero, List.set_cons_succ]
          refine wpAnyH_done (by kernel_rfl) ?_ _
          refine NoPanic.normal ?_
          have hwB : w.heap.size ≤ u2.w.heap.size := (WV.out u2).size
          go_wp2_with (at_builtin; refine wpList_append_rd _ rfl (.tmp 55) (.tmp 58) 22 rfl u2.w.heap.size 24 i0 (.agg #[.int .i64 0, .int .i64 0, .int .i64 0, .int .i64 0, .int .i64 0]) 5 40 und22 hi hz0 hz1 hz2 rfl (by decide) _ _ _ (by rfl) hown4 _ 0 _ ((l.drop 0).flatMap Rc.cs) (by rfl) (by rw [flat_len Rc.cs 5 Rc.c5, List.length_drop, HN.out]; try omega) (.inl (by rw [HM.out]; rfl)) (Rc.ones _) (by unfold maxLen; omega) (by omega) sz4 ?_; intro v8 w8 ho8 hgrow)
          have hB8 := own_below hown4 hgrow sz4
          have HWB := hid (Below.trans (WV.out v4) (hB8.mono hwB))
          obtain ⟨xa, xc, rfl, hxc, hxn, hxR, -⟩ := own_slice ho8
          have hxl : (addL l t).length = 0 + 0 + 1 + 0 := by rw [addL_len, HN.out]; try omega
          have hxR2 : Rd w8 xa ((addL l t).flatMap Rc.cs) := by rw [HB.out, List.flatMap_append, List.flatMap_cons]; simpa using hxR
          obtain ⟨L, hL⟩ : ∃ L, 0 + 0 + 1 + 0 = L := ⟨_, rfl⟩
          rw [hL] at hxl hxc hxn
          try rw [hL]
          have hsl := hid (show RcIs w8 (.slice xa L xc) (addL l t) from ⟨xa, xc, by rw [hxl], hxR2, by rw [hxl]; exact hxc, by rw [hxl]; exact hxn⟩)
          clear hxR hxR2 hxn hxc hxl hL ho8 hgrow hB8
          exact bodyPost_ret (v := .tuple #[.slice xa L xc, .int .i64 0]) (by simp [results, Try.results11, go_sem]) rfl ⟨_, by rw [HE.out], by rw [addV, if_pos HE.out]; exact hsl.out, HWB.out⟩
  

      | some ad =>
        by_cases hc0 : c = 0
        · subst hc0
          refine whole_region 9 rfl (by kernel_rfl) ?_
          intro u2
          refine h_take 1 (x := ?_) rfl (by kernel_rfl) (by kernel_rfl) (by kernel_rfl) (fun _ _ _ h => h) (by rfl) (fun v => ?_) ?_
          rotate_left
          · (go_simp; try with_reducible rfl)
          try simp only [Act.put, List.setIfInBounds_toArray, List.set_cons_zero, List.set_cons_succ]
          refine h_take 2 (x := ?_) rfl (by kernel_rfl) (by kernel_rfl) (by kernel_rfl) (fun _ _ _ h => h) (by rfl) (fun v => ?_) ?_
          rotate_left
          · (go_simp; try with_reducible rfl)
          try simp only [Act.put, List.setIfInBounds_toArray, List.set_cons_zero, List.set_cons_succ]
          refine h_take 3 (x := ?_) rfl (by kernel_rfl) (by kernel_rfl) (by kernel_rfl) (fun _ _ _ h => h) (by rfl) (fun v => ?_) ?_
          rotate_left
          · (go_simp; try with_reducible rfl)
          try simp only [Act.put, List.setIfInBounds_toArray, List.set_cons_zero, List.set_cons_succ]
          refine h_take 5 (x := ?_) rfl (by kernel_rfl) (by kernel_rfl) (by kernel_rfl) (fun _ _ _ h => h) (by rfl) (fun v => ?_) ?_
          rotate_left
          · (go_simp; try with_reducible rfl)
          try simp only [Act.put, List.setIfInBounds_toArray, List.set_cons_zero, List.set_cons_succ]
          refine h_two 0 6 (by kernel_rfl) rfl rfl (fun K hK => ?_) (fun K hK => ?_)
          · go_simp
            obtain ⟨v1, hv1⟩ : ∃ y9 : After V, y9.w = u2.w.alloc (.cells #[] 24) := ⟨u2.on (b_alloc (Below.refl _ _) _), rfl⟩
            rw [← hv1]
            have hown1 : v1.w.ownsRow u2.w.heap.size 24 5 (.slice (some ⟨u2.w.heap.size, 0, none⟩) 0 0) 0 [] := by rw [hv1]; exact World.ownsRow_made u2.w #[] 0 (Nat.le_refl _) (by unfold maxLen; omega) (by simp)
            have sz1 : u2.w.heap.size ≤ v1.w.heap.size := by rw [hv1]; simp
            clear hv1
            refine hK _ v1 ?_
            clear hK K
            try simp only [Act.put, List.setIfInBounds_toArray, List.set_cons_zero, List.set_cons_succ]
            refine h_two 4 6 (by kernel_rfl) rfl rfl (fun K hK => ?_) (fun K hK => ?_)
            · refine step_append_rd _ rfl (.tmp 47) (.tmp 50) 22 rfl u2.w.heap.size 24 i0 (.agg #[.int .i64 0, .int .i64 0, .int .i64 0, .int .i64 0, .int .i64 0]) 5 40 und22 hi hz0 hz1 hz2 rfl (by decide) _ _ _ (by rfl) hown1 _ 0 _ ((l.take 0).flatMap Rc.cs) (by rfl) (by rw [flat_len Rc.cs 5 Rc.c5, List.length_take, HN.out]; try omega) (.inl (by rw [HM.out]; rfl)) (Rc.ones _) (by unfold maxLen; omega) (by omega) sz1 ?_
              intro x2 w' hown2 hgrow
              obtain ⟨v2, rfl, sz2⟩ := After.app u2 v1 hown1 hgrow sz1
              clear hgrow
              refine hK _ v2 ?_
              clear hK K
              try simp only [Act.put, List.setIfInBounds_toArray, List.set_cons_zero, List.set_cons_succ]
              refine h_step 6 (by kernel_rfl) rfl (fun K hK => ?_)
              go_simp
              obtain ⟨v3, hv1⟩ : ∃ y9 : After V, y9.w = v2.w.alloc (.cells #[.int .i64 t.d, .int .i64 t.f, .int .i64 t.k, .int .i64 t.i, .int .i64 t.o] 24) := ⟨v2.on (b_alloc (Below.refl _ _) _), rfl⟩
              rw [← hv1]
              have hgx3 : Rd v3.w (some ⟨v2.w.heap.size, 0, none⟩) (Rc.cs t) := by rw [hv1]; exact rd_new _ _ _ rfl
              have hgl3 : v2.w.heap.size < v3.w.heap.size := by rw [hv1]; simp
              have sz3 : u2.w.heap.size ≤ v3.w.heap.size := by rw [hv1]; simpa using Nat.le_succ_of_le sz2
              have hown3 := own_eq (own_after hown2 (b_alloc (Below.refl _ _) _)) hv1
              have hne3 := own_far hown2 (v2.w.heap.size) (Nat.le_refl _)
              clear hv1
              refine hK _ v3 ?_
              clear hK K
              try simp only [Act.put, List.setIfInBounds_toArray, List.set_cons_zero, List.set_cons_succ]
              refine h_step 7 (by kernel_rfl) rfl (fun K hK => ?_)
              refine step_append_rd _ rfl (.tmp 51) (.tmp 53) 22 rfl u2.w.heap.size 24 i0 (.agg #[.int .i64 0, .int .i64 0, .int .i64 0, .int .i64 0, .int .i64 0]) 5 40 und22 hi hz0 hz1 hz2 rfl (by decide) _ _ _ (by rfl) hown3 (some ⟨v2.w.heap.size, 0, none⟩) 1 _ (Rc.cs t) (by rfl) rfl hgx3 t.one (by unfold maxLen; omega) (by omega) sz3 ?_
              intro x4 w' hown4 hgrow
              obtain ⟨v4, rfl, sz4⟩ := After.app u2 v3 hown3 hgrow sz3
              clear hgrow
              refine hK _ v4 ?_
              clear hK K
              try simp only [Act.put, List.setIfInBounds_toArray, List.set_cons_zero, List.set_cons_succ]
              refine h_take 8 (x := ?_) rfl (by kernel_rfl) (by kernel_rfl) (by kernel_rfl) (fun _ _ _ h => h) (by rfl) (fun v => ?_) ?_
              rotate_left
              · (go_simp; try with_reducible rfl)
              try simp only [Act.put, List.setIfInBounds_toArray, List.set_cons_zero, List.set_cons_succ]
              refine wpAnyH_done (by kernel_rfl) ?_ _
              refine NoPanic.normal ?_
              have hwB : w.heap.size ≤ u2.w.heap.size := (WV.out u2).size
              go_wp2_with (at_builtin; refine wpList_append_rd _ rfl (.tmp 55) (.tmp 58) 22 rfl u2.w.heap.size 24 i0 (.agg #[.int .i64 0, .int .i64 0, .int .i64 0, .int .i64 0, .int .i64 0]) 5 40 und22 hi hz0 hz1 hz2 rfl (by decide) _ _ _ (by rfl) hown4 _ 0 _ ((l.drop 0).flatMap Rc.cs) (by rfl) (by rw [flat_len Rc.cs 5 Rc.c5, List.length_drop, HN.out]; try omega) (.inl (by rw [HM.out]; rfl)) (Rc.ones _) (by unfold maxLen; omega) (by omega) sz4 ?_; intro v8 w8 ho8 hgrow)
              have hB8 := own_below hown4 hgrow sz4
              have HWB := hid (Below.trans (WV.out v4) (hB8.mono hwB))
              obtain ⟨xa, xc, rfl, hxc, hxn, hxR, -⟩ := own_slice ho8
              have hxl : (addL l t).length = 0 + 0 + 1 + 0 := by rw [addL_len, HN.out]; try omega
              have hxR2 : Rd w8 xa ((addL l t).flatMap Rc.cs) := by rw [HB.out, List.flatMap_append, List.flatMap_cons]; simpa using hxR
              obtain ⟨L, hL⟩ : ∃ L, 0 + 0 + 1 + 0 = L := ⟨_, rfl⟩
              rw [hL] at hxl hxc hxn
              try rw [hL]
              have hsl := hid (show RcIs w8 (.slice xa L xc) (addL l t) from ⟨xa, xc, by rw [hxl], hxR2, by rw [hxl]; exact hxc, by rw [hxl]; exact hxn⟩)
              clear hxR hxR2 hxn hxc hxl hL ho8 hgrow hB8
              exact bodyPost_ret (v := .tuple #[.slice xa L xc, .int .i64 0]) (by simp [results, Try.results11, go_sem]) rfl ⟨_, by rw [HE.out], by rw [addV, if_pos HE.out]; exact hsl.out, HWB.out⟩
    
            · go_simp
              obtain ⟨v2, hv1⟩ : ∃ y9 : After V, y9.w = v1.w.alloc (.cells #[.int .i64 t.d, .int .i64 t.f, .int .i64 t.k, .int .i64 t.i, .int .i64 t.o] 24) := ⟨v1.on (b_alloc (Below.refl _ _) _), rfl⟩
              rw [← hv1]
              have hgx2 : Rd v2.w (some ⟨v1.w.heap.size, 0, none⟩) (Rc.cs t) := by rw [hv1]; exact rd_new _ _ _ rfl
              have hgl2 : v1.w.heap.size < v2.w.heap.size := by rw [hv1]; simp
              have sz2 : u2.w.heap.size ≤ v2.w.heap.size := by rw [hv1]; simpa using Nat.le_succ_of_le sz1
              have hown2 := own_eq (own_after hown1 (b_alloc (Below.refl _ _) _)) hv1
              have hne2 := own_far hown1 (v1.w.heap.size) (Nat.le_refl _)
              clear hv1
              refine hK _ v2 ?_
              clear hK K
              try simp only [Act.put, List.setIfInBounds_toArray, List.set_cons_zero, List.set_cons_succ]
              refine h_step 4 (by kernel_rfl) rfl (fun K hK => ?_)
              refine step_append_rd _ rfl (.tmp 47) (.tmp 50) 22 rfl u2.w.heap.size 24 i0 (.agg #[.int .i64 0, .int .i64 0, .int .i64 0, .int .i64 0, .int .i64 0]) 5 40 und22 hi hz0 hz1 hz2 rfl (by decide) _ _ _ (by rfl) hown2 _ 0 _ ((l.take 0).flatMap Rc.cs) (by rfl) (by rw [flat_len Rc.cs 5 Rc.c5, List.length_take, HN.out]; try omega) (.inl (by rw [HM.out]; rfl)) (Rc.ones _) (by unfold maxLen; omega) (by omega) sz2 ?_
              intro x3 w' hown3 hgrow
              have hgx3 := rd_grown hgx2 hgrow hne2
              have hgl3 := Nat.lt_of_lt_of_le hgl2 hgrow.size
              obtain ⟨v3, rfl, sz3⟩ := After.app u2 v2 hown2 hgrow sz2
              clear hgrow
              refine hK _ v3 ?_
              clear hK K
              try simp only [Act.put, List.setIfInBounds_toArray, List.set_cons_zero, List.set_cons_succ]
              refine h_step 7 (by kernel_rfl) rfl (fun K hK => ?_)
              refine step_append_rd _ rfl (.tmp 51) (.tmp 53) 22 rfl u2.w.heap.size 24 i0 (.agg #[.int .i64 0, .int .i64 0, .int .i64 0, .int .i64 0, .int .i64 0]) 5 40 und22 hi hz0 hz1 hz2 rfl (by decide) _ _ _ (by rfl) hown3 (some ⟨v1.w.heap.size, 0, none⟩) 1 _ (Rc.cs t) (by rfl) rfl hgx3 t.one (by unfold maxLen; omega) (by omega) sz3 ?_
              intro x4 w' hown4 hgrow
              obtain ⟨v4, rfl, sz4⟩ := After.app u2 v3 hown3 hgrow sz3
              clear hgrow
              refine hK _ v4 ?_
              clear hK K
              try simp only [Act.put, List.setIfInBounds_toArray, List.set_cons_zero, List.set_cons_succ]
              refine h_take 8 (x := ?_) rfl (by kernel_rfl) (by kernel_rfl) (by kernel_rfl) (fun _ _ _ h => h) (by rfl) (fun v => ?_) ?_
              rotate_left
              · (go_simp; try with_reducible rfl)
              try simp only [Act.put, List.setIfInBounds_toArray, List.set_cons_zero, List.set_cons_succ]
              refine wpAnyH_done (by kernel_rfl) ?_ _
              refine NoPanic.normal ?_
              have hwB : w.heap.size ≤ u2.w.heap.size := (WV.out u2).size
              go_wp2_with (at_builtin; refine wpList_append_rd _ rfl (.tmp 55) (.tmp 58) 22 rfl u2.w.heap.size 24 i0 (.agg #[.int .i64 0, .int .i64 0, .int .i64 0, .int .i64 0, .int .i64 0]) 5 40 und22 hi hz0 hz1 hz2 rfl (by decide) _ _ _ (by rfl) hown4 _ 0 _ ((l.drop 0).flatMap Rc.cs) (by rfl) (by rw [flat_len Rc.cs 5 Rc.c5, List.length_drop, HN.out]; try omega) (.inl (by rw [HM.out]; rfl)) (Rc.ones _) (by unfold maxLen; omega) (by omega) sz4 ?_; intro v8 w8 ho8 hgrow)
              have hB8 := own_below hown4 hgrow sz4
              have HWB := hid (Below.trans (WV.out v4) (hB8.mono hwB))
              obtain ⟨xa, xc, rfl, hxc, hxn, hxR, -⟩ := own_slice ho8
              have hxl : (addL l t).length = 0 + 0 + 1 + 0 := by rw [addL_len, HN.out]; try omega
              have hxR2 : Rd w8 xa ((addL l t).flatMap Rc.cs) := by rw [HB.out, List.flatMap_append, List.flatMap_cons]; simpa using hxR
              obtain ⟨L, hL⟩ : ∃ L, 0 + 0 + 1 + 0 = L := ⟨_, rfl⟩
              rw [hL] at hxl hxc hxn
              try rw [hL]
              have hsl := hid (show RcIs w8 (.slice xa L xc) (addL l t) from ⟨xa, xc, by rw [hxl], hxR2, by rw [hxl]; exact hxc, by rw [hxl]; exact hxn⟩)
              clear hxR hxR2 hxn hxc hxl hL ho8 hgrow hB8
              exact bodyPost_ret (v := .tuple #[.slice xa L xc, .int .i64 0]) (by simp [results, Try.results11, go_sem]) rfl ⟨_, by rw [HE.out], by rw [addV, if_pos HE.out]; exact hsl.out, HWB.out⟩
    
          · go_simp
            obtain ⟨v1, hv1⟩ : ∃ y9 : After V, y9.w = u2.w.alloc (.cells #[.int .i64 t.d, .int .i64 t.f, .int .i64 t.k, .int .i64 t.i, .int .i64 t.o] 24) := ⟨u2.on (b_alloc (Below.refl _ _) _), rfl⟩
            rw [← hv1]
            have hgx1 : Rd v1.w (some ⟨u2.w.heap.size, 0, none⟩) (Rc.cs t) := by rw [hv1]; exact rd_new _ _ _ rfl
            have hgl1 : u2.w.heap.size < v1.w.heap.size := by rw [hv1]; simp
            have sz1 : u2.w.heap.size ≤ v1.w.heap.size := by rw [hv1]; simp
            clear hv1
            refine hK _ v1 ?_
            clear hK K
            try simp only [Act.put, List.setIfInBounds_toArray, List.set_cons_zero, List.set_cons_succ]
            refine h_step 0 (by kernel_rfl) rfl (fun K hK => ?_)
            go_simp
            obtain ⟨v2, hv1⟩ : ∃ y9 : After V, y9.w = v1.w.alloc (.cells #[] 24) := ⟨v1.on (b_alloc (Below.refl _ _) _), rfl⟩
            rw [← hv1]
            have hown2 : v2.w.ownsRow u2.w.heap.size 24 5 (.slice (some ⟨v1.w.heap.size, 0, none⟩) 0 0) 0 [] := by rw [hv1]; exact World.ownsRow_made v1.w #[] 0 sz1 (by unfold maxLen; omega) (by simp)
            have sz2 : u2.w.heap.size ≤ v2.w.heap.size := by rw [hv1]; simpa using Nat.le_succ_of_le sz1
            have hgx2 : Rd v2.w (some ⟨u2.w.heap.size, 0, none⟩) (Rc.cs t) := by rw [hv1]; exact hgx1.alloc _
            have hne2 : ∀ g off, (some ⟨u2.w.heap.size, 0, none⟩ : Option Addr) = some ⟨g, off, none⟩ → (Value.slice (some ⟨v1.w.heap.size, 0, none⟩) 0 0).ownBlock ≠ some g := fun g off h => by have := hgl1; simp only [Option.some.injEq, Addr.mk.injEq] at h; simp only [Value.ownBlock, ne_eq, Option.some.injEq]; omega
            have hgl2 : u2.w.heap.size < v2.w.heap.size := Nat.lt_of_lt_of_le hgl1 (by rw [hv1]; simp)
            clear hv1
            refine hK _ v2 ?_
            clear hK K
            try simp only [Act.put, List.setIfInBounds_toArray, List.set_cons_zero, List.set_cons_succ]
            refine h_step 4 (by kernel_rfl) rfl (fun K hK => ?_)
            refine step_append_rd _ rfl (.tmp 47) (.tmp 50) 22 rfl u2.w.heap.size 24 i0 (.agg #[.int .i64 0, .int .i64 0, .int .i64 0, .int .i64 0, .int .i64 0]) 5 40 und22 hi hz0 hz1 hz2 rfl (by decide) _ _ _ (by rfl) hown2 _ 0 _ ((l.take 0).flatMap Rc.cs) (by rfl) (by rw [flat_len Rc.cs 5 Rc.c5, List.length_take, HN.out]; try omega) (.inl (by rw [HM.out]; rfl)) (Rc.ones _) (by unfold maxLen; omega) (by omega) sz2 ?_
            intro x3 w' hown3 hgrow
            have hgx3 := rd_grown hgx2 hgrow hne2
            have hgl3 := Nat.lt_of_lt_of_le hgl2 hgrow.size
            obtain ⟨v3, rfl, sz3⟩ := After.app u2 v2 hown2 hgrow sz2
            clear hgrow
            refine hK _ v3 ?_
            clear hK K
            try simp only [Act.put, List.setIfInBounds_toArray, List.set_cons_zero, List.set_cons_succ]
            refine h_step 7 (by kernel_rfl) rfl (fun K hK => ?_)
            refine step_append_rd _ rfl (.tmp 51) (.tmp 53) 22 rfl u2.w.heap.size 24 i0 (.agg #[.int .i64 0, .int .i64 0, .int .i64 0, .int .i64 0, .int .i64 0]) 5 40 und22 hi hz0 hz1 hz2 rfl (by decide) _ _ _ (by rfl) hown3 (some ⟨u2.w.heap.size, 0, none⟩) 1 _ (Rc.cs t) (by rfl) rfl hgx3 t.one (by unfold maxLen; omega) (by omega) sz3 ?_
            intro x4 w' hown4 hgrow
            obtain ⟨v4, rfl, sz4⟩ := After.app u2 v3 hown3 hgrow sz3
            clear hgrow
            refine hK _ v4 ?_
            clear hK K
            try simp only [Act.put, List.setIfInBounds_toArray, List.set_cons_zero, List.set_cons_succ]
            refine h_take 8 (x := ?_) rfl (by kernel_rfl) (by kernel_rfl) (by kernel_rfl) (fun _ _ _ h => h) (by rfl) (fun v => ?_) ?_
            rotate_left
            · (go_simp; try with_reducible rfl)
            try simp only [Act.put, List.setIfInBounds_toArray, List.set_cons_zero, List.set_cons_succ]
            refine wpAnyH_done (by kernel_rfl) ?_ _
            refine NoPanic.normal ?_
            have hwB : w.heap.size ≤ u2.w.heap.size := (WV.out u2).size
            go_wp2_with (at_builtin; refine wpList_append_rd _ rfl (.tmp 55) (.tmp 58) 22 rfl u2.w.heap.size 24 i0 (.agg #[.int .i64 0, .int .i64 0, .int .i64 0, .int .i64 0, .int .i64 0]) 5 40 und22 hi hz0 hz1 hz2 rfl (by decide) _ _ _ (by rfl) hown4 _ 0 _ ((l.drop 0).flatMap Rc.cs) (by rfl) (by rw [flat_len Rc.cs 5 Rc.c5, List.length_drop, HN.out]; try omega) (.inl (by rw [HM.out]; rfl)) (Rc.ones _) (by unfold maxLen; omega) (by omega) sz4 ?_; intro v8 w8 ho8 hgrow)
            have hB8 := own_below hown4 hgrow sz4
            have HWB := hid (Below.trans (WV.out v4) (hB8.mono hwB))
            obtain ⟨xa, xc, rfl, hxc, hxn, hxR, -⟩ := own_slice ho8
            have hxl : (addL l t).length = 0 + 0 + 1 + 0 := by rw [addL_len, HN.out]; try omega
            have hxR2 : Rd w8 xa ((addL l t).flatMap Rc.cs) := by rw [HB.out, List.flatMap_append, List.flatMap_cons]; simpa using hxR
            obtain ⟨L, hL⟩ : ∃ L, 0 + 0 + 1 + 0 = L := ⟨_, rfl⟩
            rw [hL] at hxl hxc hxn
            try rw [hL]
            have hsl := hid (show RcIs w8 (.slice xa L xc) (addL l t) from ⟨xa, xc, by rw [hxl], hxR2, by rw [hxl]; exact hxc, by rw [hxl]; exact hxn⟩)
            clear hxR hxR2 hxn hxc hxl hL ho8 hgrow hB8
            exact bodyPost_ret (v := .tuple #[.slice xa L xc, .int .i64 0]) (by simp [results, Try.results11, go_sem]) rfl ⟨_, by rw [HE.out], by rw [addV, if_pos HE.out]; exact hsl.out, HWB.out⟩
  

        · skip
          refine whole_region 9 rfl (by kernel_rfl) ?_
          intro u2
          refine h_take 1 (x := ?_) rfl (by kernel_rfl) (by kernel_rfl) (by kernel_rfl) (fun _ _ _ h => h) (by rfl) (fun v => ?_) ?_
          rotate_left
          · (go_simp; try with_reducible rfl)
          try simp only [Act.put, List.setIfInBounds_toArray, List.set_cons_zero, List.set_cons_succ]
          refine h_take 2 (x := ?_) rfl (by kernel_rfl) (by kernel_rfl) (by kernel_rfl) (fun _ _ _ h => h) (by rfl) (fun v => ?_) ?_
          rotate_left
          · (go_simp; try with_reducible rfl)
          try simp only [Act.put, List.setIfInBounds_toArray, List.set_cons_zero, List.set_cons_succ]
          refine h_take 3 (x := ?_) rfl (by kernel_rfl) (by kernel_rfl) (by kernel_rfl) (fun _ _ _ h => h) (by rfl) (fun v => ?_) ?_
          rotate_left
          · (go_simp; try with_reducible rfl)
          try simp only [Act.put, List.setIfInBounds_toArray, List.set_cons_zero, List.set_cons_succ]
          refine h_take 5 (x := ?_) rfl (by kernel_rfl) (by kernel_rfl) (by kernel_rfl) (fun _ _ _ h => h) (by rfl) (fun v => ?_) ?_
          rotate_left
          · (go_simp; try with_reducible rfl)
          try simp only [Act.put, List.setIfInBounds_toArray, List.set_cons_zero, List.set_cons_succ]
          refine h_two 0 6 (by kernel_rfl) rfl rfl (fun K hK => ?_) (fun K hK => ?_)
          · go_simp
            obtain ⟨v1, hv1⟩ : ∃ y9 : After V, y9.w = u2.w.alloc (.cells #[] 24) := ⟨u2.on (b_alloc (Below.refl _ _) _), rfl⟩
            rw [← hv1]
            have hown1 : v1.w.ownsRow u2.w.heap.size 24 5 (.slice (some ⟨u2.w.heap.size, 0, none⟩) 0 0) 0 [] := by rw [hv1]; exact World.ownsRow_made u2.w #[] 0 (Nat.le_refl _) (by unfold maxLen; omega) (by simp)
            have sz1 : u2.w.heap.size ≤ v1.w.heap.size := by rw [hv1]; simp
            clear hv1
            refine hK _ v1 ?_
            clear hK K
            try simp only [Act.put, List.setIfInBounds_toArray, List.set_cons_zero, List.set_cons_succ]
            refine h_two 4 6 (by kernel_rfl) rfl rfl (fun K hK => ?_) (fun K hK => ?_)
            · refine step_append_rd _ rfl (.tmp 47) (.tmp 50) 22 rfl u2.w.heap.size 24 i0 (.agg #[.int .i64 0, .int .i64 0, .int .i64 0, .int .i64 0, .int .i64 0]) 5 40 und22 hi hz0 hz1 hz2 rfl (by decide) _ _ _ (by rfl) hown1 _ 0 _ ((l.take 0).flatMap Rc.cs) (by rfl) (by rw [flat_len Rc.cs 5 Rc.c5, List.length_take, HN.out]; try omega) (.inl (by rw [HM.out]; rfl)) (Rc.ones _) (by unfold maxLen; omega) (by omega) sz1 ?_
              intro x2 w' hown2 hgrow
              obtain ⟨v2, rfl, sz2⟩ := After.app u2 v1 hown1 hgrow sz1
              clear hgrow
              refine hK _ v2 ?_
              clear hK K
              try simp only [Act.put, List.setIfInBounds_toArray, List.set_cons_zero, List.set_cons_succ]
              refine h_step 6 (by kernel_rfl) rfl (fun K hK => ?_)
              go_simp
              obtain ⟨v3, hv1⟩ : ∃ y9 : After V, y9.w = v2.w.alloc (.cells #[.int .i64 t.d, .int .i64 t.f, .int .i64 t.k, .int .i64 t.i, .int .i64 t.o] 24) := ⟨v2.on (b_alloc (Below.refl _ _) _), rfl⟩
              rw [← hv1]
              have hgx3 : Rd v3.w (some ⟨v2.w.heap.size, 0, none⟩) (Rc.cs t) := by rw [hv1]; exact rd_new _ _ _ rfl
              have hgl3 : v2.w.heap.size < v3.w.heap.size := by rw [hv1]; simp
              have sz3 : u2.w.heap.size ≤ v3.w.heap.size := by rw [hv1]; simpa using Nat.le_succ_of_le sz2
              have hown3 := own_eq (own_after hown2 (b_alloc (Below.refl _ _) _)) hv1
              have hne3 := own_far hown2 (v2.w.heap.size) (Nat.le_refl _)
              clear hv1
              refine hK _ v3 ?_
              clear hK K
              try simp only [Act.put, List.setIfInBounds_toArray, List.set_cons_zero, List.set_cons_succ]
              refine h_step 7 (by kernel_rfl) rfl (fun K hK => ?_)
              refine step_append_rd _ rfl (.tmp 51) (.tmp 53) 22 rfl u2.w.heap.size 24 i0 (.agg #[.int .i64 0, .int .i64 0, .int .i64 0, .int .i64 0, .int .i64 0]) 5 40 und22 hi hz0 hz1 hz2 rfl (by decide) _ _ _ (by rfl) hown3 (some ⟨v2.w.heap.size, 0, none⟩) 1 _ (Rc.cs t) (by rfl) rfl hgx3 t.one (by unfold maxLen; omega) (by omega) sz3 ?_
              intro x4 w' hown4 hgrow
              obtain ⟨v4, rfl, sz4⟩ := After.app u2 v3 hown3 hgrow sz3
              clear hgrow
              refine hK _ v4 ?_
              clear hK K
              try simp only [Act.put, List.setIfInBounds_toArray, List.set_cons_zero, List.set_cons_succ]
              refine h_take 8 (x := ?_) rfl (by kernel_rfl) (by kernel_rfl) (by kernel_rfl) (fun _ _ _ h => h) (by rfl) (fun v => ?_) ?_
              rotate_left
              · (go_simp; try with_reducible rfl)
              try simp only [Act.put, List.setIfInBounds_toArray, List.set_cons_zero, List.set_cons_succ]
              refine wpAnyH_done (by kernel_rfl) ?_ _
              refine NoPanic.normal ?_
              have hwB : w.heap.size ≤ u2.w.heap.size := (WV.out u2).size
              go_wp2_with (at_builtin; refine wpList_append_rd _ rfl (.tmp 55) (.tmp 58) 22 rfl u2.w.heap.size 24 i0 (.agg #[.int .i64 0, .int .i64 0, .int .i64 0, .int .i64 0, .int .i64 0]) 5 40 und22 hi hz0 hz1 hz2 rfl (by decide) _ _ _ (by rfl) hown4 _ 0 _ ((l.drop 0).flatMap Rc.cs) (by rfl) (by rw [flat_len Rc.cs 5 Rc.c5, List.length_drop, HN.out]; try omega) (.inl (by rw [HM.out]; rfl)) (Rc.ones _) (by unfold maxLen; omega) (by omega) sz4 ?_; intro v8 w8 ho8 hgrow)
              have hB8 := own_below hown4 hgrow sz4
              have HWB := hid (Below.trans (WV.out v4) (hB8.mono hwB))
              obtain ⟨xa, xc, rfl, hxc, hxn, hxR, -⟩ := own_slice ho8
              have hxl : (addL l t).length = 0 + 0 + 1 + 0 := by rw [addL_len, HN.out]; try omega
              have hxR2 : Rd w8 xa ((addL l t).flatMap Rc.cs) := by rw [HB.out, List.flatMap_append, List.flatMap_cons]; simpa using hxR
              obtain ⟨L, hL⟩ : ∃ L, 0 + 0 + 1 + 0 = L := ⟨_, rfl⟩
              rw [hL] at hxl hxc hxn
              try rw [hL]
              have hsl := hid (show RcIs w8 (.slice xa L xc) (addL l t) from ⟨xa, xc, by rw [hxl], hxR2, by rw [hxl]; exact hxc, by rw [hxl]; exact hxn⟩)
              clear hxR hxR2 hxn hxc hxl hL ho8 hgrow hB8
              exact bodyPost_ret (v := .tuple #[.slice xa L xc, .int .i64 0]) (by simp [results, Try.results11, go_sem]) rfl ⟨_, by rw [HE.out], by rw [addV, if_pos HE.out]; exact hsl.out, HWB.out⟩
    
            · go_simp
              obtain ⟨v2, hv1⟩ : ∃ y9 : After V, y9.w = v1.w.alloc (.cells #[.int .i64 t.d, .int .i64 t.f, .int .i64 t.k, .int .i64 t.i, .int .i64 t.o] 24) := ⟨v1.on (b_alloc (Below.refl _ _) _), rfl⟩
              rw [← hv1]
              have hgx2 : Rd v2.w (some ⟨v1.w.heap.size, 0, none⟩) (Rc.cs t) := by rw [hv1]; exact rd_new _ _ _ rfl
              have hgl2 : v1.w.heap.size < v2.w.heap.size := by rw [hv1]; simp
              have sz2 : u2.w.heap.size ≤ v2.w.heap.size := by rw [hv1]; simpa using Nat.le_succ_of_le sz1
              have hown2 := own_eq (own_after hown1 (b_alloc (Below.refl _ _) _)) hv1
              have hne2 := own_far hown1 (v1.w.heap.size) (Nat.le_refl _)
              clear hv1
              refine hK _ v2 ?_
              clear hK K
              try simp only [Act.put, List.setIfInBounds_toArray, List.set_cons_zero, List.set_cons_succ]
              refine h_step 4 (by kernel_rfl) rfl (fun K hK => ?_)
              refine step_append_rd _ rfl (.tmp 47) (.tmp 50) 22 rfl u2.w.heap.size 24 i0 (.agg #[.int .i64 0, .int .i64 0, .int .i64 0, .int .i64 0, .int .i64 0]) 5 40 und22 hi hz0 hz1 hz2 rfl (by decide) _ _ _ (by rfl) hown2 _ 0 _ ((l.take 0).flatMap Rc.cs) (by rfl) (by rw [flat_len Rc.cs 5 Rc.c5, List.length_take, HN.out]; try omega) (.inl (by rw [HM.out]; rfl)) (Rc.ones _) (by unfold maxLen; omega) (by omega) sz2 ?_
              intro x3 w' hown3 hgrow
              have hgx3 := rd_grown hgx2 hgrow hne2
              have hgl3 := Nat.lt_of_lt_of_le hgl2 hgrow.size
              obtain ⟨v3, rfl, sz3⟩ := After.app u2 v2 hown2 hgrow sz2
              clear hgrow
              refine hK _ v3 ?_
              clear hK K
              try simp only [Act.put, List.setIfInBounds_toArray, List.set_cons_zero, List.set_cons_succ]
              refine h_step 7 (by kernel_rfl) rfl (fun K hK => ?_)
              refine step_append_rd _ rfl (.tmp 51) (.tmp 53) 22 rfl u2.w.heap.size 24 i0 (.agg #[.int .i64 0, .int .i64 0, .int .i64 0, .int .i64 0, .int .i64 0]) 5 40 und22 hi hz0 hz1 hz2 rfl (by decide) _ _ _ (by rfl) hown3 (some ⟨v1.w.heap.size, 0, none⟩) 1 _ (Rc.cs t) (by rfl) rfl hgx3 t.one (by unfold maxLen; omega) (by omega) sz3 ?_
              intro x4 w' hown4 hgrow
              obtain ⟨v4, rfl, sz4⟩ := After.app u2 v3 hown3 hgrow sz3
              clear hgrow
              refine hK _ v4 ?_
              clear hK K
              try simp only [Act.put, List.setIfInBounds_toArray, List.set_cons_zero, List.set_cons_succ]
              refine h_take 8 (x := ?_) rfl (by kernel_rfl) (by kernel_rfl) (by kernel_rfl) (fun _ _ _ h => h) (by rfl) (fun v => ?_) ?_
              rotate_left
              · (go_simp; try with_reducible rfl)
              try simp only [Act.put, List.setIfInBounds_toArray, List.set_cons_zero, List.set_cons_succ]
              refine wpAnyH_done (by kernel_rfl) ?_ _
              refine NoPanic.normal ?_
              have hwB : w.heap.size ≤ u2.w.heap.size := (WV.out u2).size
              go_wp2_with (at_builtin; refine wpList_append_rd _ rfl (.tmp 55) (.tmp 58) 22 rfl u2.w.heap.size 24 i0 (.agg #[.int .i64 0, .int .i64 0, .int .i64 0, .int .i64 0, .int .i64 0]) 5 40 und22 hi hz0 hz1 hz2 rfl (by decide) _ _ _ (by rfl) hown4 _ 0 _ ((l.drop 0).flatMap Rc.cs) (by rfl) (by rw [flat_len Rc.cs 5 Rc.c5, List.length_drop, HN.out]; try omega) (.inl (by rw [HM.out]; rfl)) (Rc.ones _) (by unfold maxLen; omega) (by omega) sz4 ?_; intro v8 w8 ho8 hgrow)
              have hB8 := own_below hown4 hgrow sz4
              have HWB := hid (Below.trans (WV.out v4) (hB8.mono hwB))
              obtain ⟨xa, xc, rfl, hxc, hxn, hxR, -⟩ := own_slice ho8
              have hxl : (addL l t).length = 0 + 0 + 1 + 0 := by rw [addL_len, HN.out]; try omega
              have hxR2 : Rd w8 xa ((addL l t).flatMap Rc.cs) := by rw [HB.out, List.flatMap_append, List.flatMap_cons]; simpa using hxR
              obtain ⟨L, hL⟩ : ∃ L, 0 + 0 + 1 + 0 = L := ⟨_, rfl⟩
              rw [hL] at hxl hxc hxn
              try rw [hL]
              have hsl := hid (show RcIs w8 (.slice xa L xc) (addL l t) from ⟨xa, xc, by rw [hxl], hxR2, by rw [hxl]; exact hxc, by rw [hxl]; exact hxn⟩)
              clear hxR hxR2 hxn hxc hxl hL ho8 hgrow hB8
              exact bodyPost_ret (v := .tuple #[.slice xa L xc, .int .i64 0]) (by simp [results, Try.results11, go_sem]) rfl ⟨_, by rw [HE.out], by rw [addV, if_pos HE.out]; exact hsl.out, HWB.out⟩
    
          · go_simp
            obtain ⟨v1, hv1⟩ : ∃ y9 : After V, y9.w = u2.w.alloc (.cells #[.int .i64 t.d, .int .i64 t.f, .int .i64 t.k, .int .i64 t.i, .int .i64 t.o] 24) := ⟨u2.on (b_alloc (Below.refl _ _) _), rfl⟩
            rw [← hv1]
            have hgx1 : Rd v1.w (some ⟨u2.w.heap.size, 0, none⟩) (Rc.cs t) := by rw [hv1]; exact rd_new _ _ _ rfl
            have hgl1 : u2.w.heap.size < v1.w.heap.size := by rw [hv1]; simp
            have sz1 : u2.w.heap.size ≤ v1.w.heap.size := by rw [hv1]; simp
            clear hv1
            refine hK _ v1 ?_
            clear hK K
            try simp only [Act.put, List.setIfInBounds_toArray, List.set_cons_zero, List.set_cons_succ]
            refine h_step 0 (by kernel_rfl) rfl (fun K hK => ?_)
            go_simp
            obtain ⟨v2, hv1⟩ : ∃ y9 : After V, y9.w = v1.w.alloc (.cells #[] 24) := ⟨v1.on (b_alloc (Below.refl _ _) _), rfl⟩
            rw [← hv1]
            have hown2 : v2.w.ownsRow u2.w.heap.size 24 5 (.slice (some ⟨v1.w.heap.size, 0, none⟩) 0 0) 0 [] := by rw [hv1]; exact World.ownsRow_made v1.w #[] 0 sz1 (by unfold maxLen; omega) (by simp)
            have sz2 : u2.w.heap.size ≤ v2.w.heap.size := by rw [hv1]; simpa using Nat.le_succ_of_le sz1
            have hgx2 : Rd v2.w (some ⟨u2.w.heap.size, 0, none⟩) (Rc.cs t) := by rw [hv1]; exact hgx1.alloc _
            have hne2 : ∀ g off, (some ⟨u2.w.heap.size, 0, none⟩ : Option Addr) = some ⟨g, off, none⟩ → (Value.slice (some ⟨v1.w.heap.size, 0, none⟩) 0 0).ownBlock ≠ some g := fun g off h => by have := hgl1; simp only [Option.some.injEq, Addr.mk.injEq] at h; simp only [Value.ownBlock, ne_eq, Option.some.injEq]; omega
            have hgl2 : u2.w.heap.size < v2.w.heap.size := Nat.lt_of_lt_of_le hgl1 (by rw [hv1]; simp)
            clear hv1
            refine hK _ v2 ?_
            clear hK K
            try simp only [Act.put, List.setIfInBounds_toArray, List.set_cons_zero, List.set_cons_succ]
            refine h_step 4 (by kernel_rfl) rfl (fun K hK => ?_)
            refine step_append_rd _ rfl (.tmp 47) (.tmp 50) 22 rfl u2.w.heap.size 24 i0 (.agg #[.int .i64 0, .int .i64 0, .int .i64 0, .int .i64 0, .int .i64 0]) 5 40 und22 hi hz0 hz1 hz2 rfl (by decide) _ _ _ (by rfl) hown2 _ 0 _ ((l.take 0).flatMap Rc.cs) (by rfl) (by rw [flat_len Rc.cs 5 Rc.c5, List.length_take, HN.out]; try omega) (.inl (by rw [HM.out]; rfl)) (Rc.ones _) (by unfold maxLen; omega) (by omega) sz2 ?_
            intro x3 w' hown3 hgrow
            have hgx3 := rd_grown hgx2 hgrow hne2
            have hgl3 := Nat.lt_of_lt_of_le hgl2 hgrow.size
            obtain ⟨v3, rfl, sz3⟩ := After.app u2 v2 hown2 hgrow sz2
            clear hgrow
            refine hK _ v3 ?_
            clear hK K
            try simp only [Act.put, List.setIfInBounds_toArray, List.set_cons_zero, List.set_cons_succ]
            refine h_step 7 (by kernel_rfl) rfl (fun K hK => ?_)
            refine step_append_rd _ rfl (.tmp 51) (.tmp 53) 22 rfl u2.w.heap.size 24 i0 (.agg #[.int .i64 0, .int .i64 0, .int .i64 0, .int .i64 0, .int .i64 0]) 5 40 und22 hi hz0 hz1 hz2 rfl (by decide) _ _ _ (by rfl) hown3 (some ⟨u2.w.heap.size, 0, none⟩) 1 _ (Rc.cs t) (by rfl) rfl hgx3 t.one (by unfold maxLen; omega) (by omega) sz3 ?_
            intro x4 w' hown4 hgrow
            obtain ⟨v4, rfl, sz4⟩ := After.app u2 v3 hown3 hgrow sz3
            clear hgrow
            refine hK _ v4 ?_
            clear hK K
            try simp only [Act.put, List.setIfInBounds_toArray, List.set_cons_zero, List.set_cons_succ]
            refine h_take 8 (x := ?_) rfl (by kernel_rfl) (by kernel_rfl) (by kernel_rfl) (fun _ _ _ h => h) (by rfl) (fun v => ?_) ?_
            rotate_left
            · (go_simp; try with_reducible rfl)
            try simp only [Act.put, List.setIfInBounds_toArray, List.set_cons_zero, List.set_cons_succ]
            refine wpAnyH_done (by kernel_rfl) ?_ _
            refine NoPanic.normal ?_
            have hwB : w.heap.size ≤ u2.w.heap.size := (WV.out u2).size
            go_wp2_with (at_builtin; refine wpList_append_rd _ rfl (.tmp 55) (.tmp 58) 22 rfl u2.w.heap.size 24 i0 (.agg #[.int .i64 0, .int .i64 0, .int .i64 0, .int .i64 0, .int .i64 0]) 5 40 und22 hi hz0 hz1 hz2 rfl (by decide) _ _ _ (by rfl) hown4 _ 0 _ ((l.drop 0).flatMap Rc.cs) (by rfl) (by rw [flat_len Rc.cs 5 Rc.c5, List.length_drop, HN.out]; try omega) (.inl (by rw [HM.out]; rfl)) (Rc.ones _) (by unfold maxLen; omega) (by omega) sz4 ?_; intro v8 w8 ho8 hgrow)
            have hB8 := own_below hown4 hgrow sz4
            have HWB := hid (Below.trans (WV.out v4) (hB8.mono hwB))
            obtain ⟨xa, xc, rfl, hxc, hxn, hxR, -⟩ := own_slice ho8
            have hxl : (addL l t).length = 0 + 0 + 1 + 0 := by rw [addL_len, HN.out]; try omega
            have hxR2 : Rd w8 xa ((addL l t).flatMap Rc.cs) := by rw [HB.out, List.flatMap_append, List.flatMap_cons]; simpa using hxR
            obtain ⟨L, hL⟩ : ∃ L, 0 + 0 + 1 + 0 = L := ⟨_, rfl⟩
            rw [hL] at hxl hxc hxn
            try rw [hL]
            have hsl := hid (show RcIs w8 (.slice xa L xc) (addL l t) from ⟨xa, xc, by rw [hxl], hxR2, by rw [hxl]; exact hxc, by rw [hxl]; exact hxn⟩)
            clear hxR hxR2 hxn hxc hxl hL ho8 hgrow hB8
            exact bodyPost_ret (v := .tuple #[.slice xa L xc, .int .i64 0]) (by simp [results, Try.results11, go_sem]) rfl ⟨_, by rw [HE.out], by rw [addV, if_pos HE.out]; exact hsl.out, HWB.out⟩
  

    · obtain ⟨blk, off, rfl, hbl⟩ := HR0.out.addr (by rw [flat_len Rc.cs 5 Rc.c5, HN.out]; omega)
      by_cases hcb : c = j
      · subst hcb
        obtain rfl : nn = c := by omega
        have HM := hid (show l.drop nn = [] from List.drop_of_length_le (by rw [HN.out]; omega))
        refine whole_region 9 rfl (by kernel_rfl) ?_
        intro u2
        refine h_take 1 (x := ?_) rfl (by kernel_rfl) (by kernel_rfl) (by kernel_rfl) (fun _ _ _ h => h) (by rfl) (fun v => ?_) ?_
        rotate_left
        · (go_simp; try with_reducible rfl)
        try simp only [Act.put, List.setIfInBounds_toArray, List.set_cons_zero, List.set_cons_succ]
        refine h_take 2 (x := ?_) rfl (by kernel_rfl) (by kernel_rfl) (by kernel_rfl) (fun _ _ _ h => h) (by rfl) (fun v => ?_) ?_
        rotate_left
        · (go_simp; try with_reducible rfl)
        try simp only [Act.put, List.setIfInBounds_toArray, List.set_cons_zero, List.set_cons_succ]
        refine h_take 3 (x := ?_) rfl (by kernel_rfl) (by kernel_rfl) (by kernel_rfl) (fun _ _ _ h => h) (by rfl) (fun v => ?_) ?_
        rotate_left
        · (go_simp; try with_reducible rfl)
        try simp only [Act.put, List.setIfInBounds_toArray, List.set_cons_zero, List.set_cons_succ]
        refine h_take 5 (x := ?_) rfl (by kernel_rfl) (by kernel_rfl) (by kernel_rfl) (fun _ _ _ h => h) (by rfl) (fun v => ?_) ?_
        rotate_left
        · (go_simp; try with_reducible rfl)
        try simp only [Act.put, List.setIfInBounds_toArray, List.set_cons_zero, List.set_cons_succ]
        refine h_two 0 6 (by kernel_rfl) rfl rfl (fun K hK => ?_) (fun K hK => ?_)
        · go_simp
          obtain ⟨v1, hv1⟩ : ∃ y9 : After V, y9.w = u2.w.alloc (.cells #[] 24) := ⟨u2.on (b_alloc (Below.refl _ _) _), rfl⟩
          rw [← hv1]
          have hown1 : v1.w.ownsRow u2.w.heap.size 24 5 (.slice (some ⟨u2.w.heap.size, 0, none⟩) 0 0) 0 [] := by rw [hv1]; exact World.ownsRow_made u2.w #[] 0 (Nat.le_refl _) (by unfold maxLen; omega) (by simp)
          have sz1 : u2.w.heap.size ≤ v1.w.heap.size := by rw [hv1]; simp
          clear hv1
          refine hK _ v1 ?_
          clear hK K
          try simp only [Act.put, List.setIfInBounds_toArray, List.set_cons_zero, List.set_cons_succ]
          refine h_two 4 6 (by kernel_rfl) rfl rfl (fun K hK => ?_) (fun K hK => ?_)
          · refine step_append_rd _ rfl (.tmp 47) (.tmp 50) 22 rfl u2.w.heap.size 24 i0 (.agg #[.int .i64 0, .int .i64 0, .int .i64 0, .int .i64 0, .int .i64 0]) 5 40 und22 hi hz0 hz1 hz2 rfl (by decide) _ _ _ (by rfl) hown1 _ nn _ ((l.take nn).flatMap Rc.cs) (by rfl) (by rw [flat_len Rc.cs 5 Rc.c5, List.length_take, HN.out]; try omega) ((RV.out v1).take (nn * 5) |> fun h => by rw [flat_takek Rc.cs 5 Rc.c5] at h; exact h) (Rc.ones _) (by unfold maxLen; omega) (by omega) sz1 ?_
            intro x2 w' hown2 hgrow
            obtain ⟨v2, rfl, sz2⟩ := After.app u2 v1 hown1 hgrow sz1
            clear hgrow
            refine hK _ v2 ?_
            clear hK K
            try simp only [Act.put, List.setIfInBounds_toArray, List.set_cons_zero, List.set_cons_succ]
            refine h_step 6 (by kernel_rfl) rfl (fun K hK => ?_)
            go_simp
            obtain ⟨v3, hv1⟩ : ∃ y9 : After V, y9.w = v2.w.alloc (.cells #[.int .i64 t.d, .int .i64 t.f, .int .i64 t.k, .int .i64 t.i, .int .i64 t.o] 24) := ⟨v2.on (b_alloc (Below.refl _ _) _), rfl⟩
            rw [← hv1]
            have hgx3 : Rd v3.w (some ⟨v2.w.heap.size, 0, none⟩) (Rc.cs t) := by rw [hv1]; exact rd_new _ _ _ rfl
            have hgl3 : v2.w.heap.size < v3.w.heap.size := by rw [hv1]; simp
            have sz3 : u2.w.heap.size ≤ v3.w.heap.size := by rw [hv1]; simpa using Nat.le_succ_of_le sz2
            have hown3 := own_eq (own_after hown2 (b_alloc (Below.refl _ _) _)) hv1
            have hne3 := own_far hown2 (v2.w.heap.size) (Nat.le_refl _)
            clear hv1
            refine hK _ v3 ?_
            clear hK K
            try simp only [Act.put, List.setIfInBounds_toArray, List.set_cons_zero, List.set_cons_succ]
            refine h_step 7 (by kernel_rfl) rfl (fun K hK => ?_)
            refine step_append_rd _ rfl (.tmp 51) (.tmp 53) 22 rfl u2.w.heap.size 24 i0 (.agg #[.int .i64 0, .int .i64 0, .int .i64 0, .int .i64 0, .int .i64 0]) 5 40 und22 hi hz0 hz1 hz2 rfl (by decide) _ _ _ (by rfl) hown3 (some ⟨v2.w.heap.size, 0, none⟩) 1 _ (Rc.cs t) (by rfl) rfl hgx3 t.one (by unfold maxLen; omega) (by omega) sz3 ?_
            intro x4 w' hown4 hgrow
            obtain ⟨v4, rfl, sz4⟩ := After.app u2 v3 hown3 hgrow sz3
            clear hgrow
            refine hK _ v4 ?_
            clear hK K
            try simp only [Act.put, List.setIfInBounds_toArray, List.set_cons_zero, List.set_cons_succ]
            refine h_take 8 (x := ?_) rfl (by kernel_rfl) (by kernel_rfl) (by kernel_rfl) (fun _ _ _ h => h) (by rfl) (fun v => ?_) ?_
            rotate_left
            · (go_simp; try with_reducible rfl)
            try simp only [Act.put, List.setIfInBounds_toArray, List.set_cons_zero, List.set_cons_succ]
            refine wpAnyH_done (by kernel_rfl) ?_ _
            refine NoPanic.normal ?_
            have hwB : w.heap.size ≤ u2.w.heap.size := (WV.out u2).size
            go_wp2_with (at_builtin; refine wpList_append_rd _ rfl (.tmp 55) (.tmp 58) 22 rfl u2.w.heap.size 24 i0 (.agg #[.int .i64 0, .int .i64 0, .int .i64 0, .int .i64 0, .int .i64 0]) 5 40 und22 hi hz0 hz1 hz2 rfl (by decide) _ _ _ (by rfl) hown4 _ 0 _ ((l.drop nn).flatMap Rc.cs) (by rfl) (by rw [flat_len Rc.cs 5 Rc.c5, List.length_drop, HN.out]; try omega) (.inl (by rw [HM.out]; rfl)) (Rc.ones _) (by unfold maxLen; omega) (by omega) sz4 ?_; intro v8 w8 ho8 hgrow)
            have hB8 := own_below hown4 hgrow sz4
            have HWB := hid (Below.trans (WV.out v4) (hB8.mono hwB))
            obtain ⟨xa, xc, rfl, hxc, hxn, hxR, -⟩ := own_slice ho8
            have hxl : (addL l t).length = 0 + nn + 1 + 0 := by rw [addL_len, HN.out]; try omega
            have hxR2 : Rd w8 xa ((addL l t).flatMap Rc.cs) := by rw [HB.out, List.flatMap_append, List.flatMap_cons]; simpa using hxR
            obtain ⟨L, hL⟩ : ∃ L, 0 + nn + 1 + 0 = L := ⟨_, rfl⟩
            rw [hL] at hxl hxc hxn
            try rw [hL]
            have hsl := hid (show RcIs w8 (.slice xa L xc) (addL l t) from ⟨xa, xc, by rw [hxl], hxR2, by rw [hxl]; exact hxc, by rw [hxl]; exact hxn⟩)
            clear hxR hxR2 hxn hxc hxl hL ho8 hgrow hB8
            exact bodyPost_ret (v := .tuple #[.slice xa L xc, .int .i64 0]) (by simp [results, Try.results11, go_sem]) rfl ⟨_, by rw [HE.out], by rw [addV, if_pos HE.out]; exact hsl.out, HWB.out⟩
    
          · go_simp
            obtain ⟨v2, hv1⟩ : ∃ y9 : After V, y9.w = v1.w.alloc (.cells #[.int .i64 t.d, .int .i64 t.f, .int .i64 t.k, .int .i64 t.i, .int .i64 t.o] 24) := ⟨v1.on (b_alloc (Below.refl _ _) _), rfl⟩
            rw [← hv1]
            have hgx2 : Rd v2.w (some ⟨v1.w.heap.size, 0, none⟩) (Rc.cs t) := by rw [hv1]; exact rd_new _ _ _ rfl
            have hgl2 : v1.w.heap.size < v2.w.heap.size := by rw [hv1]; simp
            have sz2 : u2.w.heap.size ≤ v2.w.heap.size := by rw [hv1]; simpa using Nat.le_succ_of_le sz1
            have hown2 := own_eq (own_after hown1 (b_alloc (Below.refl _ _) _)) hv1
            have hne2 := own_far hown1 (v1.w.heap.size) (Nat.le_refl _)
            clear hv1
            refine hK _ v2 ?_
            clear hK K
            try simp only [Act.put, List.setIfInBounds_toArray, List.set_cons_zero, List.set_cons_succ]
            refine h_step 4 (by kernel_rfl) rfl (fun K hK => ?_)
            refine step_append_rd _ rfl (.tmp 47) (.tmp 50) 22 rfl u2.w.heap.size 24 i0 (.agg #[.int .i64 0, .int .i64 0, .int .i64 0, .int .i64 0, .int .i64 0]) 5 40 und22 hi hz0 hz1 hz2 rfl (by decide) _ _ _ (by rfl) hown2 _ nn _ ((l.take nn).flatMap Rc.cs) (by rfl) (by rw [flat_len Rc.cs 5 Rc.c5, List.length_take, HN.out]; try omega) ((RV.out v2).take (nn * 5) |> fun h => by rw [flat_takek Rc.cs 5 Rc.c5] at h; exact h) (Rc.ones _) (by unfold maxLen; omega) (by omega) sz2 ?_
            intro x3 w' hown3 hgrow
            have hgx3 := rd_grown hgx2 hgrow hne2
            have hgl3 := Nat.lt_of_lt_of_le hgl2 hgrow.size
            obtain ⟨v3, rfl, sz3⟩ := After.app u2 v2 hown2 hgrow sz2
            clear hgrow
            refine hK _ v3 ?_
            clear hK K
            try simp only [Act.put, List.setIfInBounds_toArray, List.set_cons_zero, List.set_cons_succ]
            refine h_step 7 (by kernel_rfl) rfl (fun K hK => ?_)
            refine step_append_rd _ rfl (.tmp 51) (.tmp 53) 22 rfl u2.w.heap.size 24 i0 (.agg #[.int .i64 0, .int .i64 0, .int .i64 0, .int .i64 0, .int .i64 0]) 5 40 und22 hi hz0 hz1 hz2 rfl (by decide) _ _ _ (by rfl) hown3 (some ⟨v1.w.heap.size, 0, none⟩) 1 _ (Rc.cs t) (by rfl) rfl hgx3 t.one (by unfold maxLen; omega) (by omega) sz3 ?_
            intro x4 w' hown4 hgrow
            obtain ⟨v4, rfl, sz4⟩ := After.app u2 v3 hown3 hgrow sz3
            clear hgrow
            refine hK _ v4 ?_
            clear hK K
            try simp only [Act.put, List.setIfInBounds_toArray, List.set_cons_zero, List.set_cons_succ]
            refine h_take 8 (x := ?_) rfl (by kernel_rfl) (by kernel_rfl) (by kernel_rfl) (fun _ _ _ h => h) (by rfl) (fun v => ?_) ?_
            rotate_left
            · (go_simp; try with_reducible rfl)
            try simp only [Act.put, List.setIfInBounds_toArray, List.set_cons_zero, List.set_cons_succ]
            refine wpAnyH_done (by kernel_rfl) ?_ _
            refine NoPanic.normal ?_
            have hwB : w.heap.size ≤ u2.w.heap.size := (WV.out u2).size
            go_wp2_with (at_builtin; refine wpList_append_rd _ rfl (.tmp 55) (.tmp 58) 22 rfl u2.w.heap.size 24 i0 (.agg #[.int .i64 0, .int .i64 0, .int .i64 0, .int .i64 0, .int .i64 0]) 5 40 und22 hi hz0 hz1 hz2 rfl (by decide) _ _ _ (by rfl) hown4 _ 0 _ ((l.drop nn).flatMap Rc.cs) (by rfl) (by rw [flat_len Rc.cs 5 Rc.c5, List.length_drop, HN.out]; try omega) (.inl (by rw [HM.out]; rfl)) (Rc.ones _) (by unfold maxLen; omega) (by omega) sz4 ?_; intro v8 w8 ho8 hgrow)
            have hB8 := own_below hown4 hgrow sz4
            have HWB := hid (Below.trans (WV.out v4) (hB8.mono hwB))
            obtain ⟨xa, xc, rfl, hxc, hxn, hxR, -⟩ := own_slice ho8
            have hxl : (addL l t).length = 0 + nn + 1 + 0 := by rw [addL_len, HN.out]; try omega
            have hxR2 : Rd w8 xa ((addL l t).flatMap Rc.cs) := by rw [HB.out, List.flatMap_append, List.flatMap_cons]; simpa using hxR
            obtain ⟨L, hL⟩ : ∃ L, 0 + nn + 1 + 0 = L := ⟨_, rfl⟩
            rw [hL] at hxl hxc hxn
            try rw [hL]
            have hsl := hid (show RcIs w8 (.slice xa L xc) (addL l t) from ⟨xa, xc, by rw [hxl], hxR2, by rw [hxl]; exact hxc, by rw [hxl]; exact hxn⟩)
            clear hxR hxR2 hxn hxc hxl hL ho8 hgrow hB8
            exact bodyPost_ret (v := .tuple #[.slice xa L xc, .int .i64 0]) (by simp [results, Try.results11, go_sem]) rfl ⟨_, by rw [HE.out], by rw [addV, if_pos HE.out]; exact hsl.out, HWB.out⟩
    
        · go_simp
          obtain ⟨v1, hv1⟩ : ∃ y9 : After V, y9.w = u2.w.alloc (.cells #[.int .i64 t.d, .int .i64 t.f, .int .i64 t.k, .int .i64 t.i, .int .i64 t.o] 24) := ⟨u2.on (b_alloc (Below.refl _ _) _), rfl⟩
          rw [← hv1]
          have hgx1 : Rd v1.w (some ⟨u2.w.heap.size, 0, none⟩) (Rc.cs t) := by rw [hv1]; exact rd_new _ _ _ rfl
          have hgl1 : u2.w.heap.size < v1.w.heap.size := by rw [hv1]; simp
          have sz1 : u2.w.heap.size ≤ v1.w.heap.size := by rw [hv1]; simp
          clear hv1
          refine hK _ v1 ?_
          clear hK K
          try simp only [Act.put, List.setIfInBounds_toArray, List.set_cons_zero, List.set_cons_succ]
          refine h_step 0 (by kernel_rfl) rfl (fun K hK => ?_)
          go_simp
          obtain ⟨v2, hv1⟩ : ∃ y9 : After V, y9.w = v1.w.alloc (.cells #[] 24) := ⟨v1.on (b_alloc (Below.refl _ _) _), rfl⟩
          rw [← hv1]
          have hown2 : v2.w.ownsRow u2.w.heap.size 24 5 (.slice (some ⟨v1.w.heap.size, 0, none⟩) 0 0) 0 [] := by rw [hv1]; exact World.ownsRow_made v1.w #[] 0 sz1 (by unfold maxLen; omega) (by simp)
          have sz2 : u2.w.heap.size ≤ v2.w.heap.size := by rw [hv1]; simpa using Nat.le_succ_of_le sz1
          have hgx2 : Rd v2.w (some ⟨u2.w.heap.size, 0, none⟩) (Rc.cs t) := by rw [hv1]; exact hgx1.alloc _
          have hne2 : ∀ g off, (some ⟨u2.w.heap.size, 0, none⟩ : Option Addr) = some ⟨g, off, none⟩ → (Value.slice (some ⟨v1.w.heap.size, 0, none⟩) 0 0).ownBlock ≠ some g := fun g off h => by have := hgl1; simp only [Option.some.injEq, Addr.mk.injEq] at h; simp only [Value.ownBlock, ne_eq, Option.some.injEq]; omega
          have hgl2 : u2.w.heap.size < v2.w.heap.size := Nat.lt_of_lt_of_le hgl1 (by rw [hv1]; simp)
          clear hv1
          refine hK _ v2 ?_
          clear hK K
          try simp only [Act.put, List.setIfInBounds_toArray, List.set_cons_zero, List.set_cons_succ]
          refine h_step 4 (by kernel_rfl) rfl (fun K hK => ?_)
          refine step_append_rd _ rfl (.tmp 47) (.tmp 50) 22 rfl u2.w.heap.size 24 i0 (.agg #[.int .i64 0, .int .i64 0, .int .i64 0, .int .i64 0, .int .i64 0]) 5 40 und22 hi hz0 hz1 hz2 rfl (by decide) _ _ _ (by rfl) hown2 _ nn _ ((l.take nn).flatMap Rc.cs) (by rfl) (by rw [flat_len Rc.cs 5 Rc.c5, List.length_take, HN.out]; try omega) ((RV.out v2).take (nn * 5) |> fun h => by rw [flat_takek Rc.cs 5 Rc.c5] at h; exact h) (Rc.ones _) (by unfold maxLen; omega) (by omega) sz2 ?_
          intro x3 w' hown3 hgrow
          have hgx3 := rd_grown hgx2 hgrow hne2
          have hgl3 := Nat.lt_of_lt_of_le hgl2 hgrow.size
          obtain ⟨v3, rfl, sz3⟩ := After.app u2 v2 hown2 hgrow sz2
          clear hgrow
          refine hK _ v3 ?_
          clear hK K
          try simp only [Act.put, List.setIfInBounds_toArray, List.set_cons_zero, List.set_cons_succ]
          refine h_step 7 (by kernel_rfl) rfl (fun K hK => ?_)
          refine step_append_rd _ rfl (.tmp 51) (.tmp 53) 22 rfl u2.w.heap.size 24 i0 (.agg #[.int .i64 0, .int .i64 0, .int .i64 0, .int .i64 0, .int .i64 0]) 5 40 und22 hi hz0 hz1 hz2 rfl (by decide) _ _ _ (by rfl) hown3 (some ⟨u2.w.heap.size, 0, none⟩) 1 _ (Rc.cs t) (by rfl) rfl hgx3 t.one (by unfold maxLen; omega) (by omega) sz3 ?_
          intro x4 w' hown4 hgrow
          obtain ⟨v4, rfl, sz4⟩ := After.app u2 v3 hown3 hgrow sz3
          clear hgrow
          refine hK _ v4 ?_
          clear hK K
          try simp only [Act.put, List.setIfInBounds_toArray, List.set_cons_zero, List.set_cons_succ]
          refine h_take 8 (x := ?_) rfl (by kernel_rfl) (by kernel_rfl) (by kernel_rfl) (fun _ _ _ h => h) (by rfl) (fun v => ?_) ?_
          rotate_left
          · (go_simp; try with_reducible rfl)
          try simp only [Act.put, List.setIfInBounds_toArray, List.set_cons_zero, List.set_cons_succ]
          refine wpAnyH_done (by kernel_rfl) ?_ _
          refine NoPanic.normal ?_
          have hwB : w.heap.size ≤ u2.w.heap.size := (WV.out u2).size
          go_wp2_with (at_builtin; refine wpList_append_rd _ rfl (.tmp 55) (.tmp 58) 22 rfl u2.w.heap.size 24 i0 (.agg #[.int .i64 0, .int .i64 0, .int .i64 0, .int .i64 0, .int .i64 0]) 5 40 und22 hi hz0 hz1 hz2 rfl (by decide) _ _ _ (by rfl) hown4 _ 0 _ ((l.drop nn).flatMap Rc.cs) (by rfl) (by rw [flat_len Rc.cs 5 Rc.c5, List.length_drop, HN.out]; try omega) (.inl (by rw [HM.out]; rfl)) (Rc.ones _) (by unfold maxLen; omega) (by omega) sz4 ?_; intro v8 w8 ho8 hgrow)
          have hB8 := own_below hown4 hgrow sz4
          have HWB := hid (Below.trans (WV.out v4) (hB8.mono hwB))
          obtain ⟨xa, xc, rfl, hxc, hxn, hxR, -⟩ := own_slice ho8
          have hxl : (addL l t).length = 0 + nn + 1 + 0 := by rw [addL_len, HN.out]; try omega
          have hxR2 : Rd w8 xa ((addL l t).flatMap Rc.cs) := by rw [HB.out, List.flatMap_append, List.flatMap_cons]; simpa using hxR
          obtain ⟨L, hL⟩ : ∃ L, 0 + nn + 1 + 0 = L := ⟨_, rfl⟩
          rw [hL] at hxl hxc hxn
          try rw [hL]
          have hsl := hid (show RcIs w8 (.slice xa L xc) (addL l t) from ⟨xa, xc, by rw [hxl], hxR2, by rw [hxl]; exact hxc, by rw [hxl]; exact hxn⟩)
          clear hxR hxR2 hxn hxc hxl hL ho8 hgrow hB8
          exact bodyPost_ret (v := .tuple #[.slice xa L xc, .int .i64 0]) (by simp [results, Try.results11, go_sem]) rfl ⟨_, by rw [HE.out], by rw [addV, if_pos HE.out]; exact hsl.out, HWB.out⟩
  

      · skip
        refine whole_region 9 rfl (by kernel_rfl) ?_
        intro u2
        refine h_take 1 (x := ?_) rfl (by kernel_rfl) (by kernel_rfl) (by kernel_rfl) (fun _ _ _ h => h) (by rfl) (fun v => ?_) ?_
        rotate_left
        · (go_simp; try with_reducible rfl)
        try simp only [Act.put, List.setIfInBounds_toArray, List.set_cons_zero, List.set_cons_succ]
        refine h_take 2 (x := ?_) rfl (by kernel_rfl) (by kernel_rfl) (by kernel_rfl) (fun _ _ _ h => h) (by rfl) (fun v => ?_) ?_
        rotate_left
        · (go_simp; try with_reducible rfl)
        try simp only [Act.put, List.setIfInBounds_toArray, List.set_cons_zero, List.set_cons_succ]
        refine h_take 3 (x := ?_) rfl (by kernel_rfl) (by kernel_rfl) (by kernel_rfl) (fun _ _ _ h => h) (by rfl) (fun v => ?_) ?_
        rotate_left
        · (go_simp; try with_reducible rfl)
        try simp only [Act.put, List.setIfInBounds_toArray, List.set_cons_zero, List.set_cons_succ]
        refine h_take 5 (x := ?_) rfl (by kernel_rfl) (by kernel_rfl) (by kernel_rfl) (fun _ _ _ h => h) (by rfl) (fun v => ?_) ?_
        rotate_left
        · (go_simp; try with_reducible rfl)
        try simp only [Act.put, List.setIfInBounds_toArray, List.set_cons_zero, List.set_cons_succ]
        refine h_two 0 6 (by kernel_rfl) rfl rfl (fun K hK => ?_) (fun K hK => ?_)
        · go_simp
          obtain ⟨v1, hv1⟩ : ∃ y9 : After V, y9.w = u2.w.alloc (.cells #[] 24) := ⟨u2.on (b_alloc (Below.refl _ _) _), rfl⟩
          rw [← hv1]
          have hown1 : v1.w.ownsRow u2.w.heap.size 24 5 (.slice (some ⟨u2.w.heap.size, 0, none⟩) 0 0) 0 [] := by rw [hv1]; exact World.ownsRow_made u2.w #[] 0 (Nat.le_refl _) (by unfold maxLen; omega) (by simp)
          have sz1 : u2.w.heap.size ≤ v1.w.heap.size := by rw [hv1]; simp
          clear hv1
          refine hK _ v1 ?_
          clear hK K
          try simp only [Act.put, List.setIfInBounds_toArray, List.set_cons_zero, List.set_cons_succ]
          refine h_two 4 6 (by kernel_rfl) rfl rfl (fun K hK => ?_) (fun K hK => ?_)
          · refine step_append_rd _ rfl (.tmp 47) (.tmp 50) 22 rfl u2.w.heap.size 24 i0 (.agg #[.int .i64 0, .int .i64 0, .int .i64 0, .int .i64 0, .int .i64 0]) 5 40 und22 hi hz0 hz1 hz2 rfl (by decide) _ _ _ (by rfl) hown1 _ j _ ((l.take j).flatMap Rc.cs) (by rfl) (by rw [flat_len Rc.cs 5 Rc.c5, List.length_take, HN.out]; try omega) ((RV.out v1).take (j * 5) |> fun h => by rw [flat_takek Rc.cs 5 Rc.c5] at h; exact h) (Rc.ones _) (by unfold maxLen; omega) (by omega) sz1 ?_
            intro x2 w' hown2 hgrow
            obtain ⟨v2, rfl, sz2⟩ := After.app u2 v1 hown1 hgrow sz1
            clear hgrow
            refine hK _ v2 ?_
            clear hK K
            try simp only [Act.put, List.setIfInBounds_toArray, List.set_cons_zero, List.set_cons_succ]
            refine h_step 6 (by kernel_rfl) rfl (fun K hK => ?_)
            go_simp
            obtain ⟨v3, hv1⟩ : ∃ y9 : After V, y9.w = v2.w.alloc (.cells #[.int .i64 t.d, .int .i64 t.f, .int .i64 t.k, .int .i64 t.i, .int .i64 t.o] 24) := ⟨v2.on (b_alloc (Below.refl _ _) _), rfl⟩
            rw [← hv1]
            have hgx3 : Rd v3.w (some ⟨v2.w.heap.size, 0, none⟩) (Rc.cs t) := by rw [hv1]; exact rd_new _ _ _ rfl
            have hgl3 : v2.w.heap.size < v3.w.heap.size := by rw [hv1]; simp
            have sz3 : u2.w.heap.size ≤ v3.w.heap.size := by rw [hv1]; simpa using Nat.le_succ_of_le sz2
            have hown3 := own_eq (own_after hown2 (b_alloc (Below.refl _ _) _)) hv1
            have hne3 := own_far hown2 (v2.w.heap.size) (Nat.le_refl _)
            clear hv1
            refine hK _ v3 ?_
            clear hK K
            try simp only [Act.put, List.setIfInBounds_toArray, List.set_cons_zero, List.set_cons_succ]
            refine h_step 7 (by kernel_rfl) rfl (fun K hK => ?_)
            refine step_append_rd _ rfl (.tmp 51) (.tmp 53) 22 rfl u2.w.heap.size 24 i0 (.agg #[.int .i64 0, .int .i64 0, .int .i64 0, .int .i64 0, .int .i64 0]) 5 40 und22 hi hz0 hz1 hz2 rfl (by decide) _ _ _ (by rfl) hown3 (some ⟨v2.w.heap.size, 0, none⟩) 1 _ (Rc.cs t) (by rfl) rfl hgx3 t.one (by unfold maxLen; omega) (by omega) sz3 ?_
            intro x4 w' hown4 hgrow
            obtain ⟨v4, rfl, sz4⟩ := After.app u2 v3 hown3 hgrow sz3
            clear hgrow
            refine hK _ v4 ?_
            clear hK K
            try simp only [Act.put, List.setIfInBounds_toArray, List.set_cons_zero, List.set_cons_succ]
            refine h_take 8 (x := ?_) rfl (by kernel_rfl) (by kernel_rfl) (by kernel_rfl) (fun _ _ _ h => h) (by rfl) (fun v => ?_) ?_
            rotate_left
            · (go_simp; try with_reducible rfl)
            try simp only [Act.put, List.setIfInBounds_toArray, List.set_cons_zero, List.set_cons_succ]
            refine wpAnyH_done (by kernel_rfl) ?_ _
            refine NoPanic.normal ?_
            have hwB : w.heap.size ≤ u2.w.heap.size := (WV.out u2).size
            go_wp2_with (at_builtin; refine wpList_append_rd _ rfl (.tmp 55) (.tmp 58) 22 rfl u2.w.heap.size 24 i0 (.agg #[.int .i64 0, .int .i64 0, .int .i64 0, .int .i64 0, .int .i64 0]) 5 40 und22 hi hz0 hz1 hz2 rfl (by decide) _ _ _ (by rfl) hown4 _ (nn - j) _ ((l.drop j).flatMap Rc.cs) (by rfl) (by rw [flat_len Rc.cs 5 Rc.c5, List.length_drop, HN.out]; try omega) ((RV.out v4).drop (j * 5) |> fun h => by rw [flat_dropk Rc.cs 5 Rc.c5] at h; exact h) (Rc.ones _) (by unfold maxLen; omega) (by omega) sz4 ?_; intro v8 w8 ho8 hgrow)
            have hB8 := own_below hown4 hgrow sz4
            have HWB := hid (Below.trans (WV.out v4) (hB8.mono hwB))
            obtain ⟨xa, xc, rfl, hxc, hxn, hxR, -⟩ := own_slice ho8
            have hxl : (addL l t).length = 0 + j + 1 + (nn - j) := by rw [addL_len, HN.out]; try omega
            have hxR2 : Rd w8 xa ((addL l t).flatMap Rc.cs) := by rw [HB.out, List.flatMap_append, List.flatMap_cons]; simpa using hxR
            obtain ⟨L, hL⟩ : ∃ L, 0 + j + 1 + (nn - j) = L := ⟨_, rfl⟩
            rw [hL] at hxl hxc hxn
            try rw [hL]
            have hsl := hid (show RcIs w8 (.slice xa L xc) (addL l t) from ⟨xa, xc, by rw [hxl], hxR2, by rw [hxl]; exact hxc, by rw [hxl]; exact hxn⟩)
            clear hxR hxR2 hxn hxc hxl hL ho8 hgrow hB8
            exact bodyPost_ret (v := .tuple #[.slice xa L xc, .int .i64 0]) (by simp [results, Try.results11, go_sem]) rfl ⟨_, by rw [HE.out], by rw [addV, if_pos HE.out]; exact hsl.out, HWB.out⟩
    
          · go_simp
            obtain ⟨v2, hv1⟩ : ∃ y9 : After V, y9.w = v1.w.alloc (.cells #[.int .i64 t.d, .int .i64 t.f, .int .i64 t.k, .int .i64 t.i, .int .i64 t.o] 24) := ⟨v1.on (b_alloc (Below.refl _ _) _), rfl⟩
            rw [← hv1]
            have hgx2 : Rd v2.w (some ⟨v1.w.heap.size, 0, none⟩) (Rc.cs t) := by rw [hv1]; exact rd_new _ _ _ rfl
            have hgl2 : v1.w.heap.size < v2.w.heap.size := by rw [hv1]; simp
            have sz2 : u2.w.heap.size ≤ v2.w.heap.size := by rw [hv1]; simpa using Nat.le_succ_of_le sz1
            have hown2 := own_eq (own_after hown1 (b_alloc (Below.refl _ _) _)) hv1
            have hne2 := own_far hown1 (v1.w.heap.size) (Nat.le_refl _)
            clear hv1
            refine hK _ v2 ?_
            clear hK K
            try simp only [Act.put, List.setIfInBounds_toArray, List.set_cons_zero, List.set_cons_succ]
            refine h_step 4 (by kernel_rfl) rfl (fun K hK => ?_)
            refine step_append_rd _ rfl (.tmp 47) (.tmp 50) 22 rfl u2.w.heap.size 24 i0 (.agg #[.int .i64 0, .int .i64 0, .int .i64 0, .int .i64 0, .int .i64 0]) 5 40 und22 hi hz0 hz1 hz2 rfl (by decide) _ _ _ (by rfl) hown2 _ j _ ((l.take j).flatMap Rc.cs) (by rfl) (by rw [flat_len Rc.cs 5 Rc.c5, List.length_take, HN.out]; try omega) ((RV.out v2).take (j * 5) |> fun h => by rw [flat_takek Rc.cs 5 Rc.c5] at h; exact h) (Rc.ones _) (by unfold maxLen; omega) (by omega) sz2 ?_
            intro x3 w' hown3 hgrow
            have hgx3 := rd_grown hgx2 hgrow hne2
            have hgl3 := Nat.lt_of_lt_of_le hgl2 hgrow.size
            obtain ⟨v3, rfl, sz3⟩ := After.app u2 v2 hown2 hgrow sz2
            clear hgrow
            refine hK _ v3 ?_
            clear hK K
            try simp only [Act.put, List.setIfInBounds_toArray, List.set_cons_zero, List.set_cons_succ]
            refine h_step 7 (by kernel_rfl) rfl (fun K hK => ?_)
            refine step_append_rd _ rfl (.tmp 51) (.tmp 53) 22 rfl u2.w.heap.size 24 i0 (.agg #[.int .i64 0, .int .i64 0, .int .i64 0, .int .i64 0, .int .i64 0]) 5 40 und22 hi hz0 hz1 hz2 rfl (by decide) _ _ _ (by rfl) hown3 (some ⟨v1.w.heap.size, 0, none⟩) 1 _ (Rc.cs t) (by rfl) rfl hgx3 t.one (by unfold maxLen; omega) (by omega) sz3 ?_
            intro x4 w' hown4 hgrow
            obtain ⟨v4, rfl, sz4⟩ := After.app u2 v3 hown3 hgrow sz3
            clear hgrow
            refine hK _ v4 ?_
            clear hK K
            try simp only [Act.put, List.setIfInBounds_toArray, List.set_cons_zero, List.set_cons_succ]
            refine h_take 8 (x := ?_) rfl (by kernel_rfl) (by kernel_rfl) (by kernel_rfl) (fun _ _ _ h => h) (by rfl) (fun v => ?_) ?_
            rotate_left
            · (go_simp; try with_reducible rfl)
            try simp only [Act.put, List.setIfInBounds_toArray, List.set_cons_zero, List.set_cons_succ]
            refine wpAnyH_done (by kernel_rfl) ?_ _
            refine NoPanic.normal ?_
            have hwB : w.heap.size ≤ u2.w.heap.size := (WV.out u2).size
            go_wp2_with (at_builtin; refine wpList_append_rd _ rfl (.tmp 55) (.tmp 58) 22 rfl u2.w.heap.size 24 i0 (.agg #[.int .i64 0, .int .i64 0, .int .i64 0, .int .i64 0, .int .i64 0]) 5 40 und22 hi hz0 hz1 hz2 rfl (by decide) _ _ _ (by rfl) hown4 _ (nn - j) _ ((l.drop j).flatMap Rc.cs) (by rfl) (by rw [flat_len Rc.cs 5 Rc.c5, List.length_drop, HN.out]; try omega) ((RV.out v4).drop (j * 5) |> fun h => by rw [flat_dropk Rc.cs 5 Rc.c5] at h; exact h) (Rc.ones _) (by unfold maxLen; omega) (by omega) sz4 ?_; intro v8 w8 ho8 hgrow)
            have hB8 := own_below hown4 hgrow sz4
            have HWB := hid (Below.trans (WV.out v4) (hB8.mono hwB))
            obtain ⟨xa, xc, rfl, hxc, hxn, hxR, -⟩ := own_slice ho8
            have hxl : (addL l t).length = 0 + j + 1 + (nn - j) := by rw [addL_len, HN.out]; try omega
            have hxR2 : Rd w8 xa ((addL l t).flatMap Rc.cs) := by rw [HB.out, List.flatMap_append, List.flatMap_cons]; simpa using hxR
            obtain ⟨L, hL⟩ : ∃ L, 0 + j + 1 + (nn - j) = L := ⟨_, rfl⟩
            rw [hL] at hxl hxc hxn
            try rw [hL]
            have hsl := hid (show RcIs w8 (.slice xa L xc) (addL l t) from ⟨xa, xc, by rw [hxl], hxR2, by rw [hxl]; exact hxc, by rw [hxl]; exact hxn⟩)
            clear hxR hxR2 hxn hxc hxl hL ho8 hgrow hB8
            exact bodyPost_ret (v := .tuple #[.slice xa L xc, .int .i64 0]) (by simp [results, Try.results11, go_sem]) rfl ⟨_, by rw [HE.out], by rw [addV, if_pos HE.out]; exact hsl.out, HWB.out⟩
    
        · go_simp
          obtain ⟨v1, hv1⟩ : ∃ y9 : After V, y9.w = u2.w.alloc (.cells #[.int .i64 t.d, .int .i64 t.f, .int .i64 t.k, .int .i64 t.i, .int .i64 t.o] 24) := ⟨u2.on (b_alloc (Below.refl _ _) _), rfl⟩
          rw [← hv1]
          have hgx1 : Rd v1.w (some ⟨u2.w.heap.size, 0, none⟩) (Rc.cs t) := by rw [hv1]; exact rd_new _ _ _ rfl
          have hgl1 : u2.w.heap.size < v1.w.heap.size := by rw [hv1]; simp
          have sz1 : u2.w.heap.size ≤ v1.w.heap.size := by rw [hv1]; simp
          clear hv1
          refine hK _ v1 ?_
          clear hK K
          try simp only [Act.put, List.setIfInBounds_toArray, List.set_cons_zero, List.set_cons_succ]
          refine h_step 0 (by kernel_rfl) rfl (fun K hK => ?_)
          go_simp
          obtain ⟨v2, hv1⟩ : ∃ y9 : After V, y9.w = v1.w.alloc (.cells #[] 24) := ⟨v1.on (b_alloc (Below.refl _ _) _), rfl⟩
          rw [← hv1]
          have hown2 : v2.w.ownsRow u2.w.heap.size 24 5 (.slice (some ⟨v1.w.heap.size, 0, none⟩) 0 0) 0 [] := by rw [hv1]; exact World.ownsRow_made v1.w #[] 0 sz1 (by unfold maxLen; omega) (by simp)
          have sz2 : u2.w.heap.size ≤ v2.w.heap.size := by rw [hv1]; simpa using Nat.le_succ_of_le sz1
          have hgx2 : Rd v2.w (some ⟨u2.w.heap.size, 0, none⟩) (Rc.cs t) := by rw [hv1]; exact hgx1.alloc _
          have hne2 : ∀ g off, (some ⟨u2.w.heap.size, 0, none⟩ : Option Addr) = some ⟨g, off, none⟩ → (Value.slice (some ⟨v1.w.heap.size, 0, none⟩) 0 0).ownBlock ≠ some g := fun g off h => by have := hgl1; simp only [Option.some.injEq, Addr.mk.injEq] at h; simp only [Value.ownBlock, ne_eq, Option.some.injEq]; omega
          have hgl2 : u2.w.heap.size < v2.w.heap.size := Nat.lt_of_lt_of_le hgl1 (by rw [hv1]; simp)
          clear hv1
          refine hK _ v2 ?_
          clear hK K
          try simp only [Act.put, List.setIfInBounds_toArray, List.set_cons_zero, List.set_cons_succ]
          refine h_step 4 (by kernel_rfl) rfl (fun K hK => ?_)
          refine step_append_rd _ rfl (.tmp 47) (.tmp 50) 22 rfl u2.w.heap.size 24 i0 (.agg #[.int .i64 0, .int .i64 0, .int .i64 0, .int .i64 0, .int .i64 0]) 5 40 und22 hi hz0 hz1 hz2 rfl (by decide) _ _ _ (by rfl) hown2 _ j _ ((l.take j).flatMap Rc.cs) (by rfl) (by rw [flat_len Rc.cs 5 Rc.c5, List.length_take, HN.out]; try omega) ((RV.out v2).take (j * 5) |> fun h => by rw [flat_takek Rc.cs 5 Rc.c5] at h; exact h) (Rc.ones _) (by unfold maxLen; omega) (by omega) sz2 ?_
          intro x3 w' hown3 hgrow
          have hgx3 := rd_grown hgx2 hgrow hne2
          have hgl3 := Nat.lt_of_lt_of_le hgl2 hgrow.size
          obtain ⟨v3, rfl, sz3⟩ := After.app u2 v2 hown2 hgrow sz2
          clear hgrow
          refine hK _ v3 ?_
          clear hK K
          try simp only [Act.put, List.setIfInBounds_toArray, List.set_cons_zero, List.set_cons_succ]
          refine h_step 7 (by kernel_rfl) rfl (fun K hK => ?_)
          refine step_append_rd _ rfl (.tmp 51) (.tmp 53) 22 rfl u2.w.heap.size 24 i0 (.agg #[.int .i64 0, .int .i64 0, .int .i64 0, .int .i64 0, .int .i64 0]) 5 40 und22 hi hz0 hz1 hz2 rfl (by decide) _ _ _ (by rfl) hown3 (some ⟨u2.w.heap.size, 0, none⟩) 1 _ (Rc.cs t) (by rfl) rfl hgx3 t.one (by unfold maxLen; omega) (by omega) sz3 ?_
          intro x4 w' hown4 hgrow
          obtain ⟨v4, rfl, sz4⟩ := After.app u2 v3 hown3 hgrow sz3
          clear hgrow
          refine hK _ v4 ?_
          clear hK K
          try simp only [Act.put, List.setIfInBounds_toArray, List.set_cons_zero, List.set_cons_succ]
          refine h_take 8 (x := ?_) rfl (by kernel_rfl) (by kernel_rfl) (by kernel_rfl) (fun _ _ _ h => h) (by rfl) (fun v => ?_) ?_
          rotate_left
          · (go_simp; try with_reducible rfl)
          try simp only [Act.put, List.setIfInBounds_toArray, List.set_cons_zero, List.set_cons_succ]
          refine wpAnyH_done (by kernel_rfl) ?_ _
          refine NoPanic.normal ?_
          have hwB : w.heap.size ≤ u2.w.heap.size := (WV.out u2).size
          go_wp2_with (at_builtin; refine wpList_append_rd _ rfl (.tmp 55) (.tmp 58) 22 rfl u2.w.heap.size 24 i0 (.agg #[.int .i64 0, .int .i64 0, .int .i64 0, .int .i64 0, .int .i64 0]) 5 40 und22 hi hz0 hz1 hz2 rfl (by decide) _ _ _ (by rfl) hown4 _ (nn - j) _ ((l.drop j).flatMap Rc.cs) (by rfl) (by rw [flat_len Rc.cs 5 Rc.c5, List.length_drop, HN.out]; try omega) ((RV.out v4).drop (j * 5) |> fun h => by rw [flat_dropk Rc.cs 5 Rc.c5] at h; exact h) (Rc.ones _) (by unfold maxLen; omega) (by omega) sz4 ?_; intro v8 w8 ho8 hgrow)
          have hB8 := own_below hown4 hgrow sz4
          have HWB := hid (Below.trans (WV.out v4) (hB8.mono hwB))
          obtain ⟨xa, xc, rfl, hxc, hxn, hxR, -⟩ := own_slice ho8
          have hxl : (addL l t).length = 0 + j + 1 + (nn - j) := by rw [addL_len, HN.out]; try omega
          have hxR2 : Rd w8 xa ((addL l t).flatMap Rc.cs) := by rw [HB.out, List.flatMap_append, List.flatMap_cons]; simpa using hxR
          obtain ⟨L, hL⟩ : ∃ L, 0 + j + 1 + (nn - j) = L := ⟨_, rfl⟩
          rw [hL] at hxl hxc hxn
          try rw [hL]
          have hsl := hid (show RcIs w8 (.slice xa L xc) (addL l t) from ⟨xa, xc, by rw [hxl], hxR2, by rw [hxl]; exact hxc, by rw [hxl]; exact hxn⟩)
          clear hxR hxR2 hxn hxc hxl hL ho8 hgrow hB8
          exact bodyPost_ret (v := .tuple #[.slice xa L xc, .int .i64 0]) (by simp [results, Try.results11, go_sem]) rfl ⟨_, by rw [HE.out], by rw [addV, if_pos HE.out]; exact hsl.out, HWB.out⟩
  

end Go.Proofs.Ytdnjpfjiaomlgaa
