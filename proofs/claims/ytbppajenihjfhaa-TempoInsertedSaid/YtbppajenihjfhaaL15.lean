/- TempoInserted. -/
import Derived.Test.YtbppajenihjfhaaX
import Derived.Test.YtbppajenihjfhaaW
import Derived.Test.YtbppajenihjfhaaY
import Derived.Test.YtbppajenihjfhaaP8
namespace Go.Proofs.Ytbppajenihjfhaa
open Go.RowKit
open Go.Lib (hid)

theorem ins_le2 {m : List Tp} {t : Tp} : (insV m t).length ≤ 64 := by
  unfold insV
  split
  · rename_i h; exact len_le h
  · exact Nat.zero_le _
def BL (m : List Tp) (k : Int) (n : Nat) (V : World) (b i : Value) (wr : World) : Prop := ∃ (j : Nat) (z : After V), j ≤ n ∧ i = .int .i64 j ∧ b = .int .i64 (befT m k j) ∧ wr = z.w
set_option maxRecDepth 100000 in
set_option maxHeartbeats 4000000 in
theorem insd_walk (m : List Tp) (nn : Nat) (hnn : m.length = nn) (a : Option Addr) (c : Nat) (t : Tp) (tick : Int) (hf : a = none → nn = 0 ∧ c = 0) (hb : nn ≤ 9223372036854775807) (hz : nn * 32 ≤ 140737488351232) (W : World) (hr : Rd W a (m.flatMap Tp.c)) :
    Calls Try.prog 15 #[.slice a nn c, .agg #[.int .i64 t.k, .int .i64 t.n, .int .i64 t.d, .bool t.r], .int .i64 tick] W fun e w' => e = .returned (.bool true) ∧ Below W.heap.size W w' := by
  have HN := hid hnn; have HR := hid hr; have HF := hid hf
  clear hnn hr hf
  go_enter Try.func15, Try.ntmps15
  go_wp2_with fail
  obtain ⟨V, hV⟩ : ∃ V, V = (W.alloc (.cells #[.int .i64 t.k, .int .i64 t.n, .int .i64 t.d, .bool t.r] 53)) := ⟨_, rfl⟩
  have t0 : ∀ v : After V, v.w.cell? ⟨W.heap.size, 0, none⟩ = some (.int .i64 t.k) := after_cell (by rw [hV]; first | (simp; done) | omega | (simp; omega)) (by rw [hV]; (repeat (first | with_reducible assumption | exact bn (by first | (simp; done) | omega | (simp; omega)) rfl | refine bo (by first | (simp; done) | omega | (simp; omega)) ?_)))
  have ft0 : ∀ v : After V, v.w.frozen? ⟨W.heap.size, 0, none⟩ = false := after_frozen (by rw [hV]; first | (simp; done) | omega | (simp; omega)) (by rw [hV]; (repeat (first | exact fn (by first | (simp; done) | omega | (simp; omega)) | refine fo (by first | (simp; done) | omega | (simp; omega)) ?_)))
  have t1 : ∀ v : After V, v.w.cell? ⟨W.heap.size, 1, none⟩ = some (.int .i64 t.n) := after_cell (by rw [hV]; first | (simp; done) | omega | (simp; omega)) (by rw [hV]; (repeat (first | with_reducible assumption | exact bn (by first | (simp; done) | omega | (simp; omega)) rfl | refine bo (by first | (simp; done) | omega | (simp; omega)) ?_)))
  have ft1 : ∀ v : After V, v.w.frozen? ⟨W.heap.size, 1, none⟩ = false := after_frozen (by rw [hV]; first | (simp; done) | omega | (simp; omega)) (by rw [hV]; (repeat (first | exact fn (by first | (simp; done) | omega | (simp; omega)) | refine fo (by first | (simp; done) | omega | (simp; omega)) ?_)))
  have t2 : ∀ v : After V, v.w.cell? ⟨W.heap.size, 2, none⟩ = some (.int .i64 t.d) := after_cell (by rw [hV]; first | (simp; done) | omega | (simp; omega)) (by rw [hV]; (repeat (first | with_reducible assumption | exact bn (by first | (simp; done) | omega | (simp; omega)) rfl | refine bo (by first | (simp; done) | omega | (simp; omega)) ?_)))
  have ft2 : ∀ v : After V, v.w.frozen? ⟨W.heap.size, 2, none⟩ = false := after_frozen (by rw [hV]; first | (simp; done) | omega | (simp; omega)) (by rw [hV]; (repeat (first | exact fn (by first | (simp; done) | omega | (simp; omega)) | refine fo (by first | (simp; done) | omega | (simp; omega)) ?_)))
  have t3 : ∀ v : After V, v.w.cell? ⟨W.heap.size, 3, none⟩ = some (.bool t.r) := after_cell (by rw [hV]; first | (simp; done) | omega | (simp; omega)) (by rw [hV]; (repeat (first | with_reducible assumption | exact bn (by first | (simp; done) | omega | (simp; omega)) rfl | refine bo (by first | (simp; done) | omega | (simp; omega)) ?_)))
  have ft3 : ∀ v : After V, v.w.frozen? ⟨W.heap.size, 3, none⟩ = false := after_frozen (by rw [hV]; first | (simp; done) | omega | (simp; omega)) (by rw [hV]; (repeat (first | exact fn (by first | (simp; done) | omega | (simp; omega)) | refine fo (by first | (simp; done) | omega | (simp; omega)) ?_)))
  have zt : ∀ v : After V, W.heap.size < v.w.heap.size := after_size (by rw [hV]; first | (simp; done) | omega | (simp; omega))
  have hwV : Below W.heap.size W V := by rw [hV]; exact (by repeat (first | exact Below.refl _ _ | assumption | refine b_then ?_ (by assumption) | refine b_alloc ?_ _ | refine b_drewN ?_ _ | refine b_drew ?_ | refine b_set ?_ (by omega) _ | refine b_set ?_ (by simp) _))
  have WV := hid (after_below hwV)
  rw [← hV]
  obtain ⟨u0, hu⟩ : ∃ u : After V, u.w = V := ⟨After.here V, rfl⟩
  rw [← hu]
  clear hu hV
  have RV := hid (fun v : After V => HR.out.below (WV.out v))
  refine (met (sane9_any u0.w)).mono ?_
  rintro e _ ⟨rfl, u1, rfl⟩
  have q0 := t0 u1
  have q1 := t1 u1
  have q2 := t2 u1
  have q3 := t3 u1
  go_wp2_with fail
  refine (Insert_any m nn HN.out a c t HF.out hz u1.w (RV.out u1)).mono ?_
  rintro e w9 ⟨v1, rfl, hS1, hB9⟩
  obtain ⟨u2, rfl⟩ : ∃ y9 : After V, w9 = y9.w := ⟨u1.on hB9, rfl⟩
  have hl := ins_le2 (m := m) (t := t)
  obtain ⟨xn, hxn⟩ : ∃ n, (insV m t).length = n := ⟨_, rfl⟩
  obtain ⟨xa, xc, rfl, hR1, -⟩ := hS1.form hxn
  have HX := hid hxn
  have hxl : xn ≤ 64 := by omega
  clear hS1 hxn hl q0 q1 q2 q3 hB9
  by_cases hE : insE m t = 0
  case neg =>
    have d1 : (insE m t != 0) = true := by simpa using hE
    generalize insE m t = E at d1 ⊢
    clear hE
    go_wp2_with fail
    exact bodyPost_ret (v := .bool true) (by simp [results, Try.results15, go_sem]) rfl ⟨rfl, WV.out u2⟩
  rw [hE]
  have HE := hid hE; clear hE
  go_wp2_with fail
  refine (tcheck_any m nn HN.out a c u2.w hb (RV.out u2)).mono ?_
  rintro e w9 ⟨rfl, hB9⟩
  obtain ⟨V2, hV2⟩ : ∃ y : World, y = w9 := ⟨_, rfl⟩
  have hBV : Below V.heap.size V V2 := by rw [hV2]; exact b_then u2.2 hB9
  have HR1 := hid (fun v : After V2 => (hR1.below (by rw [hV2]; exact hB9)).below v.2)
  rw [← hV2]
  clear hV2 hB9 hR1
  have t0 := upc hBV t0
  have WV := hid (upb hBV WV.out)
  have RV := hid (upr hBV RV.out)
  obtain ⟨u3, hu⟩ : ∃ u : After V2, u.w = V2 := ⟨After.here V2, rfl⟩
  rw [← hu]; clear hu
  by_cases hK : chkT m = 0
  case neg =>
    have d1 : (chkT m != 0) = true := by simpa using hK
    generalize chkT m = K at d1 ⊢
    clear hK
    go_wp2_with fail
    exact bodyPost_ret (v := .bool true) (by simp [results, Try.results15, go_sem]) rfl ⟨rfl, WV.out u3⟩
  rw [hK]
  have HK := hid hK
  have hl64 := len_le (chkT_good hK)
  rw [HN.out] at hl64
  clear hK
  go_wp2_with fail
  go_loopw [9, 10] (fun b i wr => BL m t.k nn V2 b i wr) (fun _ i _ => nn - (intOf i).toNat)
  case atStart => exact ⟨0, u3, Nat.zero_le _, rfl, rfl, rfl⟩
  case round =>
    obtain ⟨j, z, hj, rfl, rfl, rfl⟩ := hrel
    by_cases hlt : j < nn
    · obtain ⟨b, off, rfl, hbl⟩ := HR.out.addr (by rw [flat_len Tp.c 4 Tp.c4, HN.out]; omega)
      obtain ⟨k, hk⟩ : ∃ k, (tp m j).k = k := ⟨_, rfl⟩
      have c0 : ∀ v : After V2, v.w.cell? ⟨b, off + j * 4, none⟩ = some (.int .i64 k) := tp_cell RV.out (j := j) (by rw [HN.out]; exact hlt) 0 (by decide) (by rw [← hk]; rfl) rfl
      have HKk := hid hk; clear hk
      have hjj : (j : Int) < (nn : Int) := by omega
      have d1 : decide (j < nn) = true := decide_eq_true hlt
      obtain ⟨B, hB⟩ : ∃ B, befT m t.k j = B := ⟨_, rfl⟩
      rw [hB]
      have HB := hid hB; clear hB
      go_wp2_with fail
      rcases hg : decide (k < t.k) with _ | _
      · have hg2 := hid hg
        refine wp_region_since (by kernel_rfl) (by kernel_rfl) ?_
        repeat (go_big_quiet_step (fail))
        refine wpQuiet_nil ?_
        intro u7
        clear hg
        go_wp2_with fail
        go_roundw
        case rel => exact ⟨j + 1, u7, by omega, by go_num, by rw [befT, HKk.out, if_neg (by simpa using hg2.out), HB.out], rfl⟩
        case measure => simp [intOf]; omega
      · have hg2 := hid hg
        refine wp_region_since (by kernel_rfl) (by kernel_rfl) ?_
        repeat (go_big_quiet_step (fail))
        refine wpQuiet_nil ?_
        intro u7
        clear hg
        go_wp2_with fail
        go_roundw
        case rel => exact ⟨j + 1, u7, by omega, by go_num, by rw [befT, HKk.out, if_pos (by simpa using hg2.out)], rfl⟩
        case measure => simp [intOf]; omega
    · obtain rfl : j = nn := by omega
      have d1 : decide (j < j) = false := decide_eq_false (by omega)
      have y0 := t0 z
      have hbr := bef_rng m t.k m.length
      rw [HN.out] at hbr
      by_cases hB0 : 0 ≤ befT m t.k j
      · obtain ⟨q, hq⟩ : ∃ q : Nat, befT m t.k j = (q : Int) := ⟨(befT m t.k j).toNat, by omega⟩
        have hqj : q < j := by omega
        have hq2 := hid (show befT m t.k m.length = (q : Int) by rw [HN.out]; exact hq)
        rw [hq]
        obtain ⟨b, off, rfl, hbl⟩ := HR.out.addr (by rw [flat_len Tp.c 4 Tp.c4, HN.out]; omega)
        obtain ⟨k, hk⟩ : ∃ k, (tp m q).k = k := ⟨_, rfl⟩
        obtain ⟨r, hrr⟩ : ∃ k, (tp m q).r = k := ⟨_, rfl⟩
        have c0 : z.w.cell? ⟨b, off + q * 4, none⟩ = some (.int .i64 k) := tp_cell RV.out (j := q) (by rw [HN.out]; exact hqj) 0 (by decide) (by rw [← hk]; rfl) rfl z
        have c3 : z.w.cell? ⟨b, off + q * 4 + 3, none⟩ = some (.bool r) := tp_cell RV.out (j := q) (by rw [HN.out]; exact hqj) 3 (by decide) (by rw [← hrr]; rfl) (by omega) z
        have HKk := hid hk; have HRr := hid hrr; clear hk hrr hq hB0 hbr
        have hjj : (q : Int) < (j : Int) := by omega
        cases r
        · skip
          have HU := hid (show untilT m t = t.k from by unfold untilT; rw [hq2.out, Int.toNat_natCast, HRr.out, if_neg (fun h => Bool.noConfusion h.2)])
          by_cases hu : tick ≤ t.k
          · have d5 : decide (t.k < tick) = false := decide_eq_false (by omega)
            have hsm := inserted HE.out HK.out (tick := tick) (by rw [HU.out]; exact hu)
            have HS := hid hsm; clear hsm hu
            go_wp2_with fail
            refine (met (Sample_any m j HN.out (some ⟨b, off, none⟩) c tick hb z.w (RV.out z))).mono ?_
            rintro e _ ⟨rfl, u5, rfl⟩
            obtain ⟨sv, hsv⟩ : ∃ y, smV m tick = y := ⟨_, rfl⟩
            obtain ⟨se, hse⟩ : ∃ y, smE m tick = y := ⟨_, rfl⟩
            rw [hsv, hse]
            have HSV := hid (show smV (insV m t) tick = sv by rw [← HS.out.2, hsv])
            have HSE := hid (show smE (insV m t) tick = se by rw [← HS.out.1, hse])
            clear hsv hse
            go_wp2_with fail
            refine (met (Sample_any (insV m t) xn HX.out xa xc tick (by omega) u5.w (HR1.out u5))).mono ?_
            rintro e _ ⟨rfl, u6, rfl⟩
            rw [HSV.out, HSE.out]
            have e1 : (sv == sv) = true := beq_self_eq_true _
            have e2 : (se == se) = true := beq_self_eq_true _
            go_wp2_with fail
            exact bodyPost_ret (v := .bool true) (by simp [results, Try.results15, go_sem]) rfl ⟨rfl, WV.out u6⟩
          · have d5 : decide (t.k < tick) = true := decide_eq_true (by omega)
            go_wp2_with fail
            exact bodyPost_ret (v := .bool true) (by simp [results, Try.results15, go_sem]) rfl ⟨rfl, WV.out z⟩
        · skip
          have HU := hid (show untilT m t = k from by unfold untilT; rw [hq2.out, Int.toNat_natCast, HRr.out, HKk.out, if_pos ⟨by omega, rfl⟩])
          by_cases hu : tick ≤ k
          · have d5 : decide (k < tick) = false := decide_eq_false (by omega)
            have hsm := inserted HE.out HK.out (tick := tick) (by rw [HU.out]; exact hu)
            have HS := hid hsm; clear hsm hu
            go_wp2_with fail
            refine (met (Sample_any m j HN.out (some ⟨b, off, none⟩) c tick hb z.w (RV.out z))).mono ?_
            rintro e _ ⟨rfl, u5, rfl⟩
            obtain ⟨sv, hsv⟩ : ∃ y, smV m tick = y := ⟨_, rfl⟩
            obtain ⟨se, hse⟩ : ∃ y, smE m tick = y := ⟨_, rfl⟩
            rw [hsv, hse]
            have HSV := hid (show smV (insV m t) tick = sv by rw [← HS.out.2, hsv])
            have HSE := hid (show smE (insV m t) tick = se by rw [← HS.out.1, hse])
            clear hsv hse
            go_wp2_with fail
            refine (met (Sample_any (insV m t) xn HX.out xa xc tick (by omega) u5.w (HR1.out u5))).mono ?_
            rintro e _ ⟨rfl, u6, rfl⟩
            rw [HSV.out, HSE.out]
            have e1 : (sv == sv) = true := beq_self_eq_true _
            have e2 : (se == se) = true := beq_self_eq_true _
            go_wp2_with fail
            exact bodyPost_ret (v := .bool true) (by simp [results, Try.results15, go_sem]) rfl ⟨rfl, WV.out u6⟩
          · have d5 : decide (k < tick) = true := decide_eq_true (by omega)
            go_wp2_with fail
            exact bodyPost_ret (v := .bool true) (by simp [results, Try.results15, go_sem]) rfl ⟨rfl, WV.out z⟩
      · obtain ⟨B, hB⟩ : ∃ B, befT m t.k j = B := ⟨_, rfl⟩
        have hq2 := hid (show befT m t.k m.length = B by rw [HN.out]; exact hB)
        rw [hB]
        have d2 : decide (0 ≤ B) = false := decide_eq_false (by omega)
        have hBn := hid (show ¬ 0 ≤ B by omega)
        clear hB hB0 hbr
        have HU := hid (show untilT m t = t.k from by unfold untilT; rw [hq2.out, if_neg (fun h => hBn.out h.1)])
        by_cases hu : tick ≤ t.k
        · have d5 : decide (t.k < tick) = false := decide_eq_false (by omega)
          have hsm := inserted HE.out HK.out (tick := tick) (by rw [HU.out]; exact hu)
          have HS := hid hsm; clear hsm hu
          go_wp2_with fail
          refine (met (Sample_any m j HN.out a c tick hb z.w (RV.out z))).mono ?_
          rintro e _ ⟨rfl, u5, rfl⟩
          obtain ⟨sv, hsv⟩ : ∃ y, smV m tick = y := ⟨_, rfl⟩
          obtain ⟨se, hse⟩ : ∃ y, smE m tick = y := ⟨_, rfl⟩
          rw [hsv, hse]
          have HSV := hid (show smV (insV m t) tick = sv by rw [← HS.out.2, hsv])
          have HSE := hid (show smE (insV m t) tick = se by rw [← HS.out.1, hse])
          clear hsv hse
          go_wp2_with fail
          refine (met (Sample_any (insV m t) xn HX.out xa xc tick (by omega) u5.w (HR1.out u5))).mono ?_
          rintro e _ ⟨rfl, u6, rfl⟩
          rw [HSV.out, HSE.out]
          have e1 : (sv == sv) = true := beq_self_eq_true _
          have e2 : (se == se) = true := beq_self_eq_true _
          go_wp2_with fail
          exact bodyPost_ret (v := .bool true) (by simp [results, Try.results15, go_sem]) rfl ⟨rfl, WV.out u6⟩
        · have d5 : decide (t.k < tick) = true := decide_eq_true (by omega)
          go_wp2_with fail
          exact bodyPost_ret (v := .bool true) (by simp [results, Try.results15, go_sem]) rfl ⟨rfl, WV.out z⟩
end Go.Proofs.Ytbppajenihjfhaa
namespace Go.Proofs.Ytbppajenihjfhaa.Insd15
open Go.ChangeShapes Go.WideShapes Go.ChangeAt Go.RowKit Go.Joins

theorem own : ownKnob Try.prog.godebug = none := by kernel_rfl
theorem laidOut : laidOutB Try.prog = true := by kernel_rfl

set_option maxRecDepth 100000 in
theorem lifted (os : Os) (started : os.Started) (H : Type) (enc : TypeId × Value → H) :
    ReturnsInHanded {} Try.checked os 15 .any (Rows.tempoInsertedSpec.pre6 enc Try.prog Try.f15 Rows.tempoInsertedRow.domain false) (Rows.tempoInsertedSpec.post enc Try.prog Try.f15 false true false false) := by
  refine returnsInHanded_of_change_sized (C := Try.checked) own started (by kernel_rfl) Try.func15
    (ChangeSpec.witness6 (enc := enc) (C := Try.checked) false ⟨#[], #[.slice none 0 0, .agg #[.int .i64 0, .int .i64 0, .int .i64 0, .bool false], .int .i64 0], []⟩ 8 (by kernel_rfl) (by kernel_rfl) (by kernel_rfl) (by kernel_rfl)) ?_
  intro W base args ds gs before hval0 hW hcnd hsz0 _
  have hval : ∀ (j : Nat) t v, Try.f15.params[j]? = some t → args[j]? = some v → Value.okWide Try.prog W .any base t v := hval0
  have hsz : (DataW.weightsEach Try.prog (Try.f15.params.toList ++ Rows.tempoInsertedSpec.plain.varTypes Try.prog) (ds ++ gs)).all (· ≤ reachBytes) = true := hsz0
  have hW' := hW
  obtain ⟨p, q, hA0, hV, rfl, hfz, hnd⟩ := hW
  have hA : DataW.TrodAll enc Try.prog W 0 (fun _ => true) true Try.f15.params.toList args.toList ds p := hA0
  rw [Try.params15] at hA hval hsz
  obtain ⟨v0, vs0, d0, ds0, p0, q0, hargs, rfl, rfl, h0, r0⟩ := trodAll_cons hA
  obtain ⟨v1, vs1, d1, ds1, p1, q1, rfl, rfl, rfl, h1, r1⟩ := trodAll_cons r0
  obtain ⟨v2, vs2, d2, ds2, p2, q2, rfl, rfl, rfl, h2, r2⟩ := trodAll_cons r1
  obtain ⟨rfl, rfl, rfl⟩ := trodAll_nil r2
  obtain rfl : args = #[v0, v1, v2] := by cases args; simp_all
  obtain ⟨rfl, rfl⟩ := trodVars_none hV
  have k0 := h0
  have lt0 : ∀ x ∈ p0, x.block < W.heap.size := by obtain ⟨m, hm⟩ := k0; exact DataW.trod_lt m _ _ _ hm
  obtain ⟨xa0, xn0, xc0, rfl⟩ := okWide_slice Try.underlying48 (hval 0 48 v0 rfl rfl)
  obtain ⟨m0, hm0⟩ := h0
  obtain ⟨a0, n0, c0, e0, lc0, mc0, fz0, ⟨l0, ln0, rd0⟩, sz0⟩ := open_tps hm0
  cases e0
  have nb0 := Nat.le_trans lc0 (max_len mc0)
  have rb0 : xn0 * 32 ≤ 140737488351232 := by
    rcases sz0 with h | ⟨es, sp, e, he⟩
    · omega
    · have e : d0 = _ := e
      subst e
      have := sized_slice hsz (j := 0) (t := 48) (e := 53) rfl rfl Try.underlying48
      rw [bytes53] at this
      simp only [reachBytes] at this
      omega
  have k1 := h1
  have lt1 : ∀ x ∈ p1, x.block < W.heap.size := by obtain ⟨m, hm⟩ := k1; exact DataW.trod_lt m _ _ _ hm
  obtain ⟨t1, rfl⟩ := open_tpv (hval 1 53 v1 rfl rfl) h1
  obtain ⟨a2, rfl, rfl, rfl, w2⟩ := open_int Try.underlying3 (hval 2 3 v2 rfl rfl) h2
  clear hA0 hval0
  refine (insd_walk l0 xn0 ln0 xa0 xc0 t1 a2 fz0 nb0 rb0 W rd0).mono fun e W' ⟨he, bel⟩ => ?_
  subst he
  exact ⟨_, rfl, _, _, _, [], _, [], hW', trodAll_mk1 (shut_bool Try.underlying4 _), (trodAll_cons_mk (Below.trod laidOut (by kernel_rfl) (of_decide_eq_true (by kernel_rfl)) k0 bel lt0) (trodAll_cons_mk (Below.trod laidOut (by kernel_rfl) (of_decide_eq_true (by kernel_rfl)) k1 bel lt1) (trodAll_cons_mk (shut_int Try.underlying3 w2) trodAll_mk0))), rfl, bel.frame _, fun h => by cases h⟩

theorem over : Rows.tempoInsertedRow.holds Try.pinned (OpenSpec.ofChange Rows.tempoInsertedSpec) :=
  OpenClaim.holds_of_wide 15 Try.f15 rfl rfl rfl rfl rfl rfl rfl ⟨rfl, rfl, rfl, rfl, rfl⟩ rfl rfl rfl rfl rfl (by kernel_rfl) Try.func15 (by show joinedFacts Try.prog _ _ _ _ = true; unfold joinedFacts; rw [may0, lift0, make0]; kernel_rfl)
    (of_decide_eq_true (by kernel_rfl)) (by unfold Func.isWrapper; first | (rw [if_pos (by decide +kernel)]; kernel_rfl) | (rw [if_neg (by decide +kernel)]; exact ⟨rfl, rfl⟩))
    (fun os started H enc _ => lifted os started H enc)
end Go.Proofs.Ytbppajenihjfhaa.Insd15
namespace Go.Proofs.Ytbppajenihjfhaa
/-- The statement. -/
theorem tempoInserted_holds : Rows.TempoInsertedSaid := Insd15.over
end Go.Proofs.Ytbppajenihjfhaa
