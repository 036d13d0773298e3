/- CalibrateSpec. -/
import Derived.Test.YtdnjpfjiaomlgaaW
import Derived.Test.YtdnjpfjiaomlgaaCX
import Derived.Test.YtdnjpfjiaomlgaaC8
namespace Go.Proofs.Ytdnjpfjiaomlgaa
open Go.RowKit
open Go.Lib (hid)

set_option maxRecDepth 100000 in
set_option maxHeartbeats 4000000 in
theorem cspec_walk (l : List Rc) (nn : Nat) (hnn : l.length = nn) (a : Option Addr) (c : Nat) (hf : a = none → nn = 0 ∧ c = 0) (hc : nn ≤ c) (t : Rc) (hb : nn ≤ 9223372036854775807) (W : World) (hr : Rd W a (l.flatMap Rc.cs)) :
    Calls Try.prog 3 #[.slice a nn c, .agg #[.int .i64 t.d, .int .i64 t.f, .int .i64 t.k, .int .i64 t.i, .int .i64 t.o]] W fun e w' => e = .returned (.bool true) ∧ Below W.heap.size W w' := by
  have HN := hid hnn; have HR := hid (after_rd hr); have HF := hid hf
  clear hnn hr hf
  go_enter Try.func3, Try.ntmps3
  go_upto_region 1 with (fail)
  obtain ⟨V, hV⟩ : ∃ V, V = (W.alloc (.cells #[.int .i64 t.d, .int .i64 t.f, .int .i64 t.k, .int .i64 t.i, .int .i64 t.o] 24)) := ⟨_, rfl⟩
  have t0 : ∀ v : After V, v.w.cell? ⟨W.heap.size, 0, none⟩ = some (.int .i64 t.d) := after_cell (by rw [hV]; first | (simp; done) | omega | (simp; omega)) (by rw [hV]; (repeat (first | with_reducible assumption | exact bn (by first | (simp; done) | omega | (simp; omega)) rfl | refine bo (by first | (simp; done) | omega | (simp; omega)) ?_)))
  have ft0 : ∀ v : After V, v.w.frozen? ⟨W.heap.size, 0, none⟩ = false := after_frozen (by rw [hV]; first | (simp; done) | omega | (simp; omega)) (by rw [hV]; (repeat (first | exact fn (by first | (simp; done) | omega | (simp; omega)) | refine fo (by first | (simp; done) | omega | (simp; omega)) ?_)))
  have t1 : ∀ v : After V, v.w.cell? ⟨W.heap.size, 1, none⟩ = some (.int .i64 t.f) := after_cell (by rw [hV]; first | (simp; done) | omega | (simp; omega)) (by rw [hV]; (repeat (first | with_reducible assumption | exact bn (by first | (simp; done) | omega | (simp; omega)) rfl | refine bo (by first | (simp; done) | omega | (simp; omega)) ?_)))
  have ft1 : ∀ v : After V, v.w.frozen? ⟨W.heap.size, 1, none⟩ = false := after_frozen (by rw [hV]; first | (simp; done) | omega | (simp; omega)) (by rw [hV]; (repeat (first | exact fn (by first | (simp; done) | omega | (simp; omega)) | refine fo (by first | (simp; done) | omega | (simp; omega)) ?_)))
  have t2 : ∀ v : After V, v.w.cell? ⟨W.heap.size, 2, none⟩ = some (.int .i64 t.k) := after_cell (by rw [hV]; first | (simp; done) | omega | (simp; omega)) (by rw [hV]; (repeat (first | with_reducible assumption | exact bn (by first | (simp; done) | omega | (simp; omega)) rfl | refine bo (by first | (simp; done) | omega | (simp; omega)) ?_)))
  have ft2 : ∀ v : After V, v.w.frozen? ⟨W.heap.size, 2, none⟩ = false := after_frozen (by rw [hV]; first | (simp; done) | omega | (simp; omega)) (by rw [hV]; (repeat (first | exact fn (by first | (simp; done) | omega | (simp; omega)) | refine fo (by first | (simp; done) | omega | (simp; omega)) ?_)))
  have t3 : ∀ v : After V, v.w.cell? ⟨W.heap.size, 3, none⟩ = some (.int .i64 t.i) := after_cell (by rw [hV]; first | (simp; done) | omega | (simp; omega)) (by rw [hV]; (repeat (first | with_reducible assumption | exact bn (by first | (simp; done) | omega | (simp; omega)) rfl | refine bo (by first | (simp; done) | omega | (simp; omega)) ?_)))
  have ft3 : ∀ v : After V, v.w.frozen? ⟨W.heap.size, 3, none⟩ = false := after_frozen (by rw [hV]; first | (simp; done) | omega | (simp; omega)) (by rw [hV]; (repeat (first | exact fn (by first | (simp; done) | omega | (simp; omega)) | refine fo (by first | (simp; done) | omega | (simp; omega)) ?_)))
  have t4 : ∀ v : After V, v.w.cell? ⟨W.heap.size, 4, none⟩ = some (.int .i64 t.o) := after_cell (by rw [hV]; first | (simp; done) | omega | (simp; omega)) (by rw [hV]; (repeat (first | with_reducible assumption | exact bn (by first | (simp; done) | omega | (simp; omega)) rfl | refine bo (by first | (simp; done) | omega | (simp; omega)) ?_)))
  have ft4 : ∀ v : After V, v.w.frozen? ⟨W.heap.size, 4, none⟩ = false := after_frozen (by rw [hV]; first | (simp; done) | omega | (simp; omega)) (by rw [hV]; (repeat (first | exact fn (by first | (simp; done) | omega | (simp; omega)) | refine fo (by first | (simp; done) | omega | (simp; omega)) ?_)))
  have zt : ∀ v : After V, W.heap.size < v.w.heap.size := after_size (by rw [hV]; first | (simp; done) | omega | (simp; omega))
  have hwV : Below W.heap.size W V := by rw [hV]; exact (by repeat (first | exact Below.refl _ _ | assumption | refine b_then ?_ (by assumption) | refine b_alloc ?_ _ | refine b_drewN ?_ _ | refine b_drew ?_ | refine b_set ?_ (by omega) _ | refine b_set ?_ (by simp) _))
  have WV := hid (after_below hwV)
  rw [← hV]
  obtain ⟨u0, hu⟩ : ∃ u : After V, u.w = V := ⟨After.here V, rfl⟩
  rw [← hu]
  clear hu hV
  have RV := hid (fun v : After V => HR.out (After.to (WV.out v)))
  go_wp2_with fail
  refine (met (sane42_any u0.w)).mono ?_
  rintro e _ ⟨rfl, u1, rfl⟩
  by_cases h300 : nn ≤ 300
  case neg =>
    have d0 : decide ((300 : Int) < (nn : Int)) = true := decide_eq_true (by omega)
    have d0' : decide (300 < nn) = true := decide_eq_true (by omega)
    go_wp2_with fail
    exact bodyPost_ret (v := .bool true) (by simp [results, Try.results3, go_sem]) rfl ⟨rfl, WV.out u1⟩
  have d0 : decide ((300 : Int) < (nn : Int)) = false := decide_eq_false (by omega)
  have d0' : decide (300 < nn) = false := decide_eq_false (by omega)
  go_wp2_with fail
  clear d0 d0'
  refine (add_any l nn HN.out a c t HF.out u1.w hb (RV.out u1)).mono ?_
  rintro e w9 ⟨v1, rfl, hi1, hB1⟩
  obtain ⟨u2, rfl⟩ : ∃ y : After V, w9 = y.w := ⟨u1.on hB1, rfl⟩
  have HI1 := hid hi1; clear hi1 hB1
  go_wp2_with fail
  refine (radd_any l nn HN.out a c t HF.out hc u2.w hb (RV.out u2)).mono ?_
  rintro e w9 ⟨v2, rfl, hi2, hB2⟩
  have hi1 := HI1.out.below hB2
  obtain ⟨u3, rfl⟩ : ∃ y : After V, w9 = y.w := ⟨u2.on hB2, rfl⟩
  obtain ⟨E, hE⟩ : ∃ y, addE l t = y := ⟨_, rfl⟩
  obtain ⟨X, hX⟩ : ∃ y, addV l t = y := ⟨_, rfl⟩
  obtain ⟨n, hn⟩ : ∃ n, X.length = n := ⟨_, rfl⟩
  have hxl : n ≤ 256 := by
    rw [← hn, ← hX, addV]
    split
    · rename_i h
      rw [addL_len]
      have := (addE_ok h).2.2.2
      omega
    · exact Nat.zero_le _
  rw [hX] at hi1 hi2
  rw [hE]
  obtain ⟨xa, xc, rfl, hR1, -, -⟩ := hi1.form hn
  obtain ⟨ya, yc, rfl, hR2, -, -⟩ := hi2.form hn
  have HN2 := hid hn; have HR1 := hid (after_rd hR1); have HR2 := hid (after_rd hR2)
  obtain ⟨V3, hV3⟩ : ∃ V3 : World, V3 = u3.w := ⟨_, rfl⟩
  have hW3 : Below W.heap.size W V3 := by rw [hV3]; exact WV.out u3
  have RV3 := hid (upr (by rw [hV3]; exact u3.w_below : Below V.heap.size V V3) RV.out)
  rw [← hV3] at HR1 HR2
  rw [← hV3]
  obtain ⟨z3, hz3⟩ : ∃ z : After V3, z.w = V3 := ⟨After.here V3, rfl⟩
  rw [← hz3]
  clear hz3
  have eE : (E == E) = true := beq_self_eq_true _
  clear hi1 hi2 hB2 hE hX hn hR1 hR2 HI1
  go_wp2_with fail
  refine (met (check_any l nn HN.out a c z3.w hb (RV3.out z3))).mono ?_
  rintro e _ ⟨rfl, u4, rfl⟩
  obtain ⟨F, hF⟩ : ∃ y, chkR l = y := ⟨_, rfl⟩
  rw [hF]
  have HE2 := hid hF; clear hF
  go_wp2_with fail
  refine (met (rcheck_any l nn HN.out a c u4.w hb (RV3.out u4))).mono ?_
  rintro e _ ⟨rfl, u5, rfl⟩
  rw [HE2.out]
  have eF : (F == F) = true := beq_self_eq_true _
  go_wp2_with fail
  refine (met (rsame_any X X n n HN2.out HN2.out xa ya xc yc (by omega) u5.w (HR1.out u5) (HR2.out u5))).mono ?_
  rintro e _ ⟨rfl, u6, rfl⟩
  rw [decide_eq_true rfl]
  go_wp2_with fail
  exact bodyPost_ret (v := .bool true) (by simp [results, Try.results3, go_sem]) rfl ⟨rfl, b_then hW3 u6.2⟩
end Go.Proofs.Ytdnjpfjiaomlgaa
namespace Go.Proofs.Ytdnjpfjiaomlgaa.Cs3
open Go.ChangeShapes Go.WideShapes Go.ChangeAt Go.RowKit Go.Joins

theorem own : ownKnob Try.prog.godebug = none := by kernel_rfl
theorem laidOut : laidOutB Try.prog = true := by kernel_rfl

set_option maxRecDepth 100000 in
theorem lifted (os : Os) (started : os.Started) (H : Type) (enc : TypeId × Value → H) :
    ReturnsInHanded {} Try.checked os 3 .any (Rows.calibrateSpecSpec.pre6 enc Try.prog Try.f3 Rows.calibrateSpecRow.domain false) (Rows.calibrateSpecSpec.post enc Try.prog Try.f3 false true false false) := by
  refine returnsInHanded_of_change (C := Try.checked) own started (by kernel_rfl) Try.func3
    (ChangeSpec.witness6 (enc := enc) (C := Try.checked) false ⟨#[], #[.slice none 0 0, .agg #[.int .i64 0, .int .i64 0, .int .i64 0, .int .i64 0, .int .i64 0]], []⟩ 8 (by kernel_rfl) (by kernel_rfl) (by kernel_rfl) (by kernel_rfl)) ?_
  intro W base args ds gs before hval0 hW hcnd _
  have hval : ∀ (j : Nat) t v, Try.f3.params[j]? = some t → args[j]? = some v → Value.okWide Try.prog W .any base t v := hval0
  have hW' := hW
  obtain ⟨p, q, hA0, hV, rfl, hfz, hnd⟩ := hW
  have hA : DataW.TrodAll enc Try.prog W 0 (fun _ => true) true Try.f3.params.toList args.toList ds p := hA0
  rw [Try.params3] at hA hval
  obtain ⟨v0, vs0, d0, ds0, p0, q0, hargs, rfl, rfl, h0, r0⟩ := trodAll_cons hA
  obtain ⟨v1, vs1, d1, ds1, p1, q1, rfl, rfl, rfl, h1, r1⟩ := trodAll_cons r0
  obtain ⟨rfl, rfl, rfl⟩ := trodAll_nil r1
  obtain rfl : args = #[v0, v1] := by cases args; simp_all
  obtain ⟨rfl, rfl⟩ := trodVars_none hV
  have k0 := h0
  have lt0 : ∀ x ∈ p0, x.block < W.heap.size := by obtain ⟨m, hm⟩ := k0; exact DataW.trod_lt m _ _ _ hm
  obtain ⟨xa0, xn0, xc0, rfl⟩ := okWide_slice Try.underlying22 (hval 0 22 v0 rfl rfl)
  obtain ⟨m0, hm0⟩ := h0
  obtain ⟨a0, n0, c0, e0, lc0, mc0, fz0, ⟨l0, ln0, rd0⟩⟩ := open_rcs hm0
  cases e0
  have nb0 := Nat.le_trans lc0 (max_len mc0)
  have k1 := h1
  have lt1 : ∀ x ∈ p1, x.block < W.heap.size := by obtain ⟨m, hm⟩ := k1; exact DataW.trod_lt m _ _ _ hm
  obtain ⟨t1, rfl⟩ := open_rcv (hval 1 24 v1 rfl rfl) h1
  clear hA0 hval0
  refine (cspec_walk l0 xn0 ln0 xa0 xc0 fz0 lc0 t1 nb0 W rd0).mono fun e W' ⟨he, bel⟩ => ?_
  subst he
  exact ⟨_, rfl, _, _, _, [], _, [], hW', trodAll_mk1 (shut_bool Try.underlying4 _), (trodAll_cons_mk (Below.trod laidOut (by kernel_rfl) (of_decide_eq_true (by kernel_rfl)) k0 bel lt0) (trodAll_cons_mk (Below.trod laidOut (by kernel_rfl) (of_decide_eq_true (by kernel_rfl)) k1 bel lt1) trodAll_mk0)), rfl, bel.frame _, fun h => by cases h⟩

theorem over : Rows.calibrateSpecRow.holds Try.pinned (OpenSpec.ofChange Rows.calibrateSpecSpec) :=
  OpenClaim.holds_of_wide 3 Try.f3 rfl rfl rfl rfl rfl rfl rfl ⟨rfl, rfl, rfl, rfl, rfl⟩ rfl rfl rfl rfl rfl (by kernel_rfl) Try.func3 (by show joinedFacts Try.prog _ _ _ _ = true; kernel_rfl)
    (of_decide_eq_true (by kernel_rfl)) (by unfold Func.isWrapper; first | (rw [if_pos (by decide +kernel)]; kernel_rfl) | (rw [if_neg (by decide +kernel)]; exact ⟨rfl, rfl⟩))
    (fun os started H enc _ => lifted os started H enc)
end Go.Proofs.Ytdnjpfjiaomlgaa.Cs3
namespace Go.Proofs.Ytdnjpfjiaomlgaa
/-- The statement. -/
theorem calibrateSpec_holds : Rows.CalibrateSpecSaid := Cs3.over
end Go.Proofs.Ytdnjpfjiaomlgaa
