/- TempoInsertSpec. -/
import Derived.Test.YtbppajenihjfhaaX
import Derived.Test.YtbppajenihjfhaaW
import Derived.Test.YtbppajenihjfhaaY
import Derived.Test.YtbppajenihjfhaaRI
namespace Go.Proofs.Ytbppajenihjfhaa
open Go.RowKit
open Go.Lib (hid)

theorem ins_le {m : List Tp} {t : Tp} : (insV m t).length ≤ 64 := by
  unfold insV
  split
  · rename_i h; exact len_le h
  · exact Nat.zero_le _
set_option maxRecDepth 100000 in
set_option maxHeartbeats 4000000 in
theorem insSpec_walk (m : List Tp) (nn : Nat) (hnn : m.length = nn) (a : Option Addr) (c : Nat) (t : Tp) (hf : a = none → nn = 0 ∧ c = 0) (hc : nn ≤ c) (hb : nn ≤ 9223372036854775807) (W : World) (hr : Rd W a (m.flatMap Tp.c)) :
    Calls Try.prog 12 #[.slice a nn c, .agg #[.int .i64 t.k, .int .i64 t.n, .int .i64 t.d, .bool t.r]] W fun e w' => e = .returned (.bool true) ∧ Below W.heap.size W w' := by
  have HN := hid hnn; have HR := hid hr; have HF := hid hf
  clear hnn hr hf
  go_enter Try.func12, Try.ntmps12
  go_wp2_with fail
  obtain ⟨V, hV⟩ : ∃ V, V = (W.alloc (.cells #[.int .i64 t.k, .int .i64 t.n, .int .i64 t.d, .bool t.r] 53)) := ⟨_, rfl⟩
  have t0 : ∀ v : After V, v.w.cell? ⟨W.heap.size, 0, none⟩ = some (.int .i64 t.k) := after_cell (by rw [hV]; first | (simp; done) | omega | (simp; omega)) (by rw [hV]; (repeat (first | with_reducible assumption | exact bn (by first | (simp; done) | omega | (simp; omega)) rfl | refine bo (by first | (simp; done) | omega | (simp; omega)) ?_)))
  have ft0 : ∀ v : After V, v.w.frozen? ⟨W.heap.size, 0, none⟩ = false := after_frozen (by rw [hV]; first | (simp; done) | omega | (simp; omega)) (by rw [hV]; (repeat (first | exact fn (by first | (simp; done) | omega | (simp; omega)) | refine fo (by first | (simp; done) | omega | (simp; omega)) ?_)))
  have t1 : ∀ v : After V, v.w.cell? ⟨W.heap.size, 1, none⟩ = some (.int .i64 t.n) := after_cell (by rw [hV]; first | (simp; done) | omega | (simp; omega)) (by rw [hV]; (repeat (first | with_reducible assumption | exact bn (by first | (simp; done) | omega | (simp; omega)) rfl | refine bo (by first | (simp; done) | omega | (simp; omega)) ?_)))
  have ft1 : ∀ v : After V, v.w.frozen? ⟨W.heap.size, 1, none⟩ = false := after_frozen (by rw [hV]; first | (simp; done) | omega | (simp; omega)) (by rw [hV]; (repeat (first | exact fn (by first | (simp; done) | omega | (simp; omega)) | refine fo (by first | (simp; done) | omega | (simp; omega)) ?_)))
  have t2 : ∀ v : After V, v.w.cell? ⟨W.heap.size, 2, none⟩ = some (.int .i64 t.d) := after_cell (by rw [hV]; first | (simp; done) | omega | (simp; omega)) (by rw [hV]; (repeat (first | with_reducible assumption | exact bn (by first | (simp; done) | omega | (simp; omega)) rfl | refine bo (by first | (simp; done) | omega | (simp; omega)) ?_)))
  have ft2 : ∀ v : After V, v.w.frozen? ⟨W.heap.size, 2, none⟩ = false := after_frozen (by rw [hV]; first | (simp; done) | omega | (simp; omega)) (by rw [hV]; (repeat (first | exact fn (by first | (simp; done) | omega | (simp; omega)) | refine fo (by first | (simp; done) | omega | (simp; omega)) ?_)))
  have t3 : ∀ v : After V, v.w.cell? ⟨W.heap.size, 3, none⟩ = some (.bool t.r) := after_cell (by rw [hV]; first | (simp; done) | omega | (simp; omega)) (by rw [hV]; (repeat (first | with_reducible assumption | exact bn (by first | (simp; done) | omega | (simp; omega)) rfl | refine bo (by first | (simp; done) | omega | (simp; omega)) ?_)))
  have ft3 : ∀ v : After V, v.w.frozen? ⟨W.heap.size, 3, none⟩ = false := after_frozen (by rw [hV]; first | (simp; done) | omega | (simp; omega)) (by rw [hV]; (repeat (first | exact fn (by first | (simp; done) | omega | (simp; omega)) | refine fo (by first | (simp; done) | omega | (simp; omega)) ?_)))
  have zt : ∀ v : After V, W.heap.size < v.w.heap.size := after_size (by rw [hV]; first | (simp; done) | omega | (simp; omega))
  have hwV : Below W.heap.size W V := by rw [hV]; exact (by repeat (first | exact Below.refl _ _ | assumption | refine b_then ?_ (by assumption) | refine b_alloc ?_ _ | refine b_drewN ?_ _ | refine b_drew ?_ | refine b_set ?_ (by omega) _ | refine b_set ?_ (by simp) _))
  have WV := hid (after_below hwV)
  rw [← hV]
  obtain ⟨u0, hu⟩ : ∃ u : After V, u.w = V := ⟨After.here V, rfl⟩
  rw [← hu]
  clear hu hV
  have RV := hid (fun v : After V => HR.out.below (WV.out v))
  refine (met (sane9_any u0.w)).mono ?_
  rintro e _ ⟨rfl, u1, rfl⟩
  by_cases hle : nn ≤ 80
  case neg =>
    have d1 : decide ((80 : Int) < nn) = true := decide_eq_true (by omega)
    go_wp2_with fail
    exact bodyPost_ret (v := .bool true) (by simp [results, Try.results12, go_sem]) rfl ⟨rfl, WV.out u1⟩
  have d1 : decide ((80 : Int) < nn) = false := decide_eq_false (by omega)
  have q0 := t0 u1
  have q1 := t1 u1
  have q2 := t2 u1
  have q3 := t3 u1
  go_wp2_with fail
  refine (Insert_any m nn HN.out a c t HF.out (by omega) u1.w (RV.out u1)).mono ?_
  rintro e w9 ⟨v1, rfl, hS1, hB9⟩
  obtain ⟨u2, rfl⟩ : ∃ y9 : After V, w9 = y9.w := ⟨u1.on hB9, rfl⟩
  have hS1 := hid (fun v : After V => fun h : Below u2.w.heap.size u2.w v.w => hS1.below h)
  clear hB9 q0 q1 q2 q3
  have q0 := t0 u2
  have q1 := t1 u2
  have q2 := t2 u2
  have q3 := t3 u2
  go_wp2_with fail
  refine (rInsert_any m nn HN.out a c t HF.out hc hle u2.w (RV.out u2)).mono ?_
  rintro e w9 ⟨v2, rfl, hS2, hB9⟩
  obtain ⟨u3, rfl⟩ : ∃ y9 : After V, w9 = y9.w := ⟨u2.on hB9, rfl⟩
  have hS1 := hS1.out u3 hB9
  clear q0 q1 q2 q3 hB9
  have hl := ins_le (m := m) (t := t)
  obtain ⟨X, hX⟩ : ∃ X, insV m t = X := ⟨_, rfl⟩
  obtain ⟨E, hE⟩ : ∃ E, insE m t = E := ⟨_, rfl⟩
  rw [hX] at hS1 hS2 hl
  rw [hE]
  obtain ⟨xn, hxn⟩ : ∃ n, X.length = n := ⟨_, rfl⟩
  obtain ⟨xa, xc, rfl, hR1, -⟩ := hS1.form hxn
  obtain ⟨ya, yc, rfl, hR2, -⟩ := hS2.form hxn
  have HX := hid hxn; have HR1 := hid hR1; have HR2 := hid hR2
  have hxl : xn ≤ 64 := by omega
  have eE : (E == E) = true := beq_self_eq_true _
  clear hX hE hl hxn hR1 hR2 hS1 hS2
  go_wp2_with fail
  refine (met (same_any X X xn xn HX.out HX.out xa ya xc yc (by omega) u3.w HR1.out HR2.out)).mono ?_
  rintro e _ ⟨rfl, u4, rfl⟩
  rw [decide_eq_true rfl]
  go_wp2_with fail
  exact bodyPost_ret (v := .bool true) (by simp [results, Try.results12, go_sem]) rfl ⟨rfl, WV.out u4⟩
end Go.Proofs.Ytbppajenihjfhaa
namespace Go.Proofs.Ytbppajenihjfhaa.Ins12
open Go.ChangeShapes Go.WideShapes Go.ChangeAt Go.RowKit Go.Joins

theorem own : ownKnob Try.prog.godebug = none := by kernel_rfl
theorem laidOut : laidOutB Try.prog = true := by kernel_rfl

set_option maxRecDepth 100000 in
theorem lifted (os : Os) (started : os.Started) (H : Type) (enc : TypeId × Value → H) :
    ReturnsInHanded {} Try.checked os 12 .any (Rows.tempoInsertSpecSpec.pre6 enc Try.prog Try.f12 Rows.tempoInsertSpecRow.domain false) (Rows.tempoInsertSpecSpec.post enc Try.prog Try.f12 false true false false) := by
  refine returnsInHanded_of_change (C := Try.checked) own started (by kernel_rfl) Try.func12
    (ChangeSpec.witness6 (enc := enc) (C := Try.checked) false ⟨#[], #[.slice none 0 0, .agg #[.int .i64 0, .int .i64 0, .int .i64 0, .bool false]], []⟩ 8 (by kernel_rfl) (by kernel_rfl) (by kernel_rfl) (by kernel_rfl)) ?_
  intro W base args ds gs before hval0 hW hcnd _
  have hval : ∀ (j : Nat) t v, Try.f12.params[j]? = some t → args[j]? = some v → Value.okWide Try.prog W .any base t v := hval0
  have hW' := hW
  obtain ⟨p, q, hA0, hV, rfl, hfz, hnd⟩ := hW
  have hA : DataW.TrodAll enc Try.prog W 0 (fun _ => true) true Try.f12.params.toList args.toList ds p := hA0
  rw [Try.params12] at hA hval
  obtain ⟨v0, vs0, d0, ds0, p0, q0, hargs, rfl, rfl, h0, r0⟩ := trodAll_cons hA
  obtain ⟨v1, vs1, d1, ds1, p1, q1, rfl, rfl, rfl, h1, r1⟩ := trodAll_cons r0
  obtain ⟨rfl, rfl, rfl⟩ := trodAll_nil r1
  obtain rfl : args = #[v0, v1] := by cases args; simp_all
  obtain ⟨rfl, rfl⟩ := trodVars_none hV
  have k0 := h0
  have lt0 : ∀ x ∈ p0, x.block < W.heap.size := by obtain ⟨m, hm⟩ := k0; exact DataW.trod_lt m _ _ _ hm
  obtain ⟨xa0, xn0, xc0, rfl⟩ := okWide_slice Try.underlying48 (hval 0 48 v0 rfl rfl)
  obtain ⟨m0, hm0⟩ := h0
  obtain ⟨a0, n0, c0, e0, lc0, mc0, fz0, ⟨l0, ln0, rd0⟩, sz0⟩ := open_tps hm0
  cases e0
  have nb0 := Nat.le_trans lc0 (max_len mc0)
  have k1 := h1
  have lt1 : ∀ x ∈ p1, x.block < W.heap.size := by obtain ⟨m, hm⟩ := k1; exact DataW.trod_lt m _ _ _ hm
  obtain ⟨t1, rfl⟩ := open_tpv (hval 1 53 v1 rfl rfl) h1
  clear hA0 hval0
  refine (insSpec_walk l0 xn0 ln0 xa0 xc0 t1 fz0 lc0 nb0 W rd0).mono fun e W' ⟨he, bel⟩ => ?_
  subst he
  exact ⟨_, rfl, _, _, _, [], _, [], hW', trodAll_mk1 (shut_bool Try.underlying4 _), (trodAll_cons_mk (Below.trod laidOut (by kernel_rfl) (of_decide_eq_true (by kernel_rfl)) k0 bel lt0) (trodAll_cons_mk (Below.trod laidOut (by kernel_rfl) (of_decide_eq_true (by kernel_rfl)) k1 bel lt1) trodAll_mk0)), rfl, bel.frame _, fun h => by cases h⟩

theorem over : Rows.tempoInsertSpecRow.holds Try.pinned (OpenSpec.ofChange Rows.tempoInsertSpecSpec) :=
  OpenClaim.holds_of_wide 12 Try.f12 rfl rfl rfl rfl rfl rfl rfl ⟨rfl, rfl, rfl, rfl, rfl⟩ rfl rfl rfl rfl rfl (by kernel_rfl) Try.func12 (by show joinedFacts Try.prog _ _ _ _ = true; unfold joinedFacts; rw [may0, lift0, make0]; kernel_rfl)
    (of_decide_eq_true (by kernel_rfl)) (by unfold Func.isWrapper; first | (rw [if_pos (by decide +kernel)]; kernel_rfl) | (rw [if_neg (by decide +kernel)]; exact ⟨rfl, rfl⟩))
    (fun os started H enc _ => lifted os started H enc)
end Go.Proofs.Ytbppajenihjfhaa.Ins12
namespace Go.Proofs.Ytbppajenihjfhaa
/-- The statement. -/
theorem tempoInsertSpec_holds : Rows.TempoInsertSpecSaid := Ins12.over
end Go.Proofs.Ytbppajenihjfhaa
