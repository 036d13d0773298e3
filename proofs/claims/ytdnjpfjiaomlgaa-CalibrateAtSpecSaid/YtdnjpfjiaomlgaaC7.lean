/- Clone, insert, Add. -/
import Derived.Test.YtdnjpfjiaomlgaaC6
import Derived.Test.YtdnjpfjiaomlgaaC4
import Derived.Test.YtdnjpfjiaomlgaaQ2
import Derived.Test.YtdnjpfjiaomlgaaG0
import Derived.IntWalk
namespace Go.Proofs.Ytdnjpfjiaomlgaa
open Go.RowKit
open Go.Lib (hid)

set_option maxRecDepth 100000 in
set_option maxHeartbeats 4000000 in
theorem rclone_any (m : List Rc) (n : Nat) (hn : m.length = n) (a : Option Addr) (c : Nat) (hf : a = none → n = 0 ∧ c = 0) (hb : n ≤ 100000) (w : World) (hr : Rd w a (m.flatMap Rc.cs)) :
    Calls Try.prog 35 #[.slice a n c] w fun e w' => (∃ v, e = .returned v ∧ w'.ownsRow w.heap.size 24 5 v n (m.flatMap Rc.cs)) ∧ Below w.heap.size w w' := by
  have HN := hid hn; have HR := hid hr
  clear hn hr
  obtain ⟨i0, hi, hz0, hz1, hz2⟩ := info_parts info24
  have q1 := @Lib.run_eql_slice_nil
  cases a with
  | none =>
    obtain ⟨rfl, rfl⟩ := hf rfl
    go_enter Try.func35, Try.ntmps35
    go_wp2_with fail
    refine bodyPost_ret (v := .slice none 0 0) (by simp [results, Try.results35, go_sem]) rfl ⟨⟨_, rfl, ?_⟩, Below.refl _ _⟩
    rw [List.eq_nil_of_length_eq_zero HN.out]
    exact World.ownsRow_nil _ _ _ _
  | some ad =>
    go_enter Try.func35, Try.ntmps35
    go_wp2_with (at_builtin; refine wpList_append_rd _ rfl (.tmp 5) (.tmp 6) 22 rfl w.heap.size 24 i0 (.agg #[.int .i64 0, .int .i64 0, .int .i64 0, .int .i64 0, .int .i64 0]) 5 40 und22 hi hz0 hz1 hz2 rfl (by decide) _ _ _ rfl (World.ownsRow_made w #[] 0 (Nat.le_refl _) (by unfold maxLen; omega) (by simp)) (some ad) n c (m.flatMap Rc.cs) rfl (by rw [flat_len Rc.cs 5 Rc.c5, HN.out]) (HR.out.alloc _) (Rc.ones _) (by unfold maxLen; omega) (by omega) (by simp) ?_; intro v' w1 hown' hgrow)
    exact bodyPost_ret (v := v') (by simp [results, Try.results35, go_sem]) rfl ⟨⟨v', rfl, by simpa using hown'⟩, (own_below (World.ownsRow_made w #[] 0 (base := w.heap.size) (size := 5) (Nat.le_refl _) (by unfold maxLen; omega) (by simp)) hgrow (by simp) |> (((Below.refl w.heap.size w).alloc (Nat.le_refl _) _).trans ·))⟩
/-- What insert answers. -/
def insR (l : List Rc) (t : Rc) : List Rc := if dupR l t = true then [] else addL l t
theorem insR_new {l : List Rc} {t : Rc} (h : dupR l t = false) : insR l t = addL l t := by unfold insR; rw [if_neg (by rw [h]; decide)]
theorem insR_old {l : List Rc} {t : Rc} (h : dupR l t = true) : insR l t = [] := if_pos h
set_option maxRecDepth 100000 in
set_option maxHeartbeats 4000000 in
theorem insert_any (l : List Rc) (nn : Nat) (hnn : l.length = nn) (a : Option Addr) (c : Nat) (t : Rc) (hf : a = none → nn = 0 ∧ c = 0) (w : World) (hn : nn ≤ 256) (hl : PreR l l.length) (hr : Rd w a (l.flatMap Rc.cs)) :
    Calls Try.prog 22 #[.slice a nn c, .agg #[.int .i64 t.d, .int .i64 t.f, .int .i64 t.k, .int .i64 t.i, .int .i64 t.o], .func (.func 23) #[] #[]] w fun e w' => ∃ v, e = .returned (.tuple #[v, .bool (!dupR l t)]) ∧ RcIs w' v (insR l t) ∧ Below w.heap.size w w' := by
  have HN := hid hnn; have HL := hid hl; have HR := hid hr; have HF := hid hf
  clear hnn hl hr hf
  go_enter Try.func22, Try.ntmps22
  go_upto_region 1 with (fail)
  obtain ⟨V, hV⟩ : ∃ V, V = ((w.alloc (.cells #[.int .i64 t.d, .int .i64 t.f, .int .i64 t.k, .int .i64 t.i, .int .i64 t.o] 24)).alloc (.cells #[.func (.func 23) #[] #[]] 51)) := ⟨_, rfl⟩
  have t0 : ∀ v : After V, v.w.cell? ⟨w.heap.size, 0, none⟩ = some (.int .i64 t.d) := after_cell (by rw [hV]; first | (simp; done) | omega | (simp; omega)) (by rw [hV]; (repeat (first | with_reducible assumption | exact bn (by first | (simp; done) | omega | (simp; omega)) rfl | refine bo (by first | (simp; done) | omega | (simp; omega)) ?_)))
  have ft0 : ∀ v : After V, v.w.frozen? ⟨w.heap.size, 0, none⟩ = false := after_frozen (by rw [hV]; first | (simp; done) | omega | (simp; omega)) (by rw [hV]; (repeat (first | exact fn (by first | (simp; done) | omega | (simp; omega)) | refine fo (by first | (simp; done) | omega | (simp; omega)) ?_)))
  have t1 : ∀ v : After V, v.w.cell? ⟨w.heap.size, 1, none⟩ = some (.int .i64 t.f) := after_cell (by rw [hV]; first | (simp; done) | omega | (simp; omega)) (by rw [hV]; (repeat (first | with_reducible assumption | exact bn (by first | (simp; done) | omega | (simp; omega)) rfl | refine bo (by first | (simp; done) | omega | (simp; omega)) ?_)))
  have ft1 : ∀ v : After V, v.w.frozen? ⟨w.heap.size, 1, none⟩ = false := after_frozen (by rw [hV]; first | (simp; done) | omega | (simp; omega)) (by rw [hV]; (repeat (first | exact fn (by first | (simp; done) | omega | (simp; omega)) | refine fo (by first | (simp; done) | omega | (simp; omega)) ?_)))
  have t2 : ∀ v : After V, v.w.cell? ⟨w.heap.size, 2, none⟩ = some (.int .i64 t.k) := after_cell (by rw [hV]; first | (simp; done) | omega | (simp; omega)) (by rw [hV]; (repeat (first | with_reducible assumption | exact bn (by first | (simp; done) | omega | (simp; omega)) rfl | refine bo (by first | (simp; done) | omega | (simp; omega)) ?_)))
  have ft2 : ∀ v : After V, v.w.frozen? ⟨w.heap.size, 2, none⟩ = false := after_frozen (by rw [hV]; first | (simp; done) | omega | (simp; omega)) (by rw [hV]; (repeat (first | exact fn (by first | (simp; done) | omega | (simp; omega)) | refine fo (by first | (simp; done) | omega | (simp; omega)) ?_)))
  have t3 : ∀ v : After V, v.w.cell? ⟨w.heap.size, 3, none⟩ = some (.int .i64 t.i) := after_cell (by rw [hV]; first | (simp; done) | omega | (simp; omega)) (by rw [hV]; (repeat (first | with_reducible assumption | exact bn (by first | (simp; done) | omega | (simp; omega)) rfl | refine bo (by first | (simp; done) | omega | (simp; omega)) ?_)))
  have ft3 : ∀ v : After V, v.w.frozen? ⟨w.heap.size, 3, none⟩ = false := after_frozen (by rw [hV]; first | (simp; done) | omega | (simp; omega)) (by rw [hV]; (repeat (first | exact fn (by first | (simp; done) | omega | (simp; omega)) | refine fo (by first | (simp; done) | omega | (simp; omega)) ?_)))
  have t4 : ∀ v : After V, v.w.cell? ⟨w.heap.size, 4, none⟩ = some (.int .i64 t.o) := after_cell (by rw [hV]; first | (simp; done) | omega | (simp; omega)) (by rw [hV]; (repeat (first | with_reducible assumption | exact bn (by first | (simp; done) | omega | (simp; omega)) rfl | refine bo (by first | (simp; done) | omega | (simp; omega)) ?_)))
  have ft4 : ∀ v : After V, v.w.frozen? ⟨w.heap.size, 4, none⟩ = false := after_frozen (by rw [hV]; first | (simp; done) | omega | (simp; omega)) (by rw [hV]; (repeat (first | exact fn (by first | (simp; done) | omega | (simp; omega)) | refine fo (by first | (simp; done) | omega | (simp; omega)) ?_)))
  have zt : ∀ v : After V, w.heap.size < v.w.heap.size := after_size (by rw [hV]; first | (simp; done) | omega | (simp; omega))
  have f0 : ∀ v : After V, v.w.cell? ⟨w.heap.size + 1, 0, none⟩ = some (.func (.func 23) #[] #[]) := after_cell (by rw [hV]; first | (simp; done) | omega | (simp; omega)) (by rw [hV]; (repeat (first | with_reducible assumption | exact bn (by first | (simp; done) | omega | (simp; omega)) rfl | refine bo (by first | (simp; done) | omega | (simp; omega)) ?_)))
  have ff0 : ∀ v : After V, v.w.frozen? ⟨w.heap.size + 1, 0, none⟩ = false := after_frozen (by rw [hV]; first | (simp; done) | omega | (simp; omega)) (by rw [hV]; (repeat (first | exact fn (by first | (simp; done) | omega | (simp; omega)) | refine fo (by first | (simp; done) | omega | (simp; omega)) ?_)))
  have zf : ∀ v : After V, w.heap.size + 1 < v.w.heap.size := after_size (by rw [hV]; first | (simp; done) | omega | (simp; omega))
  have hwV : Below w.heap.size w V := by rw [hV]; exact (by repeat (first | exact Below.refl _ _ | assumption | refine b_then ?_ (by assumption) | refine b_alloc ?_ _ | refine b_drewN ?_ _ | refine b_drew ?_ | refine b_set ?_ (by omega) _ | refine b_set ?_ (by simp) _))
  have WV := hid (after_below hwV)
  rw [← hV]
  obtain ⟨u0, hu⟩ : ∃ u : After V, u.w = V := ⟨After.here V, rfl⟩
  rw [← hu]
  clear hu hV
  have RV := hid (fun v : After V => HR.out.below (WV.out v))
  clear HR
  go_wp2_with fail
  refine (met (keyOf_any t.d t.f t.k t.i t.o u0.w)).mono ?_
  rintro e _ ⟨rfl, u1, rfl⟩
  go_wp2_with fail
  refine (met (bsf_any l nn HN.out a c t (w.heap.size + 1) u1.w hn HL.out (RV.out u1) (f0 u1))).mono ?_
  rintro e _ ⟨rfl, u2, rfl⟩
  have hbn := (cntR_spec l t).1
  rw [HN.out] at hbn
  rcases hd : dupR l t with _ | _
  · have HD := hid hd; clear hd
    obtain ⟨B, hB⟩ : ∃ B, cntR l t = B := ⟨_, rfl⟩
    rw [hB] at hbn ⊢
    have HB := hid (show addL l t = l.take B ++ t :: l.drop B by rw [← hB]; rfl)
    clear hB
    go_upto_region 4 with (fail)
    refine whole_region 8 rfl (by kernel_rfl) ?_
    intro u2
    refine h_take 0 (x := ?_) rfl (by kernel_rfl) (by kernel_rfl) (by kernel_rfl) (fun _ _ _ h => h) (by rfl) (fun v => ?_) ?_
    rotate_left
    · (go_simp; try with_reducible rfl)
    try simp only [Act.put, List.setIfInBounds_toArray, List.set_cons_zero, List.set_cons_succ]
    refine h_take 2 (x := ?_) rfl (by kernel_rfl) (by kernel_rfl) (by kernel_rfl) (fun _ _ _ h => h) (by rfl) (fun v => ?_) ?_
    rotate_left
    · (go_simp; try with_reducible rfl)
    try simp only [Act.put, List.setIfInBounds_toArray, List.set_cons_zero, List.set_cons_succ]
    refine h_take 3 (x := ?_) rfl (by kernel_rfl) (by kernel_rfl) (by kernel_rfl) (fun _ _ _ h => h) (by rfl) (fun v => ?_) ?_
    rotate_left
    · (go_simp; try with_reducible rfl)
    try simp only [Act.put, List.setIfInBounds_toArray, List.set_cons_zero, List.set_cons_succ]
    refine h_two 1 4 (by kernel_rfl) rfl rfl (fun K hK => ?_) (fun K hK => ?_)
    · go_simp
      refine (rclone_any l nn HN.out a c HF.out (by omega) u2.w (RV.out u2)).mono ?_
      rintro e w7 ⟨⟨v7, rfl, ho7⟩, hB7⟩
      have hs7 := hB7.size
      have hbs : u2.w.heap.size ≤ w7.heap.size := hs7
      have hbv : V.heap.size ≤ u2.w.heap.size := u2.2.size
      obtain ⟨v1, rfl⟩ : ∃ v1 : After V, w7 = v1.w := ⟨u2.on hB7, rfl⟩
      clear hB7
      go_simp
      refine hK _ v1 ?_
      clear hK K
      try simp only [Act.put, List.setIfInBounds_toArray, List.set_cons_zero, List.set_cons_succ]
      refine h_step 4 (by kernel_rfl) rfl (fun K hK => ?_)
      go_simp
      obtain ⟨va, hva⟩ : ∃ y : After V, y.w = v1.w.alloc (.cells #[.int .i64 t.d, .int .i64 t.f, .int .i64 t.k, .int .i64 t.i, .int .i64 t.o] 24) := ⟨v1.on (b_alloc (Below.refl _ _) _), rfl⟩
      rw [← hva]
      have hgb : va.w.heap[v1.w.heap.size]? = some (.cells t.cs.toArray 24 (0, 0)) := by rw [hva]; exact World.alloc_heap_new _ _
      have hgl : v1.w.heap.size < va.w.heap.size := by rw [hva]; simp
      have hsa : va.w.heap.size = v1.w.heap.size + 1 := by rw [hva]; simp
      have hne : v7.ownBlock ≠ some v1.w.heap.size := fun h => by have := (ho7.lt _ h).2; omega
      have ho7 := own_after ho7 (w' := va.w) (by rw [hva]; exact b_alloc (Below.refl _ _) _)
      have hbs : u2.w.heap.size ≤ va.w.heap.size := by omega
      clear hva
      refine hK _ va ?_
      clear hK K
      try simp only [Act.put, List.setIfInBounds_toArray, List.set_cons_zero, List.set_cons_succ]
      refine h_step 5 (by kernel_rfl) rfl (fun K hK => ?_)
      go_simp
      refine (sins_any l t nn B v1.w.heap.size 1 (u2.w.heap.size) v7 HN.out hbn (by omega) va.w hbs ho7 hgb hne).mono ?_
      rintro e w6 ⟨v6, rfl, ho6, hB6⟩
      obtain ⟨z6, rfl⟩ : ∃ z : After V, w6 = z.w := ⟨⟨w6, va.2.trans (hB6.mono hbv)⟩, rfl⟩
      clear hB6
      go_simp
      refine hK _ z6 ?_
      clear hK K
      try simp only [Act.put, List.setIfInBounds_toArray, List.set_cons_zero, List.set_cons_succ]
      refine h_take 6 (x := ?_) rfl (by kernel_rfl) (by kernel_rfl) (by kernel_rfl) (fun _ _ _ h => h) (by rfl) (fun v => ?_) ?_
      rotate_left
      · (go_simp; try with_reducible rfl)
      try simp only [Act.put, List.setIfInBounds_toArray, List.set_cons_zero, List.set_cons_succ]
      refine h_take 7 (x := ?_) rfl (by kernel_rfl) (by kernel_rfl) (by kernel_rfl) (fun _ _ _ h => h) (by rfl) (fun v => ?_) ?_
      rotate_left
      · (go_simp; try with_reducible rfl)
      try simp only [Act.put, List.setIfInBounds_toArray, List.set_cons_zero, List.set_cons_succ]
      refine wpAnyH_done (by kernel_rfl) ?_ _
      refine NoPanic.normal ?_
      obtain ⟨xa, xc, rfl, hxc, hxn, hxR, -⟩ := own_slice ho6
      rw [← HB.out] at hxR
      have hsl := hid (show RcIs z6.w (.slice xa (nn + 1) xc) (addL l t) from ⟨xa, xc, by rw [addL_len, HN.out], hxR, by rw [addL_len, HN.out]; exact hxc, by rw [addL_len, HN.out]; exact hxn⟩)
      clear hxR hxn hxc ho6 ho7 hgb hne
      go_wp2_with fail
      exact bodyPost_ret (v := .tuple #[.slice xa (nn + 1) xc, .bool true]) (by simp [results, Try.results22, go_sem]) rfl ⟨.slice xa (nn + 1) xc, by first | rfl | (rw [HD.out]; rfl), (by rw [insR_new HD.out]; exact hsl.out), WV.out z6⟩
    · go_simp
      obtain ⟨va, hva⟩ : ∃ y : After V, y.w = u2.w.alloc (.cells #[.int .i64 t.d, .int .i64 t.f, .int .i64 t.k, .int .i64 t.i, .int .i64 t.o] 24) := ⟨u2.on (b_alloc (Below.refl _ _) _), rfl⟩
      rw [← hva]
      have hgb : va.w.heap[u2.w.heap.size]? = some (.cells t.cs.toArray 24 (0, 0)) := by rw [hva]; exact World.alloc_heap_new _ _
      have hgl : u2.w.heap.size < va.w.heap.size := by rw [hva]; simp
      have hsa : va.w.heap.size = u2.w.heap.size + 1 := by rw [hva]; simp
      clear hva
      refine hK _ va ?_
      clear hK K
      try simp only [Act.put, List.setIfInBounds_toArray, List.set_cons_zero, List.set_cons_succ]
      refine h_step 1 (by kernel_rfl) rfl (fun K hK => ?_)
      go_simp
      refine (rclone_any l nn HN.out a c HF.out (by omega) va.w (RV.out va)).mono ?_
      rintro e w7 ⟨⟨v7, rfl, ho7⟩, hB7⟩
      have hs7 := hB7.size
      have hgb := (hB7.block _ hgl).trans hgb
      have hgl := Nat.lt_of_lt_of_le hgl hs7
      have hne : v7.ownBlock ≠ some u2.w.heap.size := fun h => by have := (ho7.lt _ h).1; omega
      have hbs : va.w.heap.size ≤ w7.heap.size := hs7
      have hbv : V.heap.size ≤ va.w.heap.size := va.2.size
      obtain ⟨v1, rfl⟩ : ∃ v1 : After V, w7 = v1.w := ⟨va.on hB7, rfl⟩
      clear hB7
      go_simp
      refine hK _ v1 ?_
      clear hK K
      try simp only [Act.put, List.setIfInBounds_toArray, List.set_cons_zero, List.set_cons_succ]
      refine h_step 5 (by kernel_rfl) rfl (fun K hK => ?_)
      go_simp
      refine (sins_any l t nn B u2.w.heap.size 1 (va.w.heap.size) v7 HN.out hbn (by omega) v1.w hbs ho7 hgb hne).mono ?_
      rintro e w6 ⟨v6, rfl, ho6, hB6⟩
      obtain ⟨z6, rfl⟩ : ∃ z : After V, w6 = z.w := ⟨⟨w6, v1.2.trans (hB6.mono hbv)⟩, rfl⟩
      clear hB6
      go_simp
      refine hK _ z6 ?_
      clear hK K
      try simp only [Act.put, List.setIfInBounds_toArray, List.set_cons_zero, List.set_cons_succ]
      refine h_take 6 (x := ?_) rfl (by kernel_rfl) (by kernel_rfl) (by kernel_rfl) (fun _ _ _ h => h) (by rfl) (fun v => ?_) ?_
      rotate_left
      · (go_simp; try with_reducible rfl)
      try simp only [Act.put, List.setIfInBounds_toArray, List.set_cons_zero, List.set_cons_succ]
      refine h_take 7 (x := ?_) rfl (by kernel_rfl) (by kernel_rfl) (by kernel_rfl) (fun _ _ _ h => h) (by rfl) (fun v => ?_) ?_
      rotate_left
      · (go_simp; try with_reducible rfl)
      try simp only [Act.put, List.setIfInBounds_toArray, List.set_cons_zero, List.set_cons_succ]
      refine wpAnyH_done (by kernel_rfl) ?_ _
      refine NoPanic.normal ?_
      obtain ⟨xa, xc, rfl, hxc, hxn, hxR, -⟩ := own_slice ho6
      rw [← HB.out] at hxR
      have hsl := hid (show RcIs z6.w (.slice xa (nn + 1) xc) (addL l t) from ⟨xa, xc, by rw [addL_len, HN.out], hxR, by rw [addL_len, HN.out]; exact hxc, by rw [addL_len, HN.out]; exact hxn⟩)
      clear hxR hxn hxc ho6 ho7 hgb hne
      go_wp2_with fail
      exact bodyPost_ret (v := .tuple #[.slice xa (nn + 1) xc, .bool true]) (by simp [results, Try.results22, go_sem]) rfl ⟨.slice xa (nn + 1) xc, by first | rfl | (rw [HD.out]; rfl), (by rw [insR_new HD.out]; exact hsl.out), WV.out z6⟩
  · have HD := hid hd; clear hd
    go_wp2_with fail
    exact bodyPost_ret (v := .tuple #[.slice none 0 0, .bool false]) (by simp [results, Try.results22, go_sem]) rfl ⟨.slice none 0 0, by first | rfl | (rw [HD.out]; rfl), (by rw [insR_old HD.out]; exact RcIs.nil _), WV.out u2⟩

set_option maxRecDepth 100000 in
set_option maxHeartbeats 4000000 in
theorem add_any (l : List Rc) (nn : Nat) (hnn : l.length = nn) (a : Option Addr) (c : Nat) (t : Rc) (hf : a = none → nn = 0 ∧ c = 0) (w : World) (hn : nn ≤ 9223372036854775807) (hr : Rd w a (l.flatMap Rc.cs)) :
    Calls Try.prog 10 #[.slice a nn c, .agg #[.int .i64 t.d, .int .i64 t.f, .int .i64 t.k, .int .i64 t.i, .int .i64 t.o]] w fun e w' => ∃ v, e = .returned (.tuple #[v, .int .i64 (addE l t)]) ∧ RcIs w' v (addV l t) ∧ Below w.heap.size w w' := by
  have HN := hid hnn; have HR := hid hr; have HF := hid hf
  clear hnn hr hf
  go_enter Try.func10, Try.ntmps10
  go_upto_region 1 with (fail)
  obtain ⟨V, hV⟩ : ∃ V, V = (w.alloc (.cells #[.int .i64 t.d, .int .i64 t.f, .int .i64 t.k, .int .i64 t.i, .int .i64 t.o] 24)) := ⟨_, rfl⟩
  have t0 : ∀ v : After V, v.w.cell? ⟨w.heap.size, 0, none⟩ = some (.int .i64 t.d) := after_cell (by rw [hV]; first | (simp; done) | omega | (simp; omega)) (by rw [hV]; (repeat (first | with_reducible assumption | exact bn (by first | (simp; done) | omega | (simp; omega)) rfl | refine bo (by first | (simp; done) | omega | (simp; omega)) ?_)))
  have ft0 : ∀ v : After V, v.w.frozen? ⟨w.heap.size, 0, none⟩ = false := after_frozen (by rw [hV]; first | (simp; done) | omega | (simp; omega)) (by rw [hV]; (repeat (first | exact fn (by first | (simp; done) | omega | (simp; omega)) | refine fo (by first | (simp; done) | omega | (simp; omega)) ?_)))
  have t1 : ∀ v : After V, v.w.cell? ⟨w.heap.size, 1, none⟩ = some (.int .i64 t.f) := after_cell (by rw [hV]; first | (simp; done) | omega | (simp; omega)) (by rw [hV]; (repeat (first | with_reducible assumption | exact bn (by first | (simp; done) | omega | (simp; omega)) rfl | refine bo (by first | (simp; done) | omega | (simp; omega)) ?_)))
  have ft1 : ∀ v : After V, v.w.frozen? ⟨w.heap.size, 1, none⟩ = false := after_frozen (by rw [hV]; first | (simp; done) | omega | (simp; omega)) (by rw [hV]; (repeat (first | exact fn (by first | (simp; done) | omega | (simp; omega)) | refine fo (by first | (simp; done) | omega | (simp; omega)) ?_)))
  have t2 : ∀ v : After V, v.w.cell? ⟨w.heap.size, 2, none⟩ = some (.int .i64 t.k) := after_cell (by rw [hV]; first | (simp; done) | omega | (simp; omega)) (by rw [hV]; (repeat (first | with_reducible assumption | exact bn (by first | (simp; done) | omega | (simp; omega)) rfl | refine bo (by first | (simp; done) | omega | (simp; omega)) ?_)))
  have ft2 : ∀ v : After V, v.w.frozen? ⟨w.heap.size, 2, none⟩ = false := after_frozen (by rw [hV]; first | (simp; done) | omega | (simp; omega)) (by rw [hV]; (repeat (first | exact fn (by first | (simp; done) | omega | (simp; omega)) | refine fo (by first | (simp; done) | omega | (simp; omega)) ?_)))
  have t3 : ∀ v : After V, v.w.cell? ⟨w.heap.size, 3, none⟩ = some (.int .i64 t.i) := after_cell (by rw [hV]; first | (simp; done) | omega | (simp; omega)) (by rw [hV]; (repeat (first | with_reducible assumption | exact bn (by first | (simp; done) | omega | (simp; omega)) rfl | refine bo (by first | (simp; done) | omega | (simp; omega)) ?_)))
  have ft3 : ∀ v : After V, v.w.frozen? ⟨w.heap.size, 3, none⟩ = false := after_frozen (by rw [hV]; first | (simp; done) | omega | (simp; omega)) (by rw [hV]; (repeat (first | exact fn (by first | (simp; done) | omega | (simp; omega)) | refine fo (by first | (simp; done) | omega | (simp; omega)) ?_)))
  have t4 : ∀ v : After V, v.w.cell? ⟨w.heap.size, 4, none⟩ = some (.int .i64 t.o) := after_cell (by rw [hV]; first | (simp; done) | omega | (simp; omega)) (by rw [hV]; (repeat (first | with_reducible assumption | exact bn (by first | (simp; done) | omega | (simp; omega)) rfl | refine bo (by first | (simp; done) | omega | (simp; omega)) ?_)))
  have ft4 : ∀ v : After V, v.w.frozen? ⟨w.heap.size, 4, none⟩ = false := after_frozen (by rw [hV]; first | (simp; done) | omega | (simp; omega)) (by rw [hV]; (repeat (first | exact fn (by first | (simp; done) | omega | (simp; omega)) | refine fo (by first | (simp; done) | omega | (simp; omega)) ?_)))
  have zt : ∀ v : After V, w.heap.size < v.w.heap.size := after_size (by rw [hV]; first | (simp; done) | omega | (simp; omega))
  have hwV : Below w.heap.size w V := by rw [hV]; exact (by repeat (first | exact Below.refl _ _ | assumption | refine b_then ?_ (by assumption) | refine b_alloc ?_ _ | refine b_drewN ?_ _ | refine b_drew ?_ | refine b_set ?_ (by omega) _ | refine b_set ?_ (by simp) _))
  have WV := hid (after_below hwV)
  rw [← hV]
  obtain ⟨u0, hu⟩ : ∃ u : After V, u.w = V := ⟨After.here V, rfl⟩
  rw [← hu]
  clear hu hV
  have RV := hid (fun v : After V => HR.out.below (WV.out v))
  clear HR
  go_wp2_with fail
  refine (met (check_any l nn HN.out a c u0.w hn (RV.out u0))).mono ?_
  rintro e _ ⟨rfl, u1, rfl⟩
  by_cases hk : chkR l = 0
  case neg =>
    have HE := hid (show addE l t = chkR l from if_pos hk)
    have hne : (chkR l != 0) = true := by simpa using hk
    obtain ⟨E, hE⟩ : ∃ E, chkR l = E := ⟨_, rfl⟩
    rw [hE] at hne HE ⊢
    have HK := hid (show ¬ E = 0 by rw [← hE]; exact hk)
    clear hk hE
    go_wp2_with fail
    exact bodyPost_ret (v := .tuple #[.slice none 0 0, .int .i64 E]) (by simp [results, Try.results10, go_sem]) rfl ⟨_, by rw [HE.out], by rw [addV, if_neg (by rw [HE.out]; exact HK.out)]; exact RcIs.nil _, WV.out u1⟩
  obtain ⟨h256, hg⟩ := chkR_good hk
  rw [HN.out] at h256
  rw [hk]
  have HK := hid hk; have HG := hid hg
  clear hk hg
  go_wp2_with fail
  refine (met (valid_any t.d t.f t.k t.i t.o u1.w)).mono ?_
  rintro e _ ⟨rfl, u2, rfl⟩
  have hv0 : rcOk ⟨t.d, t.f, t.k, t.i, t.o⟩ = rcOk t := rfl
  rw [hv0]
  clear hv0
  rcases hv : rcOk t with _ | _
  · have HE := hid (show addE l t = 420 by unfold addE; rw [if_neg (fun h => h HK.out), if_pos hv])
    clear hv
    go_wp2_with fail
    exact bodyPost_ret (v := .tuple #[.slice none 0 0, .int .i64 420]) (by simp [results, Try.results10, go_sem]) rfl ⟨_, by rw [HE.out], by rw [addV, if_neg (by rw [HE.out]; decide)]; exact RcIs.nil _, WV.out u2⟩
  have HV := hid hv; clear hv
  go_wp2_with fail
  refine (insert_any l nn HN.out a c t HF.out u2.w h256 HG.out (RV.out u2)).mono ?_
  rintro e w9 ⟨v9, rfl, his, hB9⟩
  obtain ⟨u3, rfl⟩ : ∃ y : After V, w9 = y.w := ⟨u2.on hB9, rfl⟩
  clear hB9
  rcases hd : dupR l t with _ | _
  · have HD := hid hd
    rw [insR_new hd] at his
    clear hd
    obtain ⟨a9, c9, rfl, hr9, hc9, hz9⟩ := his.form (show (addL l t).length = nn + 1 by rw [addL_len, HN.out])
    have HIS := hid his
    clear his hr9 hz9
    by_cases h6 : nn = 256
    · have HE := hid (show addE l t = 2 by unfold addE; rw [if_neg (fun h => h HK.out), if_neg (by rw [HV.out]; decide), if_neg (by rw [HD.out]; decide), if_pos (by rw [HN.out]; exact h6)])
      have d1 : decide (256 < (nn : Int) + 1) = true := decide_eq_true (by omega)
      have d1' : decide (256 < nn + 1) = true := decide_eq_true (by omega)
      go_wp2_with fail
      exact bodyPost_ret (v := .tuple #[.slice none 0 0, .int .i64 2]) (by simp [results, Try.results10, go_sem]) rfl ⟨_, by rw [HE.out], by rw [addV, if_neg (by rw [HE.out]; decide)]; exact RcIs.nil _, WV.out u3⟩
    · have HE := hid (show addE l t = 0 by unfold addE; rw [if_neg (fun h => h HK.out), if_neg (by rw [HV.out]; decide), if_neg (by rw [HD.out]; decide), if_neg (by rw [HN.out]; exact h6)])
      have d1 : decide (256 < (nn : Int) + 1) = false := decide_eq_false (by omega)
      have d1' : decide (256 < nn + 1) = false := decide_eq_false (by omega)
      go_wp2_with fail
      exact bodyPost_ret (v := .tuple #[.slice a9 (nn + 1) c9, .int .i64 0]) (by simp [results, Try.results10, go_sem]) rfl ⟨_, by rw [HE.out], by rw [addV, if_pos HE.out]; exact HIS.out, WV.out u3⟩
  · have HE := hid (show addE l t = 420 by unfold addE; rw [if_neg (fun h => h HK.out), if_neg (by rw [HV.out]; decide), if_pos hd])
    clear hd his
    go_wp2_with fail
    exact bodyPost_ret (v := .tuple #[.slice none 0 0, .int .i64 420]) (by simp [results, Try.results10, go_sem]) rfl ⟨_, by rw [HE.out], by rw [addV, if_neg (by rw [HE.out]; decide)]; exact RcIs.nil _, WV.out u3⟩
end Go.Proofs.Ytdnjpfjiaomlgaa
