/- NetworkAll: for all packets and orders: without losses, repetitions and cuts each packet that can be sent is delivered once. No condition. -/
import Derived.Test.YtmikhkmdcpgkfaaC4
import Derived.Test.YtmikhkmdcpgkfaaT
import Derived.Test.YtmikhkmdcpgkfaaP
namespace Go.Proofs.Ytmikhkmdcpgkfaa
open Go.RowKit
open Go.Lib (hid)

theorem whole_region {P : Program} {Q : Exit → Act → World → Prop} {id : Nat} {a : Act} {V : World} {u : After V} {l : List Oper} (n : Nat) (hn : l.length = n) (hm : P.follows .mixedOrders = true)
    (h : ∀ u : After V, wpAnyH P .any l.toArray (NoPanic Q) (Since V) n (Array.replicate n false) a u.w) : (Code.region id l.toArray true).wp P Q a u.w := by
  subst hn
  exact wp_region_noPanic (wp_region_held_drew hm (S := Since V) ⟨⟨u.w.drew, b_drew u.2⟩, rfl⟩ (fun _ => h ⟨u.w.drew, b_drew u.2⟩))
theorem left_sub {ps : List Pk} {j : Nat} {q : Pk} (h : q ∈ ps.take j ++ ps.drop (j + 1)) : q ∈ ps := by
  rcases List.mem_append.1 h with h | h
  · exact List.mem_of_mem_take h
  · exact List.mem_of_mem_drop h
theorem ok_up {B5 n m k g : Nat} {o : Option Nat} (hnm : n ≤ m) (h : ((g ≠ B5 ∧ o ≠ some g ∧ g < n) ∨ m ≤ g) ∧ g < k) : (g ≠ B5 ∧ o ≠ some g ∧ g < n) ∨ n ≤ g := h.1.imp id (Nat.le_trans hnm)
theorem ok_not {B B5 n m k : Nat} {o : Option Nat} (h1 : n ≤ B) (h2 : B < m ∨ k ≤ B) : ¬ (((B ≠ B5 ∧ o ≠ some B ∧ B < n) ∨ m ≤ B) ∧ B < k) := fun h => by
  obtain ⟨h, h'⟩ := h
  rcases h with ⟨_, _, h⟩ | h <;> omega
def AllA (W : World) (B5 : Nat) (lp : List Pk) (l i : Value) (wr : World) : Prop :=
  ∃ (k : Nat) (qs : List Pk) (qb ab : Option Addr) (qd ad : Nat), k ≤ lp.length ∧ qs.length ≤ k ∧ (∀ q, q ∈ qs → q ∈ lp ∧ pkOk q = true) ∧ i = .int .i64 k ∧ AllRel W B5 l qs qb ab qd ad wr
def AllB (W : World) (B5 : Nat) (lp : List Pk) (l i : Value) (wr : World) : Prop :=
  ∃ (k : Nat) (qs : List Pk) (qb ab : Option Addr) (qd ad : Nat), k + qs.length ≤ 12 ∧ (∀ q, q ∈ qs → q ∈ lp ∧ pkOk q = true) ∧ i = .int .i64 k ∧ AllRel W B5 l qs qb ab qd ad wr
theorem chk_qs {qs lp : List Pk} (h : ∀ q, q ∈ qs → q ∈ lp ∧ pkOk q = true) : chk qs [] = 0 := chk_ok (List.all_eq_true.2 fun q hq => (h q hq).2) ap0
theorem del_at {qs : List Pk} {j : Nat} (h : chk qs [] = 0) (hj : j < qs.length) : delP qs [] j = qs[j] ∧ ask qs [] j = 0 ∧ leftQ qs [] j = qs.take j ++ qs.drop (j + 1) ∧ leftL qs [] j = [] := by
  have ha : ask qs [] j = 0 := by rw [ask, if_pos h, if_pos ⟨by omega, by omega⟩]
  refine ⟨?_, ha, ?_, ?_⟩
  · rw [delP, if_pos ha, if_neg (by simp [cutIn])]
    simp [atP, hj]
  · rw [leftQ, if_pos ha, Int.toNat_natCast]
  · rw [leftL, if_pos ha]

set_option maxRecDepth 100000 in
set_option maxHeartbeats 16000000 in
theorem all_walk (d : Pk → List UInt8) (lp : List Pk) (os : List UInt8) (la oa : Option Addr) (lc oc : Nat) (W : World) (hl : Rd W la (lp.flatMap Pk.c)) (ho : Rd W oa (os.map fun b => Value.int .u8 (b.toNat : Int))) (hd : ∀ q, q ∈ lp → DataIs W q (d q)) :
    Calls Try.prog 4 #[.slice la lp.length lc, .slice oa os.length oc] W fun e w' => e = .returned (.bool true) ∧ Below W.heap.size W w' := by
  have HL := hid hl; have HO := hid ho; have HD := hid hd
  clear hl ho hd
  obtain ⟨i0, hi, hz0, hz1, hz2⟩ := info_parts info28
  go_enter Try.func4, Try.ntmps4
  go_wp2_with fail
  refine (met0 (sane_any _)).mono ?_
  rintro e _ ⟨rfl, u1, rfl⟩
  by_cases h12 : lp.length ≤ 12
  case neg =>
    have hd : decide (12 < (lp.length : Int)) = true := decide_eq_true (by omega)
    go_wp2_with fail
    exact bodyPost_ret (v := .bool true) (by simp [results, Try.results4, go_sem]) rfl ⟨rfl, u1.2⟩
  have hd : decide (12 < (lp.length : Int)) = false := decide_eq_false (by omega)
  go_wp2_with fail
  refine (met (new_any _)).mono ?_
  rintro e _ ⟨rfl, u2, rfl⟩
  go_wp2_with fail
  have hr0 : AllRel W u2.w.heap.size (.slice none 0 0) [] none none 0 0 (u2.w.alloc (.cells #[.slice none 0 0, .slice none 0 0] 25)) :=
    ⟨b_alloc u2.2 _, bn rfl rfl, bn rfl rfl, fn rfl, fn rfl, by simp, NetIs.zero _ _, World.ownsRow_nil _ _ _ _⟩
  have hWB : W.heap.size ≤ u2.w.heap.size := u2.2.size
  obtain ⟨B5, hB5⟩ : ∃ b, b = u2.w.heap.size := ⟨_, rfl⟩
  rw [← hB5] at hr0 hWB ⊢
  clear hB5 hd
  go_loopw [6, 7] (fun l i wr => AllA W B5 lp l i wr) (fun _ i _ => lp.length - (intOf i).toNat)
  case atStart => exact ⟨0, [], none, none, 0, 0, by omega, by simp, fun q hq => by simp at hq, rfl, hr0⟩
  case round =>
    clear hr0
    obtain ⟨k, qs, qb, ab, qd, ad, hk, hq, hm, rfl, hr⟩ := hrel
    by_cases hlt : k < lp.length
    · have hlt2 : decide (k < lp.length) = true := decide_eq_true hlt
      obtain ⟨bl, ol, rfl, hbl⟩ := HL.out.addr (by rw [flat_len Pk.c 3 Pk.c3]; omega)
      have hWr := hr.below
      obtain ⟨u0, hu⟩ : ∃ u : After wr, u.w = wr := ⟨After.here wr, rfl⟩
      have n0 : ∀ v : After wr, v.w.cell? ⟨B5, 0, none⟩ = some (.slice qb qs.length qd) := after_cell hr.size hr.c0
      have n1 : ∀ v : After wr, v.w.cell? ⟨B5, 1, none⟩ = some (.slice ab 0 ad) := after_cell hr.size hr.c1
      have fn0 : ∀ v : After wr, v.w.frozen? ⟨B5, 0, none⟩ = false := after_frozen hr.size hr.f0
      have fn1 : ∀ v : After wr, v.w.frozen? ⟨B5, 1, none⟩ = false := after_frozen hr.size hr.f1
      have RQ := hid (fun v : After wr => HL.out.below (b_then hWr v.2))
      have k0 : ∀ v : After wr, v.w.cell? ⟨bl, ol + k * 3, none⟩ = some (.int .i64 lp[k].fr) := row_cell Pk.c3 RQ.out hlt 0 (by decide) rfl rfl
      have k1 : ∀ v : After wr, v.w.cell? ⟨bl, ol + k * 3 + 1, none⟩ = some (.int .i64 lp[k].to) := row_cell Pk.c3 RQ.out hlt 1 (by decide) rfl rfl
      have k2 : ∀ v : After wr, v.w.cell? ⟨bl, ol + k * 3 + 2, none⟩ = some (.slice lp[k].da lp[k].dn lp[k].dc) := row_cell Pk.c3 RQ.out hlt 2 (by decide) rfl rfl
      have hpm : lp[k] ∈ lp := List.getElem_mem hlt
      generalize lp[k] = p at k0 k1 k2 hpm
      have hne : B5 ≠ bl := by omega
      have HN := hid (fun v : After wr => hr.net.below v.2)
      have hck := chk_qs hm
      go_wp2_with fail
      rw [← hu]
      clear hu RQ
      rcases hok : pkOk p with _ | _
      · have F1 : sendX qs [] p = 60 := by rw [sendX, if_neg (by simp [hok])]
        have F2 : sendQ qs [] p = [] := by rw [sendQ, if_neg (by simp [hok])]
        have F3 : sendL qs [] p = [] := by rw [sendL, if_neg (by simp [hok])]
        have F4 : ([] : List Pk).length = 0 := rfl
        clear hck
        refine whole_region 12 rfl (by kernel_rfl) ?_
        intro u0
        refine h_take 0 (x := ?_) rfl (by kernel_rfl) (by kernel_rfl) (by kernel_rfl) (fun _ _ _ h => h) (by rfl) (fun v => ?_) ?_
        rotate_left
        · (go_simp; try with_reducible rfl)
        try simp only [Act.put, List.setIfInBounds_toArray, List.set_cons_zero, List.set_cons_succ]
        refine h_take 1 (x := ?_) rfl (by kernel_rfl) (by kernel_rfl) (by kernel_rfl) (fun _ _ _ h => h) (by rfl) (fun v => ?_) ?_
        rotate_left
        · (go_simp; try with_reducible rfl)
        try simp only [Act.put, List.setIfInBounds_toArray, List.set_cons_zero, List.set_cons_succ]
        refine h_take 2 (x := ?_) rfl (by kernel_rfl) (by kernel_rfl) (by kernel_rfl) (fun _ _ _ h => h) (by rfl) (fun v => ?_) ?_
        rotate_left
        · (go_simp; try with_reducible rfl)
        try simp only [Act.put, List.setIfInBounds_toArray, List.set_cons_zero, List.set_cons_succ]
        refine h_take 3 (x := ?_) rfl (by kernel_rfl) (by kernel_rfl) (by kernel_rfl) (fun _ _ _ h => h) (by rfl) (fun v => ?_) ?_
        rotate_left
        · (go_simp; try with_reducible rfl)
        try simp only [Act.put, List.setIfInBounds_toArray, List.set_cons_zero, List.set_cons_succ]
        refine h_take 4 (x := ?_) rfl (by kernel_rfl) (by kernel_rfl) (by kernel_rfl) (fun _ _ _ h => h) (by rfl) (fun v => ?_) ?_
        rotate_left
        · (go_simp; try with_reducible rfl)
        try simp only [Act.put, List.setIfInBounds_toArray, List.set_cons_zero, List.set_cons_succ]
        refine h_two 5 9 (by kernel_rfl) rfl rfl (fun K hK => ?_) (fun K hK => ?_)
        · go_simp
          refine (Send_any _ qs [] p (.agg #[.slice qb qs.length qd, .slice ab 0 ad]) _ (by omega) (by simp) (HN.out u0)).mono ?_
          rintro e w7 h7
          obtain ⟨v7, rfl, hn7, hB7⟩ := h7.one
          rw [F1]
          rw [F2, F3] at hn7
          obtain ⟨qb5, ab5, qd5, ad5, rfl⟩ := hn7.form' (n := 0) (m := 0) F4 rfl
          have hn7 := hn7.here
          have hs7 := hB7.size
          have hs8 : wr.heap.size ≤ u0.w.heap.size := u0.2.size
          have hsv : u0.val.heap.size = u0.w.heap.size := rfl
          obtain ⟨v1, rfl⟩ : ∃ v1 : After wr, w7 = v1.w := ⟨u0.on hB7, rfl⟩
          go_simp
          refine hK _ v1 ?_
          clear hK K
          try simp only [Act.put, List.setIfInBounds_toArray, List.set_cons_zero, List.set_cons_succ]
          refine h_take 6 (x := ?_) rfl (by kernel_rfl) (by kernel_rfl) (by kernel_rfl) (fun _ _ _ h => h) (by rfl) (fun v => ?_) ?_
          rotate_left
          · (go_simp; try with_reducible rfl)
          try simp only [Act.put, List.setIfInBounds_toArray, List.set_cons_zero, List.set_cons_succ]
          refine h_take 7 (x := ?_) rfl (by kernel_rfl) (by kernel_rfl) (by kernel_rfl) (fun _ _ _ h => h) (by rfl) (fun v => ?_) ?_
          rotate_left
          · (go_simp; try with_reducible rfl)
          try simp only [Act.put, List.setIfInBounds_toArray, List.set_cons_zero, List.set_cons_succ]
          refine h_take 8 (x := ?_) rfl (by kernel_rfl) (by kernel_rfl) (by kernel_rfl) (fun _ _ _ h => h) (by rfl) (fun v => ?_) ?_
          rotate_left
          · (go_simp; try with_reducible rfl)
          try simp only [Act.put, List.setIfInBounds_toArray, List.set_cons_zero, List.set_cons_succ]
          refine h_step 9 (by kernel_rfl) rfl (fun K hK => ?_)
          go_simp
          obtain ⟨va, hva⟩ : ∃ y : After wr, y.w = v1.w.alloc (.cells #[.slice none 0 0, .slice none 0 0] 25) := ⟨v1.on (b_alloc (Below.refl _ _) _), rfl⟩
          rw [← hva]
          have x0 : va.w.cell? ⟨v1.w.heap.size, 0, none⟩ = some (.slice none 0 0) := by rw [hva]; exact bn rfl rfl
          have x1 : va.w.cell? ⟨v1.w.heap.size, 1, none⟩ = some (.slice none 0 0) := by rw [hva]; exact bn rfl rfl
          have fx0 : va.w.frozen? ⟨v1.w.heap.size, 0, none⟩ = false := by rw [hva]; exact fn rfl
          have fx1 : va.w.frozen? ⟨v1.w.heap.size, 1, none⟩ = false := by rw [hva]; exact fn rfl
          have zx : v1.w.heap.size < va.w.heap.size := by rw [hva]; simp
          have hsa : va.w.heap.size = v1.w.heap.size + 1 := by rw [hva]; simp
          have hs9 : wr.heap.size ≤ v1.w.heap.size := v1.2.size
          have hn7 := hn7.below (w' := va.w) (by rw [hva]; exact b_alloc (Below.refl _ _) _)
          clear hva
          refine hK _ va ?_
          clear hK K
          try simp only [Act.put, List.setIfInBounds_toArray, List.set_cons_zero, List.set_cons_succ]
          refine h_step 10 (by kernel_rfl) rfl (fun K hK => ?_)
          go_simp
          generalize hZ : World.setCell _ _ _ = Z
          have y0 : Z.cell? ⟨v1.w.heap.size, 0, none⟩ = some (.slice qb5 (0) qd5) := by rw [← hZ]; exact st_off _ (.inl (by decide)) (st_hit _ x0)
          have y1 : Z.cell? ⟨v1.w.heap.size, 1, none⟩ = some (.slice ab5 0 ad5) := by rw [← hZ]; exact st_hit _ (st_off _ (.inl (by decide)) x1)
          have hnz := (by rw [← hZ]; exact NetIs.set (NetIs.set hn7 (ok_not hs9 (by omega)) _) (ok_not hs9 (by omega)) _ : NetIs _ Z _ _ _)
          have zz : v1.w.heap.size < Z.heap.size := by rw [← hZ]; simpa using zx
          obtain ⟨z, rfl⟩ : ∃ z : After wr, Z = z.w := ⟨After.to (by rw [← hZ]; exact b_set (b_set va.w_below (by omega) _) (by omega) _), rfl⟩
          clear hZ
          refine hK _ z ?_
          clear hK K
          try simp only [Act.put, List.setIfInBounds_toArray, List.set_cons_zero, List.set_cons_succ]
          refine h_take 11 (x := ?_) rfl (by kernel_rfl) (by kernel_rfl) (by kernel_rfl) (fun _ _ _ h => h) (by rfl) (fun v => ?_) ?_
          rotate_left
          · (go_simp; try with_reducible rfl)
          try simp only [Act.put, List.setIfInBounds_toArray, List.set_cons_zero, List.set_cons_succ]
          refine wpAnyH_done (by kernel_rfl) ?_ _
          refine NoPanic.normal ?_
          clear hnz F1 F2 F3 F4
          go_wp2_with fail
          go_roundw
          case rel => exact ⟨k + 1, qs, _, _, _, _, by omega, by omega, hm, by go_num, hr.later z.2⟩
          case measure => simp [intOf]; omega
        · go_simp
          obtain ⟨va, hva⟩ : ∃ y : After wr, y.w = u0.w.alloc (.cells #[.slice none 0 0, .slice none 0 0] 25) := ⟨u0.on (b_alloc (Below.refl _ _) _), rfl⟩
          rw [← hva]
          have x0 : va.w.cell? ⟨u0.w.heap.size, 0, none⟩ = some (.slice none 0 0) := by rw [hva]; exact bn rfl rfl
          have x1 : va.w.cell? ⟨u0.w.heap.size, 1, none⟩ = some (.slice none 0 0) := by rw [hva]; exact bn rfl rfl
          have fx0 : va.w.frozen? ⟨u0.w.heap.size, 0, none⟩ = false := by rw [hva]; exact fn rfl
          have fx1 : va.w.frozen? ⟨u0.w.heap.size, 1, none⟩ = false := by rw [hva]; exact fn rfl
          have zx : u0.w.heap.size < va.w.heap.size := by rw [hva]; simp
          have hsa : va.w.heap.size = u0.w.heap.size + 1 := by rw [hva]; simp
          have hs9 : wr.heap.size ≤ u0.w.heap.size := u0.2.size
          clear hva
          refine hK _ va ?_
          clear hK K
          try simp only [Act.put, List.setIfInBounds_toArray, List.set_cons_zero, List.set_cons_succ]
          refine h_step 5 (by kernel_rfl) rfl (fun K hK => ?_)
          go_simp
          refine (Send_any _ qs [] p (.agg #[.slice qb qs.length qd, .slice ab 0 ad]) _ (by omega) (by simp) (HN.out va)).mono ?_
          rintro e w7 h7
          obtain ⟨v7, rfl, hn7, hB7⟩ := h7.one
          rw [F1]
          rw [F2, F3] at hn7
          obtain ⟨qb5, ab5, qd5, ad5, rfl⟩ := hn7.form' (n := 0) (m := 0) F4 rfl
          have hn7 := hn7.here
          have hs7 := hB7.size
          have hs8 : wr.heap.size ≤ va.w.heap.size := va.2.size
          have hsv : va.val.heap.size = va.w.heap.size := rfl
          have x0 := bb hB7 zx x0
          have x1 := bb hB7 zx x1
          have fx0 := fb hB7 zx fx0
          have fx1 := fb hB7 zx fx1
          have zx := Nat.lt_of_lt_of_le zx hs7
          obtain ⟨v1, rfl⟩ : ∃ v1 : After wr, w7 = v1.w := ⟨va.on hB7, rfl⟩
          go_simp
          refine hK _ v1 ?_
          clear hK K
          try simp only [Act.put, List.setIfInBounds_toArray, List.set_cons_zero, List.set_cons_succ]
          refine h_take 6 (x := ?_) rfl (by kernel_rfl) (by kernel_rfl) (by kernel_rfl) (fun _ _ _ h => h) (by rfl) (fun v => ?_) ?_
          rotate_left
          · (go_simp; try with_reducible rfl)
          try simp only [Act.put, List.setIfInBounds_toArray, List.set_cons_zero, List.set_cons_succ]
          refine h_take 7 (x := ?_) rfl (by kernel_rfl) (by kernel_rfl) (by kernel_rfl) (fun _ _ _ h => h) (by rfl) (fun v => ?_) ?_
          rotate_left
          · (go_simp; try with_reducible rfl)
          try simp only [Act.put, List.setIfInBounds_toArray, List.set_cons_zero, List.set_cons_succ]
          refine h_take 8 (x := ?_) rfl (by kernel_rfl) (by kernel_rfl) (by kernel_rfl) (fun _ _ _ h => h) (by rfl) (fun v => ?_) ?_
          rotate_left
          · (go_simp; try with_reducible rfl)
          try simp only [Act.put, List.setIfInBounds_toArray, List.set_cons_zero, List.set_cons_succ]
          refine h_step 10 (by kernel_rfl) rfl (fun K hK => ?_)
          go_simp
          generalize hZ : World.setCell _ _ _ = Z
          have y0 : Z.cell? ⟨u0.w.heap.size, 0, none⟩ = some (.slice qb5 (0) qd5) := by rw [← hZ]; exact st_off _ (.inl (by decide)) (st_hit _ x0)
          have y1 : Z.cell? ⟨u0.w.heap.size, 1, none⟩ = some (.slice ab5 0 ad5) := by rw [← hZ]; exact st_hit _ (st_off _ (.inl (by decide)) x1)
          have hnz := (by rw [← hZ]; exact NetIs.set (NetIs.set hn7 (ok_not hs9 (by omega)) _) (ok_not hs9 (by omega)) _ : NetIs _ Z _ _ _)
          have zz : u0.w.heap.size < Z.heap.size := by rw [← hZ]; simpa using zx
          obtain ⟨z, rfl⟩ : ∃ z : After wr, Z = z.w := ⟨After.to (by rw [← hZ]; exact b_set (b_set v1.w_below (by omega) _) (by omega) _), rfl⟩
          clear hZ
          refine hK _ z ?_
          clear hK K
          try simp only [Act.put, List.setIfInBounds_toArray, List.set_cons_zero, List.set_cons_succ]
          refine h_take 11 (x := ?_) rfl (by kernel_rfl) (by kernel_rfl) (by kernel_rfl) (fun _ _ _ h => h) (by rfl) (fun v => ?_) ?_
          rotate_left
          · (go_simp; try with_reducible rfl)
          try simp only [Act.put, List.setIfInBounds_toArray, List.set_cons_zero, List.set_cons_succ]
          refine wpAnyH_done (by kernel_rfl) ?_ _
          refine NoPanic.normal ?_
          clear hnz F1 F2 F3 F4
          go_wp2_with fail
          go_roundw
          case rel => exact ⟨k + 1, qs, _, _, _, _, by omega, by omega, hm, by go_num, hr.later z.2⟩
          case measure => simp [intOf]; omega

      · have F1 : sendX qs [] p = 0 := by rw [sendX, if_pos ⟨hck, hok⟩]
        have F2 : sendQ qs [] p = qs ++ [p] := by rw [sendQ, if_pos ⟨hck, hok⟩]
        have F3 : sendL qs [] p = [] := by rw [sendL, if_pos ⟨hck, hok⟩]
        have F4 : (qs ++ [p]).length = qs.length + 1 := by simp
        clear hck
        refine whole_region 12 rfl (by kernel_rfl) ?_
        intro u0
        refine h_take 0 (x := ?_) rfl (by kernel_rfl) (by kernel_rfl) (by kernel_rfl) (fun _ _ _ h => h) (by rfl) (fun v => ?_) ?_
        rotate_left
        · (go_simp; try with_reducible rfl)
        try simp only [Act.put, List.setIfInBounds_toArray, List.set_cons_zero, List.set_cons_succ]
        refine h_take 1 (x := ?_) rfl (by kernel_rfl) (by kernel_rfl) (by kernel_rfl) (fun _ _ _ h => h) (by rfl) (fun v => ?_) ?_
        rotate_left
        · (go_simp; try with_reducible rfl)
        try simp only [Act.put, List.setIfInBounds_toArray, List.set_cons_zero, List.set_cons_succ]
        refine h_take 2 (x := ?_) rfl (by kernel_rfl) (by kernel_rfl) (by kernel_rfl) (fun _ _ _ h => h) (by rfl) (fun v => ?_) ?_
        rotate_left
        · (go_simp; try with_reducible rfl)
        try simp only [Act.put, List.setIfInBounds_toArray, List.set_cons_zero, List.set_cons_succ]
        refine h_take 3 (x := ?_) rfl (by kernel_rfl) (by kernel_rfl) (by kernel_rfl) (fun _ _ _ h => h) (by rfl) (fun v => ?_) ?_
        rotate_left
        · (go_simp; try with_reducible rfl)
        try simp only [Act.put, List.setIfInBounds_toArray, List.set_cons_zero, List.set_cons_succ]
        refine h_take 4 (x := ?_) rfl (by kernel_rfl) (by kernel_rfl) (by kernel_rfl) (fun _ _ _ h => h) (by rfl) (fun v => ?_) ?_
        rotate_left
        · (go_simp; try with_reducible rfl)
        try simp only [Act.put, List.setIfInBounds_toArray, List.set_cons_zero, List.set_cons_succ]
        refine h_two 5 9 (by kernel_rfl) rfl rfl (fun K hK => ?_) (fun K hK => ?_)
        · go_simp
          refine (Send_any _ qs [] p (.agg #[.slice qb qs.length qd, .slice ab 0 ad]) _ (by omega) (by simp) (HN.out u0)).mono ?_
          rintro e w7 h7
          obtain ⟨v7, rfl, hn7, hB7⟩ := h7.one
          rw [F1]
          rw [F2, F3] at hn7
          obtain ⟨qb5, ab5, qd5, ad5, rfl⟩ := hn7.form' (n := qs.length + 1) (m := 0) F4 rfl
          have hn7 := hn7.here
          have hs7 := hB7.size
          have hs8 : wr.heap.size ≤ u0.w.heap.size := u0.2.size
          have hsv : u0.val.heap.size = u0.w.heap.size := rfl
          obtain ⟨v1, rfl⟩ : ∃ v1 : After wr, w7 = v1.w := ⟨u0.on hB7, rfl⟩
          go_simp
          refine hK _ v1 ?_
          clear hK K
          try simp only [Act.put, List.setIfInBounds_toArray, List.set_cons_zero, List.set_cons_succ]
          refine h_take 6 (x := ?_) rfl (by kernel_rfl) (by kernel_rfl) (by kernel_rfl) (fun _ _ _ h => h) (by rfl) (fun v => ?_) ?_
          rotate_left
          · (go_simp; try with_reducible rfl)
          try simp only [Act.put, List.setIfInBounds_toArray, List.set_cons_zero, List.set_cons_succ]
          refine h_take 7 (x := ?_) rfl (by kernel_rfl) (by kernel_rfl) (by kernel_rfl) (fun _ _ _ h => h) (by rfl) (fun v => ?_) ?_
          rotate_left
          · (go_simp; try with_reducible rfl)
          try simp only [Act.put, List.setIfInBounds_toArray, List.set_cons_zero, List.set_cons_succ]
          refine h_take 8 (x := ?_) rfl (by kernel_rfl) (by kernel_rfl) (by kernel_rfl) (fun _ _ _ h => h) (by rfl) (fun v => ?_) ?_
          rotate_left
          · (go_simp; try with_reducible rfl)
          try simp only [Act.put, List.setIfInBounds_toArray, List.set_cons_zero, List.set_cons_succ]
          refine h_step 9 (by kernel_rfl) rfl (fun K hK => ?_)
          go_simp
          obtain ⟨va, hva⟩ : ∃ y : After wr, y.w = v1.w.alloc (.cells #[.slice none 0 0, .slice none 0 0] 25) := ⟨v1.on (b_alloc (Below.refl _ _) _), rfl⟩
          rw [← hva]
          have x0 : va.w.cell? ⟨v1.w.heap.size, 0, none⟩ = some (.slice none 0 0) := by rw [hva]; exact bn rfl rfl
          have x1 : va.w.cell? ⟨v1.w.heap.size, 1, none⟩ = some (.slice none 0 0) := by rw [hva]; exact bn rfl rfl
          have fx0 : va.w.frozen? ⟨v1.w.heap.size, 0, none⟩ = false := by rw [hva]; exact fn rfl
          have fx1 : va.w.frozen? ⟨v1.w.heap.size, 1, none⟩ = false := by rw [hva]; exact fn rfl
          have zx : v1.w.heap.size < va.w.heap.size := by rw [hva]; simp
          have hsa : va.w.heap.size = v1.w.heap.size + 1 := by rw [hva]; simp
          have hs9 : wr.heap.size ≤ v1.w.heap.size := v1.2.size
          have hn7 := hn7.below (w' := va.w) (by rw [hva]; exact b_alloc (Below.refl _ _) _)
          clear hva
          refine hK _ va ?_
          clear hK K
          try simp only [Act.put, List.setIfInBounds_toArray, List.set_cons_zero, List.set_cons_succ]
          refine h_step 10 (by kernel_rfl) rfl (fun K hK => ?_)
          go_simp
          generalize hZ : World.setCell _ _ _ = Z
          have y0 : Z.cell? ⟨v1.w.heap.size, 0, none⟩ = some (.slice qb5 (qs.length + 1) qd5) := by rw [← hZ]; exact st_off _ (.inl (by decide)) (st_hit _ x0)
          have y1 : Z.cell? ⟨v1.w.heap.size, 1, none⟩ = some (.slice ab5 0 ad5) := by rw [← hZ]; exact st_hit _ (st_off _ (.inl (by decide)) x1)
          have hnz := (by rw [← hZ]; exact NetIs.set (NetIs.set hn7 (ok_not hs9 (by omega)) _) (ok_not hs9 (by omega)) _ : NetIs _ Z _ _ _)
          have zz : v1.w.heap.size < Z.heap.size := by rw [← hZ]; simpa using zx
          obtain ⟨z, rfl⟩ : ∃ z : After wr, Z = z.w := ⟨After.to (by rw [← hZ]; exact b_set (b_set va.w_below (by omega) _) (by omega) _), rfl⟩
          clear hZ
          refine hK _ z ?_
          clear hK K
          try simp only [Act.put, List.setIfInBounds_toArray, List.set_cons_zero, List.set_cons_succ]
          refine h_take 11 (x := ?_) rfl (by kernel_rfl) (by kernel_rfl) (by kernel_rfl) (fun _ _ _ h => h) (by rfl) (fun v => ?_) ?_
          rotate_left
          · (go_simp; try with_reducible rfl)
          try simp only [Act.put, List.setIfInBounds_toArray, List.set_cons_zero, List.set_cons_succ]
          refine wpAnyH_done (by kernel_rfl) ?_ _
          refine NoPanic.normal ?_
          have hnz' := hnz.mono (fun g h => ok_up hs8 h)
          have g0 := n0 z
          have g1 := n1 z
          have hf0 := fn0 z
          have hf1 := fn1 z
          have q0 := st_off (b' := B5) (o' := 1) (.slice ab5 0 ad5) (.inr hne) (st_off (b' := B5) (o' := 0) (.slice qb5 (qs.length + 1) qd5) (.inr hne) (k0 z))
          have q1 := st_off (b' := B5) (o' := 1) (.slice ab5 0 ad5) (.inr hne) (st_off (b' := B5) (o' := 0) (.slice qb5 (qs.length + 1) qd5) (.inr hne) (k1 z))
          have q2 := st_off (b' := B5) (o' := 1) (.slice ab5 0 ad5) (.inr hne) (st_off (b' := B5) (o' := 0) (.slice qb5 (qs.length + 1) qd5) (.inr hne) (k2 z))
          have hzs := z.2.size
          have hB5z : B5 < z.w.heap.size := Nat.lt_of_lt_of_le hr.size hzs
          have HNZ := hid hnz'
          clear hnz hnz' F1 F2 F3 F4
          go_wp2_with (at_builtin; refine wpList_append_own_at _ rfl (.tmp 39) (.tmp 44) 22 rfl (B5 + 1) 28 i0 (.agg #[.int .i64 0, .int .i64 0, .slice none 0 0]) 3 40 und22 hi hz0 hz1 hz2 rfl (by decide) _ _ _ rfl ((own_set (own_set (own_after hr.own z.2) (by omega)) (by omega)).alloc _) ⟨z.w.heap.size, 0, none⟩ 1 1 p.c rfl rfl (news (cs := #[.int .i64 p.fr, .int .i64 p.to, .slice p.da p.dn p.dc]) (by simp)) p.one (by unfold maxLen; omega) (by omega) (by simp; omega) ?_; intro v' w1 hown' hgrow _ hv')
          have hr2 := hid (hr.more z.2 hWB HNZ.out hgrow hown' hv')
          clear hown' hgrow hv'
          go_wp2_with fail
          go_roundw
          case rel => exact ⟨k + 1, qs ++ [p], _, _, _, _, by omega, by simp; omega, fun q hq => by rcases List.mem_append.1 hq with h | h; exact hm q h; rw [List.mem_singleton.1 h]; exact ⟨hpm, hok⟩, by go_num, hr2.out⟩
          case measure => simp [intOf]; omega
        · go_simp
          obtain ⟨va, hva⟩ : ∃ y : After wr, y.w = u0.w.alloc (.cells #[.slice none 0 0, .slice none 0 0] 25) := ⟨u0.on (b_alloc (Below.refl _ _) _), rfl⟩
          rw [← hva]
          have x0 : va.w.cell? ⟨u0.w.heap.size, 0, none⟩ = some (.slice none 0 0) := by rw [hva]; exact bn rfl rfl
          have x1 : va.w.cell? ⟨u0.w.heap.size, 1, none⟩ = some (.slice none 0 0) := by rw [hva]; exact bn rfl rfl
          have fx0 : va.w.frozen? ⟨u0.w.heap.size, 0, none⟩ = false := by rw [hva]; exact fn rfl
          have fx1 : va.w.frozen? ⟨u0.w.heap.size, 1, none⟩ = false := by rw [hva]; exact fn rfl
          have zx : u0.w.heap.size < va.w.heap.size := by rw [hva]; simp
          have hsa : va.w.heap.size = u0.w.heap.size + 1 := by rw [hva]; simp
          have hs9 : wr.heap.size ≤ u0.w.heap.size := u0.2.size
          clear hva
          refine hK _ va ?_
          clear hK K
          try simp only [Act.put, List.setIfInBounds_toArray, List.set_cons_zero, List.set_cons_succ]
          refine h_step 5 (by kernel_rfl) rfl (fun K hK => ?_)
          go_simp
          refine (Send_any _ qs [] p (.agg #[.slice qb qs.length qd, .slice ab 0 ad]) _ (by omega) (by simp) (HN.out va)).mono ?_
          rintro e w7 h7
          obtain ⟨v7, rfl, hn7, hB7⟩ := h7.one
          rw [F1]
          rw [F2, F3] at hn7
          obtain ⟨qb5, ab5, qd5, ad5, rfl⟩ := hn7.form' (n := qs.length + 1) (m := 0) F4 rfl
          have hn7 := hn7.here
          have hs7 := hB7.size
          have hs8 : wr.heap.size ≤ va.w.heap.size := va.2.size
          have hsv : va.val.heap.size = va.w.heap.size := rfl
          have x0 := bb hB7 zx x0
          have x1 := bb hB7 zx x1
          have fx0 := fb hB7 zx fx0
          have fx1 := fb hB7 zx fx1
          have zx := Nat.lt_of_lt_of_le zx hs7
          obtain ⟨v1, rfl⟩ : ∃ v1 : After wr, w7 = v1.w := ⟨va.on hB7, rfl⟩
          go_simp
          refine hK _ v1 ?_
          clear hK K
          try simp only [Act.put, List.setIfInBounds_toArray, List.set_cons_zero, List.set_cons_succ]
          refine h_take 6 (x := ?_) rfl (by kernel_rfl) (by kernel_rfl) (by kernel_rfl) (fun _ _ _ h => h) (by rfl) (fun v => ?_) ?_
          rotate_left
          · (go_simp; try with_reducible rfl)
          try simp only [Act.put, List.setIfInBounds_toArray, List.set_cons_zero, List.set_cons_succ]
          refine h_take 7 (x := ?_) rfl (by kernel_rfl) (by kernel_rfl) (by kernel_rfl) (fun _ _ _ h => h) (by rfl) (fun v => ?_) ?_
          rotate_left
          · (go_simp; try with_reducible rfl)
          try simp only [Act.put, List.setIfInBounds_toArray, List.set_cons_zero, List.set_cons_succ]
          refine h_take 8 (x := ?_) rfl (by kernel_rfl) (by kernel_rfl) (by kernel_rfl) (fun _ _ _ h => h) (by rfl) (fun v => ?_) ?_
          rotate_left
          · (go_simp; try with_reducible rfl)
          try simp only [Act.put, List.setIfInBounds_toArray, List.set_cons_zero, List.set_cons_succ]
          refine h_step 10 (by kernel_rfl) rfl (fun K hK => ?_)
          go_simp
          generalize hZ : World.setCell _ _ _ = Z
          have y0 : Z.cell? ⟨u0.w.heap.size, 0, none⟩ = some (.slice qb5 (qs.length + 1) qd5) := by rw [← hZ]; exact st_off _ (.inl (by decide)) (st_hit _ x0)
          have y1 : Z.cell? ⟨u0.w.heap.size, 1, none⟩ = some (.slice ab5 0 ad5) := by rw [← hZ]; exact st_hit _ (st_off _ (.inl (by decide)) x1)
          have hnz := (by rw [← hZ]; exact NetIs.set (NetIs.set hn7 (ok_not hs9 (by omega)) _) (ok_not hs9 (by omega)) _ : NetIs _ Z _ _ _)
          have zz : u0.w.heap.size < Z.heap.size := by rw [← hZ]; simpa using zx
          obtain ⟨z, rfl⟩ : ∃ z : After wr, Z = z.w := ⟨After.to (by rw [← hZ]; exact b_set (b_set v1.w_below (by omega) _) (by omega) _), rfl⟩
          clear hZ
          refine hK _ z ?_
          clear hK K
          try simp only [Act.put, List.setIfInBounds_toArray, List.set_cons_zero, List.set_cons_succ]
          refine h_take 11 (x := ?_) rfl (by kernel_rfl) (by kernel_rfl) (by kernel_rfl) (fun _ _ _ h => h) (by rfl) (fun v => ?_) ?_
          rotate_left
          · (go_simp; try with_reducible rfl)
          try simp only [Act.put, List.setIfInBounds_toArray, List.set_cons_zero, List.set_cons_succ]
          refine wpAnyH_done (by kernel_rfl) ?_ _
          refine NoPanic.normal ?_
          have hnz' := hnz.mono (fun g h => ok_up hs8 h)
          have g0 := n0 z
          have g1 := n1 z
          have hf0 := fn0 z
          have hf1 := fn1 z
          have q0 := st_off (b' := B5) (o' := 1) (.slice ab5 0 ad5) (.inr hne) (st_off (b' := B5) (o' := 0) (.slice qb5 (qs.length + 1) qd5) (.inr hne) (k0 z))
          have q1 := st_off (b' := B5) (o' := 1) (.slice ab5 0 ad5) (.inr hne) (st_off (b' := B5) (o' := 0) (.slice qb5 (qs.length + 1) qd5) (.inr hne) (k1 z))
          have q2 := st_off (b' := B5) (o' := 1) (.slice ab5 0 ad5) (.inr hne) (st_off (b' := B5) (o' := 0) (.slice qb5 (qs.length + 1) qd5) (.inr hne) (k2 z))
          have hzs := z.2.size
          have hB5z : B5 < z.w.heap.size := Nat.lt_of_lt_of_le hr.size hzs
          have HNZ := hid hnz'
          clear hnz hnz' F1 F2 F3 F4
          go_wp2_with (at_builtin; refine wpList_append_own_at _ rfl (.tmp 39) (.tmp 44) 22 rfl (B5 + 1) 28 i0 (.agg #[.int .i64 0, .int .i64 0, .slice none 0 0]) 3 40 und22 hi hz0 hz1 hz2 rfl (by decide) _ _ _ rfl ((own_set (own_set (own_after hr.own z.2) (by omega)) (by omega)).alloc _) ⟨z.w.heap.size, 0, none⟩ 1 1 p.c rfl rfl (news (cs := #[.int .i64 p.fr, .int .i64 p.to, .slice p.da p.dn p.dc]) (by simp)) p.one (by unfold maxLen; omega) (by omega) (by simp; omega) ?_; intro v' w1 hown' hgrow _ hv')
          have hr2 := hid (hr.more z.2 hWB HNZ.out hgrow hown' hv')
          clear hown' hgrow hv'
          go_wp2_with fail
          go_roundw
          case rel => exact ⟨k + 1, qs ++ [p], _, _, _, _, by omega, by simp; omega, fun q hq => by rcases List.mem_append.1 hq with h | h; exact hm q h; rw [List.mem_singleton.1 h]; exact ⟨hpm, hok⟩, by go_num, hr2.out⟩
          case measure => simp [intOf]; omega

    · have hlt2 : decide (k < lp.length) = false := decide_eq_false hlt
      go_wp2_with fail
      clear hlt2
      go_loopw [6, 10] (fun l i wr => AllB W B5 lp l i wr) (fun _ i _ => 12 - (intOf i).toNat)
      case atStart => exact ⟨0, qs, qb, ab, qd, ad, by omega, hm, rfl, hr⟩
      case round =>
      clear hr hm hq
      obtain ⟨k, qs, qb, ab, qd, ad, hk, hm, rfl, hr⟩ := hrel
      obtain ⟨va, vc, rfl, hvc, hvn, hvR, hvf⟩ := own_slice hr.own
      have hWr := hr.below
      obtain ⟨u0, hu⟩ : ∃ u : After wr, u.w = wr := ⟨After.here wr, rfl⟩
      have n0 : ∀ v : After wr, v.w.cell? ⟨B5, 0, none⟩ = some (.slice qb qs.length qd) := after_cell hr.size hr.c0
      have n1 : ∀ v : After wr, v.w.cell? ⟨B5, 1, none⟩ = some (.slice ab 0 ad) := after_cell hr.size hr.c1
      have fn0 : ∀ v : After wr, v.w.frozen? ⟨B5, 0, none⟩ = false := after_frozen hr.size hr.f0
      have fn1 : ∀ v : After wr, v.w.frozen? ⟨B5, 1, none⟩ = false := after_frozen hr.size hr.f1
      by_cases hz : qs.length = 0
      · obtain rfl : qs = [] := List.eq_nil_of_length_eq_zero hz
        have g0 := hr.c0
        have g1 := hr.c1
        clear hu n0 n1 fn0 fn1
        go_wp2_with fail
        exact bodyPost_ret (v := .bool true) (by simp [results, Try.results4, go_sem]) rfl ⟨rfl, hr.below⟩
      · obtain ⟨bv, ov, rfl, hbv⟩ := hvR.addr (by rw [flat_len Pk.c 3 Pk.c3]; omega)
        have hbb : B5 + 1 ≤ bv := hvf _ _ _ rfl
        have RQ := hid (after_rd hvR)
        clear hvR hvf hvn
        have hck := chk_qs hm
        have hp0 : 0 < qs.length := by omega
        have hp1 : decide (0 < qs.length) = true := decide_eq_true hp0
        have hz' : ((qs.length : Int) == 0) = false := beq_eq_false_iff_ne.2 (by omega)
        go_upto_if 54 with (fail)
        go_cut [11] (fun s wx => (∃ j : Nat, j < qs.length ∧ s = .int .i64 j) ∧ wr = wx)
        case first =>
          by_cases hlo : k < os.length
          · have hlo2 : decide (k < os.length) = true := decide_eq_true hlo
            obtain ⟨bo', oo, rfl, hbo⟩ := HO.out.addr (by simp; omega)
            have ko : ∀ v : After wr, v.w.cell? ⟨bo', oo + k, none⟩ = some (.int .u8 (os[k].toNat : Int)) := after_row (fun v => HO.out.below (b_then hWr v.2)) (by simp [hlo])
            have ko1 := ko (After.here wr)
            have hb1 : (os[k].toNat : Int) < 256 := by have := os[k].toNat_lt; omega
            have hb0 : 0 ≤ (os[k].toNat : Int) := by omega
            have ko2 : wr.cell? ⟨bo', oo + k, none⟩ = some (.int .u8 (os[k].toNat : Int)) := ko1
            clear ko ko1
            generalize (os[k].toNat : Int) = ob at ko2 hb0 hb1
            have hr0 : 0 ≤ ob % (qs.length : Int) := Int.emod_nonneg _ (by omega)
            have hr1 : ob % (qs.length : Int) < qs.length := Int.emod_lt_of_pos _ (by omega)
            go_wp2_with fail
            go_meet
            case rel => exact ⟨⟨(ob % (qs.length : Int)).toNat, by omega, by rw [Int.toNat_of_nonneg hr0]⟩, rfl⟩
          · have hlo2 : decide (k < os.length) = false := decide_eq_false hlo
            go_wp2_with fail
            go_meet
            case rel => exact ⟨⟨0, by omega, rfl⟩, rfl⟩
        case rest =>
        obtain ⟨⟨j, hjl, rfl⟩, hwx⟩ := hcut
        subst hwx
        rw [← hu]
        clear hu
        obtain ⟨G1, G2, G3, G4⟩ := del_at hck hjl
        clear hck hp1 hz'
        go_wp2_with fail
        have HN := hid (fun v : After wr => hr.net.below v.2)
        refine (Deliver_any _ qs [] j _ _ (by omega) (by simp) (HN.out u0)).mono ?_
        rintro e w9 ⟨v9, rfl, hn9, hB9⟩
        rw [G1, G2]
        rw [G3, G4] at hn9
        obtain ⟨qb1, ab1, qd1, ad1, rfl⟩ := hn9.form' (n := (qs.take j ++ qs.drop (j + 1)).length) (m := 0) rfl rfl
        obtain ⟨ln, hln⟩ : ∃ n, (qs.take j ++ qs.drop (j + 1)).length = n := ⟨_, rfl⟩
        rw [hln]
        rw [hln] at hn9
        obtain ⟨pj, hpj⟩ : ∃ x, qs[j] = x := ⟨_, rfl⟩
        rw [hpj]
        have hwr0 : wr.heap.size ≤ u0.w.heap.size := u0.2.size
        have hwv : u0.val.heap.size = u0.w.heap.size := rfl
        have HN9 := hid (hn9.mono (ok' := fun g => (g ≠ B5 ∧ Value.ownBlock (.slice (some ⟨bv, ov, none⟩) qs.length vc) ≠ some g ∧ g < wr.heap.size) ∨ wr.heap.size ≤ g) fun g h => h.elim .inl (fun h => .inr (by omega)))
        obtain ⟨u1, rfl⟩ : ∃ y9 : After wr, w9 = y9.w := ⟨u0.on hB9, rfl⟩
        clear hB9 hn9
        rw [show pj.v = .agg #[.int .i64 pj.fr, .int .i64 pj.to, .slice pj.da pj.dn pj.dc] from rfl]
        have k0 : ∀ v : After wr, v.w.cell? ⟨bv, ov + j * 3, none⟩ = some (.int .i64 pj.fr) := hpj ▸ row_cell Pk.c3 RQ.out hjl 0 (by decide) rfl rfl
        have k1 : ∀ v : After wr, v.w.cell? ⟨bv, ov + j * 3 + 1, none⟩ = some (.int .i64 pj.to) := hpj ▸ row_cell Pk.c3 RQ.out hjl 1 (by decide) rfl rfl
        have k2 : ∀ v : After wr, v.w.cell? ⟨bv, ov + j * 3 + 2, none⟩ = some (.slice pj.da pj.dn pj.dc) := hpj ▸ row_cell Pk.c3 RQ.out hjl 2 (by decide) rfl rfl
        have hpm : pj ∈ lp := (hm pj (hpj ▸ List.getElem_mem hjl)).1
        clear hpj
        have HLN := hid hln; clear hln
        go_upto_region 21 with fail
        obtain ⟨X, hX⟩ : ∃ X, X = ((u1.w.alloc (.cells #[.int .i64 pj.fr, .int .i64 pj.to, .slice pj.da pj.dn pj.dc] 28)).alloc (.cells #[.slice qb1 ln qd1, .slice ab1 0 ad1] 25)) := ⟨_, rfl⟩
        have hBX : Below wr.heap.size wr X := by rw [hX]; exact b_alloc (b_alloc u1.2 _) _
        have p0 : ∀ v : After X, v.w.cell? ⟨u1.w.heap.size, 0, none⟩ = some (.int .i64 pj.fr) := after_cell (by rw [hX]; simp; omega) (by rw [hX]; exact bo (by simp) (bn rfl rfl))
        have p1 : ∀ v : After X, v.w.cell? ⟨u1.w.heap.size, 1, none⟩ = some (.int .i64 pj.to) := after_cell (by rw [hX]; simp; omega) (by rw [hX]; exact bo (by simp) (bn rfl rfl))
        have p2 : ∀ v : After X, v.w.cell? ⟨u1.w.heap.size, 2, none⟩ = some (.slice pj.da pj.dn pj.dc) := after_cell (by rw [hX]; simp; omega) (by rw [hX]; exact bo (by simp) (bn rfl rfl))
        have x0 : ∀ v : After X, v.w.cell? ⟨u1.w.heap.size + 1, 0, none⟩ = some (.slice qb1 ln qd1) := after_cell (by rw [hX]; simp) (by rw [hX]; exact bn (by simp) rfl)
        have x1 : ∀ v : After X, v.w.cell? ⟨u1.w.heap.size + 1, 1, none⟩ = some (.slice ab1 0 ad1) := after_cell (by rw [hX]; simp) (by rw [hX]; exact bn (by simp) rfl)
        replace k0 := upc hBX k0
        replace k1 := upc hBX k1
        replace k2 := upc hBX k2
        replace n0 := upc hBX n0
        replace n1 := upc hBX n1
        replace fn0 := upf hBX fn0
        replace fn1 := upf hBX fn1
        have HN10 : Hid (∀ v : After X, NetIs (fun g => (g ≠ B5 ∧ Value.ownBlock (.slice (some ⟨bv, ov, none⟩) qs.length vc) ≠ some g ∧ g < wr.heap.size) ∨ wr.heap.size ≤ g) v.w (.agg #[.slice qb1 ln qd1, .slice ab1 0 ad1]) (qs.take j ++ qs.drop (j + 1)) []) := hid fun v => HN9.out.below (b_then (by rw [hX]; exact b_alloc (b_alloc (Below.refl _ _) _) _) v.2)
        rw [← hX]
        obtain ⟨u2x, hu⟩ : ∃ u : After X, u.w = X := ⟨After.here X, rfl⟩
        rw [← hu]
        clear hu hX
        have g19 : ∀ v : After X, Calls Try.prog 19 #[.agg #[.int .i64 pj.fr, .int .i64 pj.to, .slice pj.da pj.dn pj.dc], .agg #[.int .i64 pj.fr, .int .i64 pj.to, .slice pj.da pj.dn pj.dc]] v.w fun e w'' => e = .returned (.bool true) ∧ ∃ u : After X, w'' = u.w := fun v => by
          have h := met (samePacket_any d pj pj v.w ((HD.out pj hpm).below (b_then hr.below (b_then hBX v.2))) ((HD.out pj hpm).below (b_then hr.below (b_then hBX v.2))))
          rw [decide_eq_true rfl] at h
          exact h
        refine wp_region_since (by kernel_rfl) (by kernel_rfl) ?_
        repeat (go_big_quiet_step ((go_at_call 19; exact g19 _)))
        refine wpQuiet_nil ?_
        intro y9
        clear g19
        go_upto_region 24 with fail
        obtain ⟨z9, hz9⟩ : ∃ z : After wr, z.w = y9.w := ⟨⟨y9.w, b_then hBX y9.2⟩, rfl⟩
        have HNZ := hid (hz9 ▸ HN10.out y9 : NetIs (fun g => (g ≠ B5 ∧ Value.ownBlock (.slice (some ⟨bv, ov, none⟩) qs.length vc) ≠ some g ∧ g < wr.heap.size) ∨ wr.heap.size ≤ g) z9.w (.agg #[.slice qb1 ln qd1, .slice ab1 0 ad1]) (qs.take j ++ qs.drop (j + 1)) [])
        rw [← HLN.out] at HNZ ⊢
        rw [← hz9]
        clear hz9 HN10
        obtain ⟨S, hS⟩ : ∃ S, S = (z9.w.setCell ⟨B5, 0, none⟩ (.slice qb1 (qs.take j ++ qs.drop (j + 1)).length qd1)).setCell ⟨B5, 1, none⟩ (.slice ab1 0 ad1) := ⟨_, rfl⟩
        have hRS : Rd S (some ⟨bv, ov, none⟩) (qs.flatMap Pk.c) := by rw [hS]; exact ((RQ.out z9).set (fun g off h => by cases h; omega) _).set (fun g off h => by cases h; omega) _
        have RS := hid (after_rd hRS); clear hRS
        rw [← hS]
        have HS := hid hS; clear hS
        obtain ⟨uS, hu⟩ : ∃ u : After S, u.w = S := ⟨After.here S, rfl⟩
        rw [← hu]
        clear hu
        have hw : IntKind.i64.wrap ((j : Int) + 1) = ((j + 1 : Nat) : Int) := by simp [IntKind.wrap_i64]; omega
        have hn1 : (((j + 1 : Nat) : Int)).toNat = j + 1 := rfl
        have h2 : j ≤ vc := by omega
        have h5 : 0 ≤ (j : Int) + 1 := by omega
        have h6 : (j : Int) + 1 ≤ qs.length := by omega
        have h7 : (j : Int) + 1 ≤ vc := by omega
        have h8 : j + 1 ≤ vc := by omega
        by_cases h4 : vc = j + 1
        · subst h4
          have h9 : (j : Int) ≤ (j : Int) + 1 := by omega
          have Hm := hid (show qs.drop (j + 1) = [] from List.drop_of_length_le (by omega))
          refine whole_region 11 rfl (by kernel_rfl) ?_
          intro u0
          refine h_take 1 (x := ?_) rfl (by kernel_rfl) (by kernel_rfl) (by kernel_rfl) (fun _ _ _ h => h) (by rfl) (fun v => ?_) ?_
          rotate_left
          · (go_simp; try with_reducible rfl)
          try simp only [Act.put, List.setIfInBounds_toArray, List.set_cons_zero, List.set_cons_succ]
          refine h_take 2 (x := ?_) rfl (by kernel_rfl) (by kernel_rfl) (by kernel_rfl) (fun _ _ _ h => h) (by rfl) (fun v => ?_) ?_
          rotate_left
          · (go_simp; try with_reducible rfl)
          try simp only [Act.put, List.setIfInBounds_toArray, List.set_cons_zero, List.set_cons_succ]
          refine h_take 3 (x := ?_) rfl (by kernel_rfl) (by kernel_rfl) (by kernel_rfl) (fun _ _ _ h => h) (by rfl) (fun v => ?_) ?_
          rotate_left
          · (go_simp; try with_reducible rfl)
          try simp only [Act.put, List.setIfInBounds_toArray, List.set_cons_zero, List.set_cons_succ]
          refine h_take 5 (x := ?_) rfl (by kernel_rfl) (by kernel_rfl) (by kernel_rfl) (fun _ _ _ h => h) (by rfl) (fun v => ?_) ?_
          rotate_left
          · (go_simp; try with_reducible rfl)
          try simp only [Act.put, List.setIfInBounds_toArray, List.set_cons_zero, List.set_cons_succ]
          refine h_take 6 (x := ?_) rfl (by kernel_rfl) (by kernel_rfl) (by kernel_rfl) (fun _ _ _ h => h) (by rfl) (fun v => ?_) ?_
          rotate_left
          · (go_simp; try with_reducible rfl)
          try simp only [Act.put, List.setIfInBounds_toArray, List.set_cons_zero, List.set_cons_succ]
          refine h_take 7 (x := ?_) rfl (by kernel_rfl) (by kernel_rfl) (by kernel_rfl) (fun _ _ _ h => h) (by rfl) (fun v => ?_) ?_
          rotate_left
          · (go_simp; try with_reducible rfl)
          try simp only [Act.put, List.setIfInBounds_toArray, List.set_cons_zero, List.set_cons_succ]
          refine h_take 8 (x := ?_) rfl (by kernel_rfl) (by kernel_rfl) (by kernel_rfl) (fun _ _ _ h => h) (by rfl) (fun v => ?_) ?_
          rotate_left
          · (go_simp; try with_reducible rfl)
          try simp only [Act.put, List.setIfInBounds_toArray, List.set_cons_zero, List.set_cons_succ]
          refine h_step 0 (by kernel_rfl) rfl (fun K hK => ?_)
          go_simp
          obtain ⟨v1, hv1⟩ : ∃ v1 : After S, v1.w = u0.w.alloc (.cells #[] 28) := ⟨u0.on (b_alloc (Below.refl _ _) _), rfl⟩
          rw [← hv1]
          have hown0 : v1.w.ownsRow u0.w.heap.size 28 3 (.slice (some ⟨u0.w.heap.size, 0, none⟩) 0 0) 0 [] := by rw [hv1]; exact World.ownsRow_made u0.w #[] 0 (Nat.le_refl _) (by unfold maxLen; omega) (by simp)
          have sz1 : u0.w.heap.size ≤ v1.w.heap.size := by rw [hv1]; simp
          clear hv1
          refine hK _ v1 ?_
          clear hK K
          try simp only [Act.put, List.setIfInBounds_toArray, List.set_cons_zero, List.set_cons_succ]
          refine h_step 4 (by kernel_rfl) rfl (fun K hK => ?_)
          refine step_append_rd _ rfl (.tmp 82) (.tmp 85) 22 rfl u0.w.heap.size 28 i0 (.agg #[.int .i64 0, .int .i64 0, .slice none 0 0]) 3 40 und22 hi hz0 hz1 hz2 rfl (by decide) _ _ _ (by rfl) hown0 (some ⟨bv, ov, none⟩) j _ ((qs.take j).flatMap Pk.c) (by rfl) (by rw [flat_len Pk.c 3 Pk.c3, List.length_take]; omega) (rd_take (RS.out v1) j) (Pk.ones _) (by unfold maxLen; omega) (by omega) sz1 ?_
          intro x1 w' hown1 hgrow
          obtain ⟨v2, rfl, sz2⟩ := After.app u0 v1 hown0 hgrow sz1
          clear hgrow
          refine hK _ v2 ?_
          clear hK K
          try simp only [Act.put, List.setIfInBounds_toArray, List.set_cons_zero, List.set_cons_succ]
          refine h_step 9 (by kernel_rfl) rfl (fun K hK => ?_)
          refine step_append_rd _ rfl (.tmp 86) (.tmp 90) 22 rfl u0.w.heap.size 28 i0 (.agg #[.int .i64 0, .int .i64 0, .slice none 0 0]) 3 40 und22 hi hz0 hz1 hz2 rfl (by decide) _ _ _ (by rfl) hown1 (some ⟨bv, ov, none⟩) 0 _ ((qs.drop (j + 1)).flatMap Pk.c) (by rfl) (by rw [flat_len Pk.c 3 Pk.c3, List.length_drop]; try omega) (.inl (by rw [Hm.out]; rfl)) (Pk.ones _) (by unfold maxLen; omega) (by omega) sz2 ?_
          intro x2 w' hown2 hgrow
          obtain ⟨v3, rfl, sz3⟩ := After.app u0 v2 hown1 hgrow sz2
          clear hgrow
          refine hK _ v3 ?_
          clear hK K
          try simp only [Act.put, List.setIfInBounds_toArray, List.set_cons_zero, List.set_cons_succ]
          refine h_take 10 (x := ?_) rfl (by kernel_rfl) (by kernel_rfl) (by kernel_rfl) (fun _ _ _ h => h) (by rfl) (fun v => ?_) ?_
          rotate_left
          · (go_simp; try with_reducible rfl)
          try simp only [Act.put, List.setIfInBounds_toArray, List.set_cons_zero, List.set_cons_succ]
          refine wpAnyH_done (by kernel_rfl) ?_ _
          refine NoPanic.normal ?_
          have hown3 : v3.w.ownsRow S.heap.size 28 3 x2 (qs.take j ++ qs.drop (j + 1)).length ((qs.take j ++ qs.drop (j + 1)).flatMap Pk.c) := by
            have h := own_mono hown2 (base' := S.heap.size) u0.2.size
            rw [List.flatMap_append, show (qs.take j ++ qs.drop (j + 1)).length = 0 + j + 0 by simp; omega]
            simpa using h
          have hr2 := hid (hr.less z9.2 hWB rfl HNZ.out HS.out v3.2 hown3)
          clear hown0 hown1 hown2 hown3
          go_wp2_with fail
          go_roundw
          case rel => exact ⟨k + 1, qs.take j ++ qs.drop (j + 1), _, _, _, _, by simp; omega, fun q hq => hm q (left_sub hq), by go_num, hr2.out⟩
          case measure => simp [intOf]; omega
        · skip
          refine whole_region 11 rfl (by kernel_rfl) ?_
          intro u0
          refine h_take 1 (x := ?_) rfl (by kernel_rfl) (by kernel_rfl) (by kernel_rfl) (fun _ _ _ h => h) (by rfl) (fun v => ?_) ?_
          rotate_left
          · (go_simp; try with_reducible rfl)
          try simp only [Act.put, List.setIfInBounds_toArray, List.set_cons_zero, List.set_cons_succ]
          refine h_take 2 (x := ?_) rfl (by kernel_rfl) (by kernel_rfl) (by kernel_rfl) (fun _ _ _ h => h) (by rfl) (fun v => ?_) ?_
          rotate_left
          · (go_simp; try with_reducible rfl)
          try simp only [Act.put, List.setIfInBounds_toArray, List.set_cons_zero, List.set_cons_succ]
          refine h_take 3 (x := ?_) rfl (by kernel_rfl) (by kernel_rfl) (by kernel_rfl) (fun _ _ _ h => h) (by rfl) (fun v => ?_) ?_
          rotate_left
          · (go_simp; try with_reducible rfl)
          try simp only [Act.put, List.setIfInBounds_toArray, List.set_cons_zero, List.set_cons_succ]
          refine h_take 5 (x := ?_) rfl (by kernel_rfl) (by kernel_rfl) (by kernel_rfl) (fun _ _ _ h => h) (by rfl) (fun v => ?_) ?_
          rotate_left
          · (go_simp; try with_reducible rfl)
          try simp only [Act.put, List.setIfInBounds_toArray, List.set_cons_zero, List.set_cons_succ]
          refine h_take 6 (x := ?_) rfl (by kernel_rfl) (by kernel_rfl) (by kernel_rfl) (fun _ _ _ h => h) (by rfl) (fun v => ?_) ?_
          rotate_left
          · (go_simp; try with_reducible rfl)
          try simp only [Act.put, List.setIfInBounds_toArray, List.set_cons_zero, List.set_cons_succ]
          refine h_take 7 (x := ?_) rfl (by kernel_rfl) (by kernel_rfl) (by kernel_rfl) (fun _ _ _ h => h) (by rfl) (fun v => ?_) ?_
          rotate_left
          · (go_simp; try with_reducible rfl)
          try simp only [Act.put, List.setIfInBounds_toArray, List.set_cons_zero, List.set_cons_succ]
          refine h_take 8 (x := ?_) rfl (by kernel_rfl) (by kernel_rfl) (by kernel_rfl) (fun _ _ _ h => h) (by rfl) (fun v => ?_) ?_
          rotate_left
          · (go_simp; try with_reducible rfl)
          try simp only [Act.put, List.setIfInBounds_toArray, List.set_cons_zero, List.set_cons_succ]
          refine h_step 0 (by kernel_rfl) rfl (fun K hK => ?_)
          go_simp
          obtain ⟨v1, hv1⟩ : ∃ v1 : After S, v1.w = u0.w.alloc (.cells #[] 28) := ⟨u0.on (b_alloc (Below.refl _ _) _), rfl⟩
          rw [← hv1]
          have hown0 : v1.w.ownsRow u0.w.heap.size 28 3 (.slice (some ⟨u0.w.heap.size, 0, none⟩) 0 0) 0 [] := by rw [hv1]; exact World.ownsRow_made u0.w #[] 0 (Nat.le_refl _) (by unfold maxLen; omega) (by simp)
          have sz1 : u0.w.heap.size ≤ v1.w.heap.size := by rw [hv1]; simp
          clear hv1
          refine hK _ v1 ?_
          clear hK K
          try simp only [Act.put, List.setIfInBounds_toArray, List.set_cons_zero, List.set_cons_succ]
          refine h_step 4 (by kernel_rfl) rfl (fun K hK => ?_)
          refine step_append_rd _ rfl (.tmp 82) (.tmp 85) 22 rfl u0.w.heap.size 28 i0 (.agg #[.int .i64 0, .int .i64 0, .slice none 0 0]) 3 40 und22 hi hz0 hz1 hz2 rfl (by decide) _ _ _ (by rfl) hown0 (some ⟨bv, ov, none⟩) j _ ((qs.take j).flatMap Pk.c) (by rfl) (by rw [flat_len Pk.c 3 Pk.c3, List.length_take]; omega) (rd_take (RS.out v1) j) (Pk.ones _) (by unfold maxLen; omega) (by omega) sz1 ?_
          intro x1 w' hown1 hgrow
          obtain ⟨v2, rfl, sz2⟩ := After.app u0 v1 hown0 hgrow sz1
          clear hgrow
          refine hK _ v2 ?_
          clear hK K
          try simp only [Act.put, List.setIfInBounds_toArray, List.set_cons_zero, List.set_cons_succ]
          refine h_step 9 (by kernel_rfl) rfl (fun K hK => ?_)
          refine step_append_rd _ rfl (.tmp 86) (.tmp 90) 22 rfl u0.w.heap.size 28 i0 (.agg #[.int .i64 0, .int .i64 0, .slice none 0 0]) 3 40 und22 hi hz0 hz1 hz2 rfl (by decide) _ _ _ (by rfl) hown1 (some ⟨bv, ov + (j + 1) * 3, none⟩) (qs.length - (j + 1)) _ ((qs.drop (j + 1)).flatMap Pk.c) (by rfl) (by rw [flat_len Pk.c 3 Pk.c3, List.length_drop]; try omega) (rd_drop (RS.out v2) (j + 1) (by omega)) (Pk.ones _) (by unfold maxLen; omega) (by omega) sz2 ?_
          intro x2 w' hown2 hgrow
          obtain ⟨v3, rfl, sz3⟩ := After.app u0 v2 hown1 hgrow sz2
          clear hgrow
          refine hK _ v3 ?_
          clear hK K
          try simp only [Act.put, List.setIfInBounds_toArray, List.set_cons_zero, List.set_cons_succ]
          refine h_take 10 (x := ?_) rfl (by kernel_rfl) (by kernel_rfl) (by kernel_rfl) (fun _ _ _ h => h) (by rfl) (fun v => ?_) ?_
          rotate_left
          · (go_simp; try with_reducible rfl)
          try simp only [Act.put, List.setIfInBounds_toArray, List.set_cons_zero, List.set_cons_succ]
          refine wpAnyH_done (by kernel_rfl) ?_ _
          refine NoPanic.normal ?_
          have hown3 : v3.w.ownsRow S.heap.size 28 3 x2 (qs.take j ++ qs.drop (j + 1)).length ((qs.take j ++ qs.drop (j + 1)).flatMap Pk.c) := by
            have h := own_mono hown2 (base' := S.heap.size) u0.2.size
            rw [List.flatMap_append, show (qs.take j ++ qs.drop (j + 1)).length = 0 + j + (qs.length - (j + 1)) by simp; omega]
            simpa using h
          have hr2 := hid (hr.less z9.2 hWB rfl HNZ.out HS.out v3.2 hown3)
          clear hown0 hown1 hown2 hown3
          go_wp2_with fail
          go_roundw
          case rel => exact ⟨k + 1, qs.take j ++ qs.drop (j + 1), _, _, _, _, by simp; omega, fun q hq => hm q (left_sub hq), by go_num, hr2.out⟩
          case measure => simp [intOf]; omega
end Go.Proofs.Ytmikhkmdcpgkfaa
namespace Go.Proofs.Ytmikhkmdcpgkfaa.All4
open Go.ChangeShapes Go.WideShapes Go.ChangeAt Go.RowKit Go.Joins

theorem own : ownKnob Try.prog.godebug = none := by kernel_rfl
theorem laidOut : laidOutB Try.prog = true := by kernel_rfl

set_option maxRecDepth 100000 in
theorem lifted (os : Os) (started : os.Started) (H : Type) (enc : TypeId × Value → H) :
    ReturnsInHanded {} Try.checked os 4 .any (Rows.networkAllSpec.pre6 enc Try.prog Try.f4 Rows.networkAllRow.domain false) (Rows.networkAllSpec.post enc Try.prog Try.f4 false true false false) := by
  refine returnsInHanded_of_change (C := Try.checked) own started (by kernel_rfl) Try.func4
    (ChangeSpec.witness6 (enc := enc) (C := Try.checked) false ⟨#[], #[.slice none 0 0, .slice none 0 0], []⟩ 8 (by kernel_rfl) (by kernel_rfl) (by kernel_rfl) (by kernel_rfl)) ?_
  intro W base args ds gs before hval0 hW hcnd _
  have hval : ∀ (j : Nat) t v, Try.f4.params[j]? = some t → args[j]? = some v → Value.okWide Try.prog W .any base t v := hval0
  have hW' := hW
  obtain ⟨p, q, hA0, hV, rfl, hfz, hnd⟩ := hW
  have hA : DataW.TrodAll enc Try.prog W 0 (fun _ => true) true Try.f4.params.toList args.toList ds p := hA0
  rw [Try.params4] at hA hval
  obtain ⟨v0, vs0, d0, ds0, p0, q0, hargs, rfl, rfl, h0, r0⟩ := trodAll_cons hA
  obtain ⟨v1, vs1, d1, ds1, p1, q1, rfl, rfl, rfl, h1, r1⟩ := trodAll_cons r0
  obtain ⟨rfl, rfl, rfl⟩ := trodAll_nil r1
  obtain rfl : args = #[v0, v1] := by cases args; simp_all
  obtain ⟨rfl, rfl⟩ := trodVars_none hV
  have k0 := h0
  have lt0 : ∀ x ∈ p0, x.block < W.heap.size := by obtain ⟨m, hm⟩ := k0; exact DataW.trod_lt m _ _ _ hm
  obtain ⟨xa0, xn0, xc0, rfl⟩ := okWide_slice Try.underlying22 (hval 0 22 v0 rfl rfl)
  obtain ⟨m0, hm0⟩ := h0
  obtain ⟨la, ln, lc, e0, hlf, lp, rfl, hlr, hld⟩ := open_packets hm0
  cases e0
  have k1 := h1
  have lt1 : ∀ x ∈ p1, x.block < W.heap.size := by obtain ⟨m, hm⟩ := k1; exact DataW.trod_lt m _ _ _ hm
  obtain ⟨xa1, xn1, xc1, rfl⟩ := okWide_slice Try.underlying26 (hval 1 26 v1 rfl rfl)
  obtain ⟨m1, hm1⟩ := h1
  obtain ⟨oa, on, oc, e1, os1, rfl, hor⟩ := open_bytes hm1
  cases e1
  clear hA0 hval0
  refine (all_walk (dOf W) lp os1 _ _ _ _ W hlr hor (fun q hq => dOf_is (hld q hq))).mono fun e W' ⟨he, bel⟩ => ?_
  subst he
  exact ⟨_, rfl, _, _, _, [], _, [], hW', trodAll_mk1 (shut_bool Try.underlying4 _), (trodAll_cons_mk (Below.trod laidOut (by kernel_rfl) (of_decide_eq_true (by kernel_rfl)) k0 bel lt0) (trodAll_cons_mk (Below.trod laidOut (by kernel_rfl) (of_decide_eq_true (by kernel_rfl)) k1 bel lt1) trodAll_mk0)), rfl, bel.frame _, fun h => by cases h⟩

theorem over : Rows.networkAllRow.holds Try.pinned (OpenSpec.ofChange Rows.networkAllSpec) :=
  OpenClaim.holds_of_wide 4 Try.f4 rfl rfl rfl rfl rfl rfl rfl ⟨rfl, rfl, rfl, rfl, rfl⟩ rfl rfl rfl rfl rfl (by kernel_rfl) Try.func4 (by kernel_rfl)
    (of_decide_eq_true (by kernel_rfl)) (by unfold Func.isWrapper; first | (rw [if_pos (by decide +kernel)]; kernel_rfl) | (rw [if_neg (by decide +kernel)]; exact ⟨rfl, rfl⟩))
    (fun os started H enc _ => lifted os started H enc)
end Go.Proofs.Ytmikhkmdcpgkfaa.All4
namespace Go.Proofs.Ytmikhkmdcpgkfaa
/-- The statement. -/
theorem networkAll_holds : Rows.NetworkAllSaid := All4.over
end Go.Proofs.Ytmikhkmdcpgkfaa
