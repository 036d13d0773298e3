/- The reference's Insert. -/
import Derived.Test.YtbppajenihjfhaaT
import Derived.Test.YtbppajenihjfhaaD
import Derived.IntWalk
namespace Go.Proofs.Ytbppajenihjfhaa
open Go.RowKit
open Go.Lib (hid)

/-- The loop that counts down: the last number below n, from j on, at which P held. -/
def LastIs (P : Nat → Bool) (s d : Int) (j n : Nat) : Prop := (s = d ∧ ∀ x, j ≤ x → x < n → P x = false) ∨ ∃ x : Nat, s = x ∧ j ≤ x ∧ x < n ∧ P x = true ∧ ∀ y, j ≤ y → y < x → P y = false
theorem LastIs.start {P : Nat → Bool} {d : Int} {n : Nat} : LastIs P d d n n := .inl ⟨rfl, fun _ h1 h2 => absurd h2 (by omega)⟩
theorem LastIs.miss {P : Nat → Bool} {s d : Int} {j n : Nat} (h : LastIs P s d (j + 1) n) (hp : P j = false) : LastIs P s d j n := by
  rcases h with ⟨h1, h2⟩ | ⟨x, h1, h2, h3, h4, h5⟩
  · exact .inl ⟨h1, fun x hj hx => by
      by_cases he : x = j
      · rw [he]; exact hp
      · exact h2 x (by omega) hx⟩
  · exact .inr ⟨x, h1, by omega, h3, h4, fun y hj hy => by
      by_cases he : y = j
      · rw [he]; exact hp
      · exact h5 y (by omega) hy⟩
theorem LastIs.hit {P : Nat → Bool} {s d : Int} {j n : Nat} (_h : LastIs P s d (j + 1) n) (hp : P j = true) (hj : j < n := by omega) : LastIs P (j : Int) d j n :=
  .inr ⟨j, rfl, Nat.le_refl _, hj, hp, fun y h1 h2 => absurd h2 (by omega)⟩
theorem Rd.take {w : World} {a : Option Addr} {xs : List Value} (h : Rd w a xs) (i : Nat) : Rd w a (xs.take i) := by
  rcases h with h | ⟨b, off, ha, hb, hc⟩
  · exact .inl (by rw [h, List.take_nil])
  · exact .inr ⟨b, off, ha, hb, fun j u hu => hc j u (by
      rw [List.getElem?_take] at hu
      split at hu
      · exact hu
      · cases hu)⟩
theorem Rd.drop {w : World} {b off : Nat} {xs : List Value} (h : Rd w (some ⟨b, off, none⟩) xs) (i : Nat) : Rd w (some ⟨b, off + i, none⟩) (xs.drop i) := by
  rcases h with h | ⟨b', off', ha, hb, hc⟩
  · exact .inl (by rw [h, List.drop_nil])
  · cases ha
    exact .inr ⟨b, off + i, rfl, hb, fun j u hu => by rw [Nat.add_assoc]; exact hc _ u (by rw [List.getElem?_drop] at hu; exact hu)⟩
def IL (m : List Tp) (t : Tp) (n : Nat) (V : World) (s d i : Value) (wr : World) : Prop := ∃ (j : Nat) (z : After V) (S D : Int), j ≤ n ∧ i = .int .i64 ((j : Int) - 1) ∧ s = .int .i64 S ∧ d = .int .i64 D ∧ wr = z.w ∧ Hid (LastIs (fun x => (tp m x).k == t.k) S (-1) j n) ∧ Hid (LastIs (fun x => decide (t.k < (tp m x).k)) D n j n)

set_option maxRecDepth 100000 in
set_option maxHeartbeats 4000000 in
theorem rInsert_any (m : List Tp) (nn : Nat) (hnn : m.length = nn) (a : Option Addr) (c : Nat) (t : Tp) (hf : a = none → nn = 0 ∧ c = 0) (hc : nn ≤ c) (hb : nn ≤ 80) (w : World) (hr : Rd w a (m.flatMap Tp.c)) :
    Calls Try.prog 44 #[.slice a nn c, .agg #[.int .i64 t.k, .int .i64 t.n, .int .i64 t.d, .bool t.r]] w fun e w' => ∃ v, e = .returned (.tuple #[v, .int .i64 (insE m t)]) ∧ SlIs w' v (insV m t) ∧ Below w.heap.size w w' := by
  have HN := hid hnn; have HR := hid hr
  clear hnn hr
  obtain ⟨i0, hi, hz0, hz1, hz2⟩ := info_parts info53
  go_enter Try.func44, Try.ntmps44
  go_wp2_with fail
  obtain ⟨V, hV⟩ : ∃ V, V = (w.alloc (.cells #[.int .i64 t.k, .int .i64 t.n, .int .i64 t.d, .bool t.r] 53)) := ⟨_, rfl⟩
  have t0 : ∀ v : After V, v.w.cell? ⟨w.heap.size, 0, none⟩ = some (.int .i64 t.k) := after_cell (by rw [hV]; first | (simp; done) | omega | (simp; omega)) (by rw [hV]; (repeat (first | with_reducible assumption | exact bn (by first | (simp; done) | omega | (simp; omega)) rfl | refine bo (by first | (simp; done) | omega | (simp; omega)) ?_)))
  have ft0 : ∀ v : After V, v.w.frozen? ⟨w.heap.size, 0, none⟩ = false := after_frozen (by rw [hV]; first | (simp; done) | omega | (simp; omega)) (by rw [hV]; (repeat (first | exact fn (by first | (simp; done) | omega | (simp; omega)) | refine fo (by first | (simp; done) | omega | (simp; omega)) ?_)))
  have t1 : ∀ v : After V, v.w.cell? ⟨w.heap.size, 1, none⟩ = some (.int .i64 t.n) := after_cell (by rw [hV]; first | (simp; done) | omega | (simp; omega)) (by rw [hV]; (repeat (first | with_reducible assumption | exact bn (by first | (simp; done) | omega | (simp; omega)) rfl | refine bo (by first | (simp; done) | omega | (simp; omega)) ?_)))
  have ft1 : ∀ v : After V, v.w.frozen? ⟨w.heap.size, 1, none⟩ = false := after_frozen (by rw [hV]; first | (simp; done) | omega | (simp; omega)) (by rw [hV]; (repeat (first | exact fn (by first | (simp; done) | omega | (simp; omega)) | refine fo (by first | (simp; done) | omega | (simp; omega)) ?_)))
  have t2 : ∀ v : After V, v.w.cell? ⟨w.heap.size, 2, none⟩ = some (.int .i64 t.d) := after_cell (by rw [hV]; first | (simp; done) | omega | (simp; omega)) (by rw [hV]; (repeat (first | with_reducible assumption | exact bn (by first | (simp; done) | omega | (simp; omega)) rfl | refine bo (by first | (simp; done) | omega | (simp; omega)) ?_)))
  have ft2 : ∀ v : After V, v.w.frozen? ⟨w.heap.size, 2, none⟩ = false := after_frozen (by rw [hV]; first | (simp; done) | omega | (simp; omega)) (by rw [hV]; (repeat (first | exact fn (by first | (simp; done) | omega | (simp; omega)) | refine fo (by first | (simp; done) | omega | (simp; omega)) ?_)))
  have t3 : ∀ v : After V, v.w.cell? ⟨w.heap.size, 3, none⟩ = some (.bool t.r) := after_cell (by rw [hV]; first | (simp; done) | omega | (simp; omega)) (by rw [hV]; (repeat (first | with_reducible assumption | exact bn (by first | (simp; done) | omega | (simp; omega)) rfl | refine bo (by first | (simp; done) | omega | (simp; omega)) ?_)))
  have ft3 : ∀ v : After V, v.w.frozen? ⟨w.heap.size, 3, none⟩ = false := after_frozen (by rw [hV]; first | (simp; done) | omega | (simp; omega)) (by rw [hV]; (repeat (first | exact fn (by first | (simp; done) | omega | (simp; omega)) | refine fo (by first | (simp; done) | omega | (simp; omega)) ?_)))
  have zt : ∀ v : After V, w.heap.size < v.w.heap.size := after_size (by rw [hV]; first | (simp; done) | omega | (simp; omega))
  have hwV : Below w.heap.size w V := by rw [hV]; exact (by repeat (first | exact Below.refl _ _ | assumption | refine b_then ?_ (by assumption) | refine b_alloc ?_ _ | refine b_drewN ?_ _ | refine b_drew ?_ | refine b_set ?_ (by omega) _ | refine b_set ?_ (by simp) _))
  have WV := hid (after_below hwV)
  rw [← hV]
  obtain ⟨u0, hu⟩ : ∃ u : After V, u.w = V := ⟨After.here V, rfl⟩
  rw [← hu]
  clear hu hV
  have RV := hid (fun v : After V => HR.out.below (WV.out v))
  go_loopw [6, 7, 8] (fun s d i wr => IL m t nn V s d i wr) (fun _ _ i _ => (intOf i + 1).toNat)
  case atStart => exact ⟨nn, u0, -1, nn, Nat.le_refl _, rfl, rfl, rfl, rfl, hid LastIs.start, hid LastIs.start⟩
  case round =>
    obtain ⟨j, z, S, D, hj, rfl, rfl, rfl, rfl, hs, hd⟩ := hrel
    rcases Nat.eq_zero_or_pos j with rfl | hpos
    case inr =>
      obtain ⟨j, rfl⟩ : ∃ i, j = i + 1 := ⟨j - 1, by omega⟩
      rw [show ((j + 1 : Nat) : Int) - 1 = (j : Int) by omega]
      have hlt : j < m.length := by rw [HN.out]; omega
      obtain ⟨b, off, rfl, hbl⟩ := HR.out.addr (by rw [flat_len Tp.c 4 Tp.c4]; omega)
      obtain ⟨k, hk⟩ : ∃ k, (tp m j).k = k := ⟨_, rfl⟩
      have c0 : ∀ v : After V, v.w.cell? ⟨b, off + j * 4, none⟩ = some (.int .i64 k) := tp_cell RV.out (j := j) hlt 0 (by decide) (by rw [← hk]; rfl) rfl
      have HK := hid hk; clear hk
      have hjj : (j : Int) < (nn : Int) := by omega
      go_wp2_with fail
      rcases hgk : decide (t.k < k) with _ | _
      · rcases hge : (k == t.k) with _ | _
        · have g1 := hid hge; have g2 := hid hgk
          refine wp_region_since (by kernel_rfl) (by kernel_rfl) ?_
          repeat (go_big_quiet_step (fail))
          refine wpQuiet_nil ?_
          intro u7
          go_wp2_with fail
          refine wp_region_since (by kernel_rfl) (by kernel_rfl) ?_
          repeat (go_big_quiet_step (fail))
          refine wpQuiet_nil ?_
          intro u8
          clear hge hgk
          go_wp2_with fail
          go_roundw
          case rel => exact ⟨j, u8, S, D, by omega, rfl, rfl, rfl, rfl, hid (LastIs.miss hs.out (by rw [HK.out]; exact g1.out)), hid (LastIs.miss hd.out (by rw [HK.out]; exact g2.out))⟩
          case measure => first | (simp [intOf]; done) | (simp [intOf]; omega)
        · have g1 := hid hge; have g2 := hid hgk
          refine wp_region_since (by kernel_rfl) (by kernel_rfl) ?_
          repeat (go_big_quiet_step (fail))
          refine wpQuiet_nil ?_
          intro u7
          go_wp2_with fail
          refine wp_region_since (by kernel_rfl) (by kernel_rfl) ?_
          repeat (go_big_quiet_step (fail))
          refine wpQuiet_nil ?_
          intro u8
          clear hge hgk
          go_wp2_with fail
          go_roundw
          case rel => exact ⟨j, u8, (j : Int), D, by omega, rfl, rfl, rfl, rfl, hid (LastIs.hit hs.out (by rw [HK.out]; exact g1.out)), hid (LastIs.miss hd.out (by rw [HK.out]; exact g2.out))⟩
          case measure => first | (simp [intOf]; done) | (simp [intOf]; omega)
      · have hge : (k == t.k) = false := beq_eq_false_iff_ne.2 (by simp at hgk; omega)
        have g1 := hid hge; have g2 := hid hgk
        refine wp_region_since (by kernel_rfl) (by kernel_rfl) ?_
        repeat (go_big_quiet_step (fail))
        refine wpQuiet_nil ?_
        intro u7
        go_wp2_with fail
        refine wp_region_since (by kernel_rfl) (by kernel_rfl) ?_
        repeat (go_big_quiet_step (fail))
        refine wpQuiet_nil ?_
        intro u8
        clear hge hgk
        go_wp2_with fail
        go_roundw
        case rel => exact ⟨j, u8, S, (j : Int), by omega, rfl, rfl, rfl, rfl, hid (LastIs.miss hs.out (by rw [HK.out]; exact g1.out)), hid (LastIs.hit hd.out (by rw [HK.out]; exact g2.out))⟩
        case measure => first | (simp [intOf]; done) | (simp [intOf]; omega)
    case inl =>
      rw [show ((0 : Nat) : Int) - 1 = -1 from rfl]
      rcases hs.out with ⟨rfl, h0⟩ | ⟨j, rfl, -, hj, h1, h2⟩
      · have HNO := hid h0; clear h0
        obtain ⟨b, hD, hbn, hB⟩ : ∃ b : Nat, D = (b : Int) ∧ b ≤ nn ∧ fstIx (fun i => decide (t.k < (tp m i).k)) m.length = b := by
          rcases hd.out with ⟨h, h0⟩ | ⟨x, h, -, h1, h2, h3⟩
          · exact ⟨nn, h, Nat.le_refl _, by rw [fst_none (fun x hx => h0 x (by omega) (by rw [← HN.out]; exact hx)), HN.out]⟩
          · exact ⟨x, h, by omega, fst_is (by rw [HN.out]; exact h1) h2 (fun y hy => h3 y (by omega) hy)⟩
        subst hD
        have HB := hid hB; clear hB
        go_upto_region 11 with (at_builtin; refine wpList_append_rd _ rfl (.tmp 37) (.tmp 38) 48 rfl V.heap.size 53 i0 (.agg #[.int .i64 0, .int .i64 0, .int .i64 0, .bool false]) 4 32 und48 hi hz0 hz1 hz2 rfl (by decide) _ _ _ rfl (World.ownsRow_made z.w #[] 0 z.w_below.size (by unfold maxLen; omega) (by simp)) a nn c (m.flatMap Tp.c) rfl (by rw [flat_len Tp.c 4 Tp.c4, HN.out]) ((RV.out z).alloc _) (Tp.ones _) (by unfold maxLen; omega) (by omega) (by have := z.w_below.size; simp; omega) ?_; intro v8 w8 ho8 hgrow)
        have ho8 : w8.ownsRow V.heap.size 53 4 v8 nn (m.flatMap Tp.c) := by simpa using ho8
        obtain ⟨u2, rfl⟩ : ∃ y9 : After V, w8 = y9.w := ⟨After.to (Below.trans (z.w_below.alloc z.w_below.size _) (own_below (World.ownsRow_made z.w #[] 0 (base := V.heap.size) (size := 4) z.w_below.size (by unfold maxLen; omega) (by simp)) hgrow (by have := z.w_below.size; simp; omega))), rfl⟩
        clear hgrow
        clear ho8
        have b1 : (b : Int) ≤ (nn : Int) := by omega
        have b2 : (b : Int) ≤ (c : Int) := by omega
        have b3 : b ≤ c := by omega
        go_wp2_with fail
        rcases Nat.eq_zero_or_pos nn with rfl | hnn
        · obtain rfl : b = 0 := by omega
          have HM := hid (List.eq_nil_of_length_eq_zero HN.out)
          cases a with
          | none =>
            obtain ⟨-, rfl⟩ := hf rfl
            refine whole_region 13 rfl (by kernel_rfl) ?_
            intro u0
            refine h_take 1 (x := ?_) rfl (by kernel_rfl) (by kernel_rfl) (by kernel_rfl) (fun _ _ _ h => h) (by rfl) (fun v => ?_) ?_
            rotate_left
            · (go_simp; try with_reducible rfl)
            try simp only [Act.put, List.setIfInBounds_toArray, List.set_cons_zero, List.set_cons_succ]
            refine h_take 2 (x := ?_) rfl (by kernel_rfl) (by kernel_rfl) (by kernel_rfl) (fun _ _ _ h => h) (by rfl) (fun v => ?_) ?_
            rotate_left
            · (go_simp; try with_reducible rfl)
            try simp only [Act.put, List.setIfInBounds_toArray, List.set_cons_zero, List.set_cons_succ]
            refine h_take 3 (x := ?_) rfl (by kernel_rfl) (by kernel_rfl) (by kernel_rfl) (fun _ _ _ h => h) (by rfl) (fun v => ?_) ?_
            rotate_left
            · (go_simp; try with_reducible rfl)
            try simp only [Act.put, List.setIfInBounds_toArray, List.set_cons_zero, List.set_cons_succ]
            refine h_take 5 (x := ?_) rfl (by kernel_rfl) (by kernel_rfl) (by kernel_rfl) (fun _ _ _ h => h) (by rfl) (fun v => ?_) ?_
            rotate_left
            · (go_simp; try with_reducible rfl)
            try simp only [Act.put, List.setIfInBounds_toArray, List.set_cons_zero, List.set_cons_succ]
            refine h_take 8 (x := ?_) rfl (by kernel_rfl) (by kernel_rfl) (by kernel_rfl) (fun _ _ _ h => h) (by rfl) (fun v => ?_) ?_
            rotate_left
            · (go_simp; try with_reducible rfl)
            try simp only [Act.put, List.setIfInBounds_toArray, List.set_cons_zero, List.set_cons_succ]
            refine h_take 9 (x := ?_) rfl (by kernel_rfl) (by kernel_rfl) (by kernel_rfl) (fun _ _ _ h => h) (by rfl) (fun v => ?_) ?_
            rotate_left
            · (go_simp; try with_reducible rfl)
            try simp only [Act.put, List.setIfInBounds_toArray, List.set_cons_zero, List.set_cons_succ]
            refine h_take 10 (x := ?_) rfl (by kernel_rfl) (by kernel_rfl) (by kernel_rfl) (fun _ _ _ h => h) (by rfl) (fun v => ?_) ?_
            rotate_left
            · (go_simp; try with_reducible rfl)
            try simp only [Act.put, List.setIfInBounds_toArray, List.set_cons_zero, List.set_cons_succ]
            refine h_two 0 6 (by kernel_rfl) rfl rfl (fun K hK => ?_) (fun K hK => ?_)
            · go_simp
              obtain ⟨v1, hv1⟩ : ∃ y9 : After V, y9.w = u0.w.alloc (.cells #[] 53) := ⟨u0.on (b_alloc (Below.refl _ _) _), rfl⟩
              rw [← hv1]
              have hown1 : v1.w.ownsRow u0.w.heap.size 53 4 (.slice (some ⟨u0.w.heap.size, 0, none⟩) 0 0) 0 [] := by rw [hv1]; exact World.ownsRow_made u0.w #[] 0 (Nat.le_refl _) (by unfold maxLen; omega) (by simp)
              have sz1 : u0.w.heap.size ≤ v1.w.heap.size := by rw [hv1]; simp
              clear hv1
              refine hK _ v1 ?_
              clear hK K
              try simp only [Act.put, List.setIfInBounds_toArray, List.set_cons_zero, List.set_cons_succ]
              refine h_two 4 6 (by kernel_rfl) rfl rfl (fun K hK => ?_) (fun K hK => ?_)
              · refine step_append_rd _ rfl (.tmp 46) (.tmp 49) 48 rfl u0.w.heap.size 53 i0 (.agg #[.int .i64 0, .int .i64 0, .int .i64 0, .bool false]) 4 32 und48 hi hz0 hz1 hz2 rfl (by decide) _ _ _ (by rfl) hown1 _ 0 _ ((m.take 0).flatMap Tp.c) (by rfl) (by rw [flat_len Tp.c 4 Tp.c4, List.length_take, HN.out]; omega) (.inl (by rw [HM.out]; rfl)) (Tp.ones _) (by unfold maxLen; omega) (by omega) sz1 ?_
                intro x2 w' hown2 hgrow
                obtain ⟨v2, rfl, sz2⟩ := After.app u0 v1 hown1 hgrow sz1
                clear hgrow
                refine hK _ v2 ?_
                clear hK K
                try simp only [Act.put, List.setIfInBounds_toArray, List.set_cons_zero, List.set_cons_succ]
                refine h_step 6 (by kernel_rfl) rfl (fun K hK => ?_)
                go_simp
                obtain ⟨v3, hv1⟩ : ∃ y9 : After V, y9.w = v2.w.alloc (.cells #[.int .i64 t.k, .int .i64 t.n, .int .i64 t.d, .bool t.r] 53) := ⟨v2.on (b_alloc (Below.refl _ _) _), rfl⟩
                rw [← hv1]
                have hgx3 : Rd v3.w (some ⟨v2.w.heap.size, 0, none⟩) (Tp.c t) := by rw [hv1]; exact rd_new _ _ _ rfl
                have hgl3 : v2.w.heap.size < v3.w.heap.size := by rw [hv1]; simp
                have sz3 : u0.w.heap.size ≤ v3.w.heap.size := by rw [hv1]; simpa using Nat.le_succ_of_le sz2
                have hown3 := own_eq (own_after hown2 (b_alloc (Below.refl _ _) _)) hv1
                have hne3 := own_far hown2 (v2.w.heap.size) (Nat.le_refl _)
                clear hv1
                refine hK _ v3 ?_
                clear hK K
                try simp only [Act.put, List.setIfInBounds_toArray, List.set_cons_zero, List.set_cons_succ]
                refine h_step 7 (by kernel_rfl) rfl (fun K hK => ?_)
                refine step_append_rd _ rfl (.tmp 50) (.tmp 52) 48 rfl u0.w.heap.size 53 i0 (.agg #[.int .i64 0, .int .i64 0, .int .i64 0, .bool false]) 4 32 und48 hi hz0 hz1 hz2 rfl (by decide) _ _ _ (by rfl) hown3 (some ⟨v2.w.heap.size, 0, none⟩) 1 _ (Tp.c t) (by rfl) rfl hgx3 t.one (by unfold maxLen; omega) (by omega) sz3 ?_
                intro x4 w' hown4 hgrow
                obtain ⟨v4, rfl, sz4⟩ := After.app u0 v3 hown3 hgrow sz3
                clear hgrow
                refine hK _ v4 ?_
                clear hK K
                try simp only [Act.put, List.setIfInBounds_toArray, List.set_cons_zero, List.set_cons_succ]
                refine h_step 11 (by kernel_rfl) rfl (fun K hK => ?_)
                refine step_append_rd _ rfl (.tmp 53) (.tmp 56) 48 rfl u0.w.heap.size 53 i0 (.agg #[.int .i64 0, .int .i64 0, .int .i64 0, .bool false]) 4 32 und48 hi hz0 hz1 hz2 rfl (by decide) _ _ _ (by rfl) hown4 _ 0 _ ((m.drop 0).flatMap Tp.c) (by rfl) (by rw [flat_len Tp.c 4 Tp.c4, List.length_drop, HN.out]; try omega) (.inl (by rw [HM.out]; rfl)) (Tp.ones _) (by unfold maxLen; omega) (by omega) sz4 ?_
                intro x5 w' hown5 hgrow
                obtain ⟨v5, rfl, sz5⟩ := After.app u0 v4 hown4 hgrow sz4
                clear hgrow
                refine hK _ v5 ?_
                clear hK K
                try simp only [Act.put, List.setIfInBounds_toArray, List.set_cons_zero, List.set_cons_succ]
                refine h_take 12 (x := ?_) rfl (by kernel_rfl) (by kernel_rfl) (by kernel_rfl) (fun _ _ _ h => h) (by rfl) (fun v => ?_) ?_
                rotate_left
                · (go_simp; try with_reducible rfl)
                try simp only [Act.put, List.setIfInBounds_toArray, List.set_cons_zero, List.set_cons_succ]
                refine wpAnyH_done (by kernel_rfl) ?_ _
                refine NoPanic.normal ?_
                have HX := hid (insT_new (m := m) (t := t) (fun x hx => HNO.out x (by omega) (by rw [← HN.out]; exact hx)) HB.out)
                obtain ⟨xa, xc, rfl, hxc, hxn, hxR, -⟩ := own_slice hown5
                have hxR : Rd v5.w xa ((m.take 0 ++ t :: m.drop 0).flatMap Tp.c) := by rw [List.flatMap_append, List.flatMap_cons]; simpa using hxR
                have hxl : (m.take 0 ++ t :: m.drop 0).length = 0 + 0 + 1 + 0 := by (first | (simp [HN.out]; done) | (simp [HN.out]; omega))
                obtain ⟨L, hL⟩ : ∃ L, 0 + 0 + 1 + 0 = L := ⟨_, rfl⟩
                have hL2 : L ≤ 81 := by omega
                rw [hL] at hxl hxc hxn
                rw [hL]
                have hsl := hid (show SlIs v5.w (.slice xa L xc) (m.take 0 ++ t :: m.drop 0) from ⟨xa, xc, by rw [hxl], hxR, fun h => by rw [hxl]; exact hxn h, by rw [hxl]; exact hxc⟩)
                have HXR := hid hxR; have HXL := hid hxl
                clear hxR hxn hxc hxl hL hown5
                go_wp2_with fail
                refine (rtcheck_any (m.take 0 ++ t :: m.drop 0) (L) (HXL.out) xa xc _ (by omega) (HXR.out)).mono ?_
                rintro e w5 ⟨rfl, hB0⟩
                by_cases hg2 : goodB (m.take 0 ++ t :: m.drop 0) = true
                · rw [chkT_ok hg2]
                  have hg3 := hid hg2; clear hg2
                  go_wp2_with fail
                  have hg2 := hg3.out
                  exact bodyPost_ret (v := .tuple #[.slice xa L xc, .int .i64 0]) (by simp [results, Try.results44, go_sem]) rfl ⟨_, by rw [insE, HX.out, chkT_ok hg2], by rw [insV, HX.out, if_pos hg2]; exact hsl.out.below hB0, b_then (WV.out v5) hB0⟩
                · rw [chkT_90 hg2]
                  have hg3 := hid hg2; clear hg2
                  go_wp2_with fail
                  have hg2 := hg3.out
                  exact bodyPost_ret (v := .tuple #[.slice none 0 0, .int .i64 90]) (by simp [results, Try.results44, go_sem]) rfl ⟨_, by rw [insE, HX.out, chkT_90 hg2], by rw [insV, HX.out, if_neg hg2]; exact SlIs.nil _, b_then (WV.out v5) hB0⟩
              · go_simp
                obtain ⟨v2, hv1⟩ : ∃ y9 : After V, y9.w = v1.w.alloc (.cells #[.int .i64 t.k, .int .i64 t.n, .int .i64 t.d, .bool t.r] 53) := ⟨v1.on (b_alloc (Below.refl _ _) _), rfl⟩
                rw [← hv1]
                have hgx2 : Rd v2.w (some ⟨v1.w.heap.size, 0, none⟩) (Tp.c t) := by rw [hv1]; exact rd_new _ _ _ rfl
                have hgl2 : v1.w.heap.size < v2.w.heap.size := by rw [hv1]; simp
                have sz2 : u0.w.heap.size ≤ v2.w.heap.size := by rw [hv1]; simpa using Nat.le_succ_of_le sz1
                have hown2 := own_eq (own_after hown1 (b_alloc (Below.refl _ _) _)) hv1
                have hne2 := own_far hown1 (v1.w.heap.size) (Nat.le_refl _)
                clear hv1
                refine hK _ v2 ?_
                clear hK K
                try simp only [Act.put, List.setIfInBounds_toArray, List.set_cons_zero, List.set_cons_succ]
                refine h_step 4 (by kernel_rfl) rfl (fun K hK => ?_)
                refine step_append_rd _ rfl (.tmp 46) (.tmp 49) 48 rfl u0.w.heap.size 53 i0 (.agg #[.int .i64 0, .int .i64 0, .int .i64 0, .bool false]) 4 32 und48 hi hz0 hz1 hz2 rfl (by decide) _ _ _ (by rfl) hown2 _ 0 _ ((m.take 0).flatMap Tp.c) (by rfl) (by rw [flat_len Tp.c 4 Tp.c4, List.length_take, HN.out]; omega) (.inl (by rw [HM.out]; rfl)) (Tp.ones _) (by unfold maxLen; omega) (by omega) sz2 ?_
                intro x3 w' hown3 hgrow
                have hgx3 := rd_grown hgx2 hgrow hne2
                have hgl3 := Nat.lt_of_lt_of_le hgl2 hgrow.size
                obtain ⟨v3, rfl, sz3⟩ := After.app u0 v2 hown2 hgrow sz2
                clear hgrow
                refine hK _ v3 ?_
                clear hK K
                try simp only [Act.put, List.setIfInBounds_toArray, List.set_cons_zero, List.set_cons_succ]
                refine h_step 7 (by kernel_rfl) rfl (fun K hK => ?_)
                refine step_append_rd _ rfl (.tmp 50) (.tmp 52) 48 rfl u0.w.heap.size 53 i0 (.agg #[.int .i64 0, .int .i64 0, .int .i64 0, .bool false]) 4 32 und48 hi hz0 hz1 hz2 rfl (by decide) _ _ _ (by rfl) hown3 (some ⟨v1.w.heap.size, 0, none⟩) 1 _ (Tp.c t) (by rfl) rfl hgx3 t.one (by unfold maxLen; omega) (by omega) sz3 ?_
                intro x4 w' hown4 hgrow
                obtain ⟨v4, rfl, sz4⟩ := After.app u0 v3 hown3 hgrow sz3
                clear hgrow
                refine hK _ v4 ?_
                clear hK K
                try simp only [Act.put, List.setIfInBounds_toArray, List.set_cons_zero, List.set_cons_succ]
                refine h_step 11 (by kernel_rfl) rfl (fun K hK => ?_)
                refine step_append_rd _ rfl (.tmp 53) (.tmp 56) 48 rfl u0.w.heap.size 53 i0 (.agg #[.int .i64 0, .int .i64 0, .int .i64 0, .bool false]) 4 32 und48 hi hz0 hz1 hz2 rfl (by decide) _ _ _ (by rfl) hown4 _ 0 _ ((m.drop 0).flatMap Tp.c) (by rfl) (by rw [flat_len Tp.c 4 Tp.c4, List.length_drop, HN.out]; try omega) (.inl (by rw [HM.out]; rfl)) (Tp.ones _) (by unfold maxLen; omega) (by omega) sz4 ?_
                intro x5 w' hown5 hgrow
                obtain ⟨v5, rfl, sz5⟩ := After.app u0 v4 hown4 hgrow sz4
                clear hgrow
                refine hK _ v5 ?_
                clear hK K
                try simp only [Act.put, List.setIfInBounds_toArray, List.set_cons_zero, List.set_cons_succ]
                refine h_take 12 (x := ?_) rfl (by kernel_rfl) (by kernel_rfl) (by kernel_rfl) (fun _ _ _ h => h) (by rfl) (fun v => ?_) ?_
                rotate_left
                · (go_simp; try with_reducible rfl)
                try simp only [Act.put, List.setIfInBounds_toArray, List.set_cons_zero, List.set_cons_succ]
                refine wpAnyH_done (by kernel_rfl) ?_ _
                refine NoPanic.normal ?_
                have HX := hid (insT_new (m := m) (t := t) (fun x hx => HNO.out x (by omega) (by rw [← HN.out]; exact hx)) HB.out)
                obtain ⟨xa, xc, rfl, hxc, hxn, hxR, -⟩ := own_slice hown5
                have hxR : Rd v5.w xa ((m.take 0 ++ t :: m.drop 0).flatMap Tp.c) := by rw [List.flatMap_append, List.flatMap_cons]; simpa using hxR
                have hxl : (m.take 0 ++ t :: m.drop 0).length = 0 + 0 + 1 + 0 := by (first | (simp [HN.out]; done) | (simp [HN.out]; omega))
                obtain ⟨L, hL⟩ : ∃ L, 0 + 0 + 1 + 0 = L := ⟨_, rfl⟩
                have hL2 : L ≤ 81 := by omega
                rw [hL] at hxl hxc hxn
                rw [hL]
                have hsl := hid (show SlIs v5.w (.slice xa L xc) (m.take 0 ++ t :: m.drop 0) from ⟨xa, xc, by rw [hxl], hxR, fun h => by rw [hxl]; exact hxn h, by rw [hxl]; exact hxc⟩)
                have HXR := hid hxR; have HXL := hid hxl
                clear hxR hxn hxc hxl hL hown5
                go_wp2_with fail
                refine (rtcheck_any (m.take 0 ++ t :: m.drop 0) (L) (HXL.out) xa xc _ (by omega) (HXR.out)).mono ?_
                rintro e w5 ⟨rfl, hB0⟩
                by_cases hg2 : goodB (m.take 0 ++ t :: m.drop 0) = true
                · rw [chkT_ok hg2]
                  have hg3 := hid hg2; clear hg2
                  go_wp2_with fail
                  have hg2 := hg3.out
                  exact bodyPost_ret (v := .tuple #[.slice xa L xc, .int .i64 0]) (by simp [results, Try.results44, go_sem]) rfl ⟨_, by rw [insE, HX.out, chkT_ok hg2], by rw [insV, HX.out, if_pos hg2]; exact hsl.out.below hB0, b_then (WV.out v5) hB0⟩
                · rw [chkT_90 hg2]
                  have hg3 := hid hg2; clear hg2
                  go_wp2_with fail
                  have hg2 := hg3.out
                  exact bodyPost_ret (v := .tuple #[.slice none 0 0, .int .i64 90]) (by simp [results, Try.results44, go_sem]) rfl ⟨_, by rw [insE, HX.out, chkT_90 hg2], by rw [insV, HX.out, if_neg hg2]; exact SlIs.nil _, b_then (WV.out v5) hB0⟩
            · go_simp
              obtain ⟨v1, hv1⟩ : ∃ y9 : After V, y9.w = u0.w.alloc (.cells #[.int .i64 t.k, .int .i64 t.n, .int .i64 t.d, .bool t.r] 53) := ⟨u0.on (b_alloc (Below.refl _ _) _), rfl⟩
              rw [← hv1]
              have hgx1 : Rd v1.w (some ⟨u0.w.heap.size, 0, none⟩) (Tp.c t) := by rw [hv1]; exact rd_new _ _ _ rfl
              have hgl1 : u0.w.heap.size < v1.w.heap.size := by rw [hv1]; simp
              have sz1 : u0.w.heap.size ≤ v1.w.heap.size := by rw [hv1]; simp
              clear hv1
              refine hK _ v1 ?_
              clear hK K
              try simp only [Act.put, List.setIfInBounds_toArray, List.set_cons_zero, List.set_cons_succ]
              refine h_step 0 (by kernel_rfl) rfl (fun K hK => ?_)
              go_simp
              obtain ⟨v2, hv1⟩ : ∃ y9 : After V, y9.w = v1.w.alloc (.cells #[] 53) := ⟨v1.on (b_alloc (Below.refl _ _) _), rfl⟩
              rw [← hv1]
              have hown2 : v2.w.ownsRow u0.w.heap.size 53 4 (.slice (some ⟨v1.w.heap.size, 0, none⟩) 0 0) 0 [] := by rw [hv1]; exact World.ownsRow_made v1.w #[] 0 sz1 (by unfold maxLen; omega) (by simp)
              have sz2 : u0.w.heap.size ≤ v2.w.heap.size := by rw [hv1]; simpa using Nat.le_succ_of_le sz1
              have hgx2 : Rd v2.w (some ⟨u0.w.heap.size, 0, none⟩) (Tp.c t) := by rw [hv1]; exact hgx1.alloc _
              have hne2 : ∀ g off, (some ⟨u0.w.heap.size, 0, none⟩ : Option Addr) = some ⟨g, off, none⟩ → (Value.slice (some ⟨v1.w.heap.size, 0, none⟩) 0 0).ownBlock ≠ some g := fun g off h => by have := hgl1; simp only [Option.some.injEq, Addr.mk.injEq] at h; simp only [Value.ownBlock, ne_eq, Option.some.injEq]; omega
              have hgl2 : u0.w.heap.size < v2.w.heap.size := Nat.lt_of_lt_of_le hgl1 (by rw [hv1]; simp)
              clear hv1
              refine hK _ v2 ?_
              clear hK K
              try simp only [Act.put, List.setIfInBounds_toArray, List.set_cons_zero, List.set_cons_succ]
              refine h_step 4 (by kernel_rfl) rfl (fun K hK => ?_)
              refine step_append_rd _ rfl (.tmp 46) (.tmp 49) 48 rfl u0.w.heap.size 53 i0 (.agg #[.int .i64 0, .int .i64 0, .int .i64 0, .bool false]) 4 32 und48 hi hz0 hz1 hz2 rfl (by decide) _ _ _ (by rfl) hown2 _ 0 _ ((m.take 0).flatMap Tp.c) (by rfl) (by rw [flat_len Tp.c 4 Tp.c4, List.length_take, HN.out]; omega) (.inl (by rw [HM.out]; rfl)) (Tp.ones _) (by unfold maxLen; omega) (by omega) sz2 ?_
              intro x3 w' hown3 hgrow
              have hgx3 := rd_grown hgx2 hgrow hne2
              have hgl3 := Nat.lt_of_lt_of_le hgl2 hgrow.size
              obtain ⟨v3, rfl, sz3⟩ := After.app u0 v2 hown2 hgrow sz2
              clear hgrow
              refine hK _ v3 ?_
              clear hK K
              try simp only [Act.put, List.setIfInBounds_toArray, List.set_cons_zero, List.set_cons_succ]
              refine h_step 7 (by kernel_rfl) rfl (fun K hK => ?_)
              refine step_append_rd _ rfl (.tmp 50) (.tmp 52) 48 rfl u0.w.heap.size 53 i0 (.agg #[.int .i64 0, .int .i64 0, .int .i64 0, .bool false]) 4 32 und48 hi hz0 hz1 hz2 rfl (by decide) _ _ _ (by rfl) hown3 (some ⟨u0.w.heap.size, 0, none⟩) 1 _ (Tp.c t) (by rfl) rfl hgx3 t.one (by unfold maxLen; omega) (by omega) sz3 ?_
              intro x4 w' hown4 hgrow
              obtain ⟨v4, rfl, sz4⟩ := After.app u0 v3 hown3 hgrow sz3
              clear hgrow
              refine hK _ v4 ?_
              clear hK K
              try simp only [Act.put, List.setIfInBounds_toArray, List.set_cons_zero, List.set_cons_succ]
              refine h_step 11 (by kernel_rfl) rfl (fun K hK => ?_)
              refine step_append_rd _ rfl (.tmp 53) (.tmp 56) 48 rfl u0.w.heap.size 53 i0 (.agg #[.int .i64 0, .int .i64 0, .int .i64 0, .bool false]) 4 32 und48 hi hz0 hz1 hz2 rfl (by decide) _ _ _ (by rfl) hown4 _ 0 _ ((m.drop 0).flatMap Tp.c) (by rfl) (by rw [flat_len Tp.c 4 Tp.c4, List.length_drop, HN.out]; try omega) (.inl (by rw [HM.out]; rfl)) (Tp.ones _) (by unfold maxLen; omega) (by omega) sz4 ?_
              intro x5 w' hown5 hgrow
              obtain ⟨v5, rfl, sz5⟩ := After.app u0 v4 hown4 hgrow sz4
              clear hgrow
              refine hK _ v5 ?_
              clear hK K
              try simp only [Act.put, List.setIfInBounds_toArray, List.set_cons_zero, List.set_cons_succ]
              refine h_take 12 (x := ?_) rfl (by kernel_rfl) (by kernel_rfl) (by kernel_rfl) (fun _ _ _ h => h) (by rfl) (fun v => ?_) ?_
              rotate_left
              · (go_simp; try with_reducible rfl)
              try simp only [Act.put, List.setIfInBounds_toArray, List.set_cons_zero, List.set_cons_succ]
              refine wpAnyH_done (by kernel_rfl) ?_ _
              refine NoPanic.normal ?_
              have HX := hid (insT_new (m := m) (t := t) (fun x hx => HNO.out x (by omega) (by rw [← HN.out]; exact hx)) HB.out)
              obtain ⟨xa, xc, rfl, hxc, hxn, hxR, -⟩ := own_slice hown5
              have hxR : Rd v5.w xa ((m.take 0 ++ t :: m.drop 0).flatMap Tp.c) := by rw [List.flatMap_append, List.flatMap_cons]; simpa using hxR
              have hxl : (m.take 0 ++ t :: m.drop 0).length = 0 + 0 + 1 + 0 := by (first | (simp [HN.out]; done) | (simp [HN.out]; omega))
              obtain ⟨L, hL⟩ : ∃ L, 0 + 0 + 1 + 0 = L := ⟨_, rfl⟩
              have hL2 : L ≤ 81 := by omega
              rw [hL] at hxl hxc hxn
              rw [hL]
              have hsl := hid (show SlIs v5.w (.slice xa L xc) (m.take 0 ++ t :: m.drop 0) from ⟨xa, xc, by rw [hxl], hxR, fun h => by rw [hxl]; exact hxn h, by rw [hxl]; exact hxc⟩)
              have HXR := hid hxR; have HXL := hid hxl
              clear hxR hxn hxc hxl hL hown5
              go_wp2_with fail
              refine (rtcheck_any (m.take 0 ++ t :: m.drop 0) (L) (HXL.out) xa xc _ (by omega) (HXR.out)).mono ?_
              rintro e w5 ⟨rfl, hB0⟩
              by_cases hg2 : goodB (m.take 0 ++ t :: m.drop 0) = true
              · rw [chkT_ok hg2]
                have hg3 := hid hg2; clear hg2
                go_wp2_with fail
                have hg2 := hg3.out
                exact bodyPost_ret (v := .tuple #[.slice xa L xc, .int .i64 0]) (by simp [results, Try.results44, go_sem]) rfl ⟨_, by rw [insE, HX.out, chkT_ok hg2], by rw [insV, HX.out, if_pos hg2]; exact hsl.out.below hB0, b_then (WV.out v5) hB0⟩
              · rw [chkT_90 hg2]
                have hg3 := hid hg2; clear hg2
                go_wp2_with fail
                have hg2 := hg3.out
                exact bodyPost_ret (v := .tuple #[.slice none 0 0, .int .i64 90]) (by simp [results, Try.results44, go_sem]) rfl ⟨_, by rw [insE, HX.out, chkT_90 hg2], by rw [insV, HX.out, if_neg hg2]; exact SlIs.nil _, b_then (WV.out v5) hB0⟩
          | some ad =>
            by_cases hc0 : c = 0
            · subst hc0
              refine whole_region 13 rfl (by kernel_rfl) ?_
              intro u0
              refine h_take 1 (x := ?_) rfl (by kernel_rfl) (by kernel_rfl) (by kernel_rfl) (fun _ _ _ h => h) (by rfl) (fun v => ?_) ?_
              rotate_left
              · (go_simp; try with_reducible rfl)
              try simp only [Act.put, List.setIfInBounds_toArray, List.set_cons_zero, List.set_cons_succ]
              refine h_take 2 (x := ?_) rfl (by kernel_rfl) (by kernel_rfl) (by kernel_rfl) (fun _ _ _ h => h) (by rfl) (fun v => ?_) ?_
              rotate_left
              · (go_simp; try with_reducible rfl)
              try simp only [Act.put, List.setIfInBounds_toArray, List.set_cons_zero, List.set_cons_succ]
              refine h_take 3 (x := ?_) rfl (by kernel_rfl) (by kernel_rfl) (by kernel_rfl) (fun _ _ _ h => h) (by rfl) (fun v => ?_) ?_
              rotate_left
              · (go_simp; try with_reducible rfl)
              try simp only [Act.put, List.setIfInBounds_toArray, List.set_cons_zero, List.set_cons_succ]
              refine h_take 5 (x := ?_) rfl (by kernel_rfl) (by kernel_rfl) (by kernel_rfl) (fun _ _ _ h => h) (by rfl) (fun v => ?_) ?_
              rotate_left
              · (go_simp; try with_reducible rfl)
              try simp only [Act.put, List.setIfInBounds_toArray, List.set_cons_zero, List.set_cons_succ]
              refine h_take 8 (x := ?_) rfl (by kernel_rfl) (by kernel_rfl) (by kernel_rfl) (fun _ _ _ h => h) (by rfl) (fun v => ?_) ?_
              rotate_left
              · (go_simp; try with_reducible rfl)
              try simp only [Act.put, List.setIfInBounds_toArray, List.set_cons_zero, List.set_cons_succ]
              refine h_take 9 (x := ?_) rfl (by kernel_rfl) (by kernel_rfl) (by kernel_rfl) (fun _ _ _ h => h) (by rfl) (fun v => ?_) ?_
              rotate_left
              · (go_simp; try with_reducible rfl)
              try simp only [Act.put, List.setIfInBounds_toArray, List.set_cons_zero, List.set_cons_succ]
              refine h_take 10 (x := ?_) rfl (by kernel_rfl) (by kernel_rfl) (by kernel_rfl) (fun _ _ _ h => h) (by rfl) (fun v => ?_) ?_
              rotate_left
              · (go_simp; try with_reducible rfl)
              try simp only [Act.put, List.setIfInBounds_toArray, List.set_cons_zero, List.set_cons_succ]
              refine h_two 0 6 (by kernel_rfl) rfl rfl (fun K hK => ?_) (fun K hK => ?_)
              · go_simp
                obtain ⟨v1, hv1⟩ : ∃ y9 : After V, y9.w = u0.w.alloc (.cells #[] 53) := ⟨u0.on (b_alloc (Below.refl _ _) _), rfl⟩
                rw [← hv1]
                have hown1 : v1.w.ownsRow u0.w.heap.size 53 4 (.slice (some ⟨u0.w.heap.size, 0, none⟩) 0 0) 0 [] := by rw [hv1]; exact World.ownsRow_made u0.w #[] 0 (Nat.le_refl _) (by unfold maxLen; omega) (by simp)
                have sz1 : u0.w.heap.size ≤ v1.w.heap.size := by rw [hv1]; simp
                clear hv1
                refine hK _ v1 ?_
                clear hK K
                try simp only [Act.put, List.setIfInBounds_toArray, List.set_cons_zero, List.set_cons_succ]
                refine h_two 4 6 (by kernel_rfl) rfl rfl (fun K hK => ?_) (fun K hK => ?_)
                · refine step_append_rd _ rfl (.tmp 46) (.tmp 49) 48 rfl u0.w.heap.size 53 i0 (.agg #[.int .i64 0, .int .i64 0, .int .i64 0, .bool false]) 4 32 und48 hi hz0 hz1 hz2 rfl (by decide) _ _ _ (by rfl) hown1 _ 0 _ ((m.take 0).flatMap Tp.c) (by rfl) (by rw [flat_len Tp.c 4 Tp.c4, List.length_take, HN.out]; omega) (.inl (by rw [HM.out]; rfl)) (Tp.ones _) (by unfold maxLen; omega) (by omega) sz1 ?_
                  intro x2 w' hown2 hgrow
                  obtain ⟨v2, rfl, sz2⟩ := After.app u0 v1 hown1 hgrow sz1
                  clear hgrow
                  refine hK _ v2 ?_
                  clear hK K
                  try simp only [Act.put, List.setIfInBounds_toArray, List.set_cons_zero, List.set_cons_succ]
                  refine h_step 6 (by kernel_rfl) rfl (fun K hK => ?_)
                  go_simp
                  obtain ⟨v3, hv1⟩ : ∃ y9 : After V, y9.w = v2.w.alloc (.cells #[.int .i64 t.k, .int .i64 t.n, .int .i64 t.d, .bool t.r] 53) := ⟨v2.on (b_alloc (Below.refl _ _) _), rfl⟩
                  rw [← hv1]
                  have hgx3 : Rd v3.w (some ⟨v2.w.heap.size, 0, none⟩) (Tp.c t) := by rw [hv1]; exact rd_new _ _ _ rfl
                  have hgl3 : v2.w.heap.size < v3.w.heap.size := by rw [hv1]; simp
                  have sz3 : u0.w.heap.size ≤ v3.w.heap.size := by rw [hv1]; simpa using Nat.le_succ_of_le sz2
                  have hown3 := own_eq (own_after hown2 (b_alloc (Below.refl _ _) _)) hv1
                  have hne3 := own_far hown2 (v2.w.heap.size) (Nat.le_refl _)
                  clear hv1
                  refine hK _ v3 ?_
                  clear hK K
                  try simp only [Act.put, List.setIfInBounds_toArray, List.set_cons_zero, List.set_cons_succ]
                  refine h_step 7 (by kernel_rfl) rfl (fun K hK => ?_)
                  refine step_append_rd _ rfl (.tmp 50) (.tmp 52) 48 rfl u0.w.heap.size 53 i0 (.agg #[.int .i64 0, .int .i64 0, .int .i64 0, .bool false]) 4 32 und48 hi hz0 hz1 hz2 rfl (by decide) _ _ _ (by rfl) hown3 (some ⟨v2.w.heap.size, 0, none⟩) 1 _ (Tp.c t) (by rfl) rfl hgx3 t.one (by unfold maxLen; omega) (by omega) sz3 ?_
                  intro x4 w' hown4 hgrow
                  obtain ⟨v4, rfl, sz4⟩ := After.app u0 v3 hown3 hgrow sz3
                  clear hgrow
                  refine hK _ v4 ?_
                  clear hK K
                  try simp only [Act.put, List.setIfInBounds_toArray, List.set_cons_zero, List.set_cons_succ]
                  refine h_step 11 (by kernel_rfl) rfl (fun K hK => ?_)
                  refine step_append_rd _ rfl (.tmp 53) (.tmp 56) 48 rfl u0.w.heap.size 53 i0 (.agg #[.int .i64 0, .int .i64 0, .int .i64 0, .bool false]) 4 32 und48 hi hz0 hz1 hz2 rfl (by decide) _ _ _ (by rfl) hown4 _ 0 _ ((m.drop 0).flatMap Tp.c) (by rfl) (by rw [flat_len Tp.c 4 Tp.c4, List.length_drop, HN.out]; try omega) (.inl (by rw [HM.out]; rfl)) (Tp.ones _) (by unfold maxLen; omega) (by omega) sz4 ?_
                  intro x5 w' hown5 hgrow
                  obtain ⟨v5, rfl, sz5⟩ := After.app u0 v4 hown4 hgrow sz4
                  clear hgrow
                  refine hK _ v5 ?_
                  clear hK K
                  try simp only [Act.put, List.setIfInBounds_toArray, List.set_cons_zero, List.set_cons_succ]
                  refine h_take 12 (x := ?_) rfl (by kernel_rfl) (by kernel_rfl) (by kernel_rfl) (fun _ _ _ h => h) (by rfl) (fun v => ?_) ?_
                  rotate_left
                  · (go_simp; try with_reducible rfl)
                  try simp only [Act.put, List.setIfInBounds_toArray, List.set_cons_zero, List.set_cons_succ]
                  refine wpAnyH_done (by kernel_rfl) ?_ _
                  refine NoPanic.normal ?_
                  have HX := hid (insT_new (m := m) (t := t) (fun x hx => HNO.out x (by omega) (by rw [← HN.out]; exact hx)) HB.out)
                  obtain ⟨xa, xc, rfl, hxc, hxn, hxR, -⟩ := own_slice hown5
                  have hxR : Rd v5.w xa ((m.take 0 ++ t :: m.drop 0).flatMap Tp.c) := by rw [List.flatMap_append, List.flatMap_cons]; simpa using hxR
                  have hxl : (m.take 0 ++ t :: m.drop 0).length = 0 + 0 + 1 + 0 := by (first | (simp [HN.out]; done) | (simp [HN.out]; omega))
                  obtain ⟨L, hL⟩ : ∃ L, 0 + 0 + 1 + 0 = L := ⟨_, rfl⟩
                  have hL2 : L ≤ 81 := by omega
                  rw [hL] at hxl hxc hxn
                  rw [hL]
                  have hsl := hid (show SlIs v5.w (.slice xa L xc) (m.take 0 ++ t :: m.drop 0) from ⟨xa, xc, by rw [hxl], hxR, fun h => by rw [hxl]; exact hxn h, by rw [hxl]; exact hxc⟩)
                  have HXR := hid hxR; have HXL := hid hxl
                  clear hxR hxn hxc hxl hL hown5
                  go_wp2_with fail
                  refine (rtcheck_any (m.take 0 ++ t :: m.drop 0) (L) (HXL.out) xa xc _ (by omega) (HXR.out)).mono ?_
                  rintro e w5 ⟨rfl, hB0⟩
                  by_cases hg2 : goodB (m.take 0 ++ t :: m.drop 0) = true
                  · rw [chkT_ok hg2]
                    have hg3 := hid hg2; clear hg2
                    go_wp2_with fail
                    have hg2 := hg3.out
                    exact bodyPost_ret (v := .tuple #[.slice xa L xc, .int .i64 0]) (by simp [results, Try.results44, go_sem]) rfl ⟨_, by rw [insE, HX.out, chkT_ok hg2], by rw [insV, HX.out, if_pos hg2]; exact hsl.out.below hB0, b_then (WV.out v5) hB0⟩
                  · rw [chkT_90 hg2]
                    have hg3 := hid hg2; clear hg2
                    go_wp2_with fail
                    have hg2 := hg3.out
                    exact bodyPost_ret (v := .tuple #[.slice none 0 0, .int .i64 90]) (by simp [results, Try.results44, go_sem]) rfl ⟨_, by rw [insE, HX.out, chkT_90 hg2], by rw [insV, HX.out, if_neg hg2]; exact SlIs.nil _, b_then (WV.out v5) hB0⟩
                · go_simp
                  obtain ⟨v2, hv1⟩ : ∃ y9 : After V, y9.w = v1.w.alloc (.cells #[.int .i64 t.k, .int .i64 t.n, .int .i64 t.d, .bool t.r] 53) := ⟨v1.on (b_alloc (Below.refl _ _) _), rfl⟩
                  rw [← hv1]
                  have hgx2 : Rd v2.w (some ⟨v1.w.heap.size, 0, none⟩) (Tp.c t) := by rw [hv1]; exact rd_new _ _ _ rfl
                  have hgl2 : v1.w.heap.size < v2.w.heap.size := by rw [hv1]; simp
                  have sz2 : u0.w.heap.size ≤ v2.w.heap.size := by rw [hv1]; simpa using Nat.le_succ_of_le sz1
                  have hown2 := own_eq (own_after hown1 (b_alloc (Below.refl _ _) _)) hv1
                  have hne2 := own_far hown1 (v1.w.heap.size) (Nat.le_refl _)
                  clear hv1
                  refine hK _ v2 ?_
                  clear hK K
                  try simp only [Act.put, List.setIfInBounds_toArray, List.set_cons_zero, List.set_cons_succ]
                  refine h_step 4 (by kernel_rfl) rfl (fun K hK => ?_)
                  refine step_append_rd _ rfl (.tmp 46) (.tmp 49) 48 rfl u0.w.heap.size 53 i0 (.agg #[.int .i64 0, .int .i64 0, .int .i64 0, .bool false]) 4 32 und48 hi hz0 hz1 hz2 rfl (by decide) _ _ _ (by rfl) hown2 _ 0 _ ((m.take 0).flatMap Tp.c) (by rfl) (by rw [flat_len Tp.c 4 Tp.c4, List.length_take, HN.out]; omega) (.inl (by rw [HM.out]; rfl)) (Tp.ones _) (by unfold maxLen; omega) (by omega) sz2 ?_
                  intro x3 w' hown3 hgrow
                  have hgx3 := rd_grown hgx2 hgrow hne2
                  have hgl3 := Nat.lt_of_lt_of_le hgl2 hgrow.size
                  obtain ⟨v3, rfl, sz3⟩ := After.app u0 v2 hown2 hgrow sz2
                  clear hgrow
                  refine hK _ v3 ?_
                  clear hK K
                  try simp only [Act.put, List.setIfInBounds_toArray, List.set_cons_zero, List.set_cons_succ]
                  refine h_step 7 (by kernel_rfl) rfl (fun K hK => ?_)
                  refine step_append_rd _ rfl (.tmp 50) (.tmp 52) 48 rfl u0.w.heap.size 53 i0 (.agg #[.int .i64 0, .int .i64 0, .int .i64 0, .bool false]) 4 32 und48 hi hz0 hz1 hz2 rfl (by decide) _ _ _ (by rfl) hown3 (some ⟨v1.w.heap.size, 0, none⟩) 1 _ (Tp.c t) (by rfl) rfl hgx3 t.one (by unfold maxLen; omega) (by omega) sz3 ?_
                  intro x4 w' hown4 hgrow
                  obtain ⟨v4, rfl, sz4⟩ := After.app u0 v3 hown3 hgrow sz3
                  clear hgrow
                  refine hK _ v4 ?_
                  clear hK K
                  try simp only [Act.put, List.setIfInBounds_toArray, List.set_cons_zero, List.set_cons_succ]
                  refine h_step 11 (by kernel_rfl) rfl (fun K hK => ?_)
                  refine step_append_rd _ rfl (.tmp 53) (.tmp 56) 48 rfl u0.w.heap.size 53 i0 (.agg #[.int .i64 0, .int .i64 0, .int .i64 0, .bool false]) 4 32 und48 hi hz0 hz1 hz2 rfl (by decide) _ _ _ (by rfl) hown4 _ 0 _ ((m.drop 0).flatMap Tp.c) (by rfl) (by rw [flat_len Tp.c 4 Tp.c4, List.length_drop, HN.out]; try omega) (.inl (by rw [HM.out]; rfl)) (Tp.ones _) (by unfold maxLen; omega) (by omega) sz4 ?_
                  intro x5 w' hown5 hgrow
                  obtain ⟨v5, rfl, sz5⟩ := After.app u0 v4 hown4 hgrow sz4
                  clear hgrow
                  refine hK _ v5 ?_
                  clear hK K
                  try simp only [Act.put, List.setIfInBounds_toArray, List.set_cons_zero, List.set_cons_succ]
                  refine h_take 12 (x := ?_) rfl (by kernel_rfl) (by kernel_rfl) (by kernel_rfl) (fun _ _ _ h => h) (by rfl) (fun v => ?_) ?_
                  rotate_left
                  · (go_simp; try with_reducible rfl)
                  try simp only [Act.put, List.setIfInBounds_toArray, List.set_cons_zero, List.set_cons_succ]
                  refine wpAnyH_done (by kernel_rfl) ?_ _
                  refine NoPanic.normal ?_
                  have HX := hid (insT_new (m := m) (t := t) (fun x hx => HNO.out x (by omega) (by rw [← HN.out]; exact hx)) HB.out)
                  obtain ⟨xa, xc, rfl, hxc, hxn, hxR, -⟩ := own_slice hown5
                  have hxR : Rd v5.w xa ((m.take 0 ++ t :: m.drop 0).flatMap Tp.c) := by rw [List.flatMap_append, List.flatMap_cons]; simpa using hxR
                  have hxl : (m.take 0 ++ t :: m.drop 0).length = 0 + 0 + 1 + 0 := by (first | (simp [HN.out]; done) | (simp [HN.out]; omega))
                  obtain ⟨L, hL⟩ : ∃ L, 0 + 0 + 1 + 0 = L := ⟨_, rfl⟩
                  have hL2 : L ≤ 81 := by omega
                  rw [hL] at hxl hxc hxn
                  rw [hL]
                  have hsl := hid (show SlIs v5.w (.slice xa L xc) (m.take 0 ++ t :: m.drop 0) from ⟨xa, xc, by rw [hxl], hxR, fun h => by rw [hxl]; exact hxn h, by rw [hxl]; exact hxc⟩)
                  have HXR := hid hxR; have HXL := hid hxl
                  clear hxR hxn hxc hxl hL hown5
                  go_wp2_with fail
                  refine (rtcheck_any (m.take 0 ++ t :: m.drop 0) (L) (HXL.out) xa xc _ (by omega) (HXR.out)).mono ?_
                  rintro e w5 ⟨rfl, hB0⟩
                  by_cases hg2 : goodB (m.take 0 ++ t :: m.drop 0) = true
                  · rw [chkT_ok hg2]
                    have hg3 := hid hg2; clear hg2
                    go_wp2_with fail
                    have hg2 := hg3.out
                    exact bodyPost_ret (v := .tuple #[.slice xa L xc, .int .i64 0]) (by simp [results, Try.results44, go_sem]) rfl ⟨_, by rw [insE, HX.out, chkT_ok hg2], by rw [insV, HX.out, if_pos hg2]; exact hsl.out.below hB0, b_then (WV.out v5) hB0⟩
                  · rw [chkT_90 hg2]
                    have hg3 := hid hg2; clear hg2
                    go_wp2_with fail
                    have hg2 := hg3.out
                    exact bodyPost_ret (v := .tuple #[.slice none 0 0, .int .i64 90]) (by simp [results, Try.results44, go_sem]) rfl ⟨_, by rw [insE, HX.out, chkT_90 hg2], by rw [insV, HX.out, if_neg hg2]; exact SlIs.nil _, b_then (WV.out v5) hB0⟩
              · go_simp
                obtain ⟨v1, hv1⟩ : ∃ y9 : After V, y9.w = u0.w.alloc (.cells #[.int .i64 t.k, .int .i64 t.n, .int .i64 t.d, .bool t.r] 53) := ⟨u0.on (b_alloc (Below.refl _ _) _), rfl⟩
                rw [← hv1]
                have hgx1 : Rd v1.w (some ⟨u0.w.heap.size, 0, none⟩) (Tp.c t) := by rw [hv1]; exact rd_new _ _ _ rfl
                have hgl1 : u0.w.heap.size < v1.w.heap.size := by rw [hv1]; simp
                have sz1 : u0.w.heap.size ≤ v1.w.heap.size := by rw [hv1]; simp
                clear hv1
                refine hK _ v1 ?_
                clear hK K
                try simp only [Act.put, List.setIfInBounds_toArray, List.set_cons_zero, List.set_cons_succ]
                refine h_step 0 (by kernel_rfl) rfl (fun K hK => ?_)
                go_simp
                obtain ⟨v2, hv1⟩ : ∃ y9 : After V, y9.w = v1.w.alloc (.cells #[] 53) := ⟨v1.on (b_alloc (Below.refl _ _) _), rfl⟩
                rw [← hv1]
                have hown2 : v2.w.ownsRow u0.w.heap.size 53 4 (.slice (some ⟨v1.w.heap.size, 0, none⟩) 0 0) 0 [] := by rw [hv1]; exact World.ownsRow_made v1.w #[] 0 sz1 (by unfold maxLen; omega) (by simp)
                have sz2 : u0.w.heap.size ≤ v2.w.heap.size := by rw [hv1]; simpa using Nat.le_succ_of_le sz1
                have hgx2 : Rd v2.w (some ⟨u0.w.heap.size, 0, none⟩) (Tp.c t) := by rw [hv1]; exact hgx1.alloc _
                have hne2 : ∀ g off, (some ⟨u0.w.heap.size, 0, none⟩ : Option Addr) = some ⟨g, off, none⟩ → (Value.slice (some ⟨v1.w.heap.size, 0, none⟩) 0 0).ownBlock ≠ some g := fun g off h => by have := hgl1; simp only [Option.some.injEq, Addr.mk.injEq] at h; simp only [Value.ownBlock, ne_eq, Option.some.injEq]; omega
                have hgl2 : u0.w.heap.size < v2.w.heap.size := Nat.lt_of_lt_of_le hgl1 (by rw [hv1]; simp)
                clear hv1
                refine hK _ v2 ?_
                clear hK K
                try simp only [Act.put, List.setIfInBounds_toArray, List.set_cons_zero, List.set_cons_succ]
                refine h_step 4 (by kernel_rfl) rfl (fun K hK => ?_)
                refine step_append_rd _ rfl (.tmp 46) (.tmp 49) 48 rfl u0.w.heap.size 53 i0 (.agg #[.int .i64 0, .int .i64 0, .int .i64 0, .bool false]) 4 32 und48 hi hz0 hz1 hz2 rfl (by decide) _ _ _ (by rfl) hown2 _ 0 _ ((m.take 0).flatMap Tp.c) (by rfl) (by rw [flat_len Tp.c 4 Tp.c4, List.length_take, HN.out]; omega) (.inl (by rw [HM.out]; rfl)) (Tp.ones _) (by unfold maxLen; omega) (by omega) sz2 ?_
                intro x3 w' hown3 hgrow
                have hgx3 := rd_grown hgx2 hgrow hne2
                have hgl3 := Nat.lt_of_lt_of_le hgl2 hgrow.size
                obtain ⟨v3, rfl, sz3⟩ := After.app u0 v2 hown2 hgrow sz2
                clear hgrow
                refine hK _ v3 ?_
                clear hK K
                try simp only [Act.put, List.setIfInBounds_toArray, List.set_cons_zero, List.set_cons_succ]
                refine h_step 7 (by kernel_rfl) rfl (fun K hK => ?_)
                refine step_append_rd _ rfl (.tmp 50) (.tmp 52) 48 rfl u0.w.heap.size 53 i0 (.agg #[.int .i64 0, .int .i64 0, .int .i64 0, .bool false]) 4 32 und48 hi hz0 hz1 hz2 rfl (by decide) _ _ _ (by rfl) hown3 (some ⟨u0.w.heap.size, 0, none⟩) 1 _ (Tp.c t) (by rfl) rfl hgx3 t.one (by unfold maxLen; omega) (by omega) sz3 ?_
                intro x4 w' hown4 hgrow
                obtain ⟨v4, rfl, sz4⟩ := After.app u0 v3 hown3 hgrow sz3
                clear hgrow
                refine hK _ v4 ?_
                clear hK K
                try simp only [Act.put, List.setIfInBounds_toArray, List.set_cons_zero, List.set_cons_succ]
                refine h_step 11 (by kernel_rfl) rfl (fun K hK => ?_)
                refine step_append_rd _ rfl (.tmp 53) (.tmp 56) 48 rfl u0.w.heap.size 53 i0 (.agg #[.int .i64 0, .int .i64 0, .int .i64 0, .bool false]) 4 32 und48 hi hz0 hz1 hz2 rfl (by decide) _ _ _ (by rfl) hown4 _ 0 _ ((m.drop 0).flatMap Tp.c) (by rfl) (by rw [flat_len Tp.c 4 Tp.c4, List.length_drop, HN.out]; try omega) (.inl (by rw [HM.out]; rfl)) (Tp.ones _) (by unfold maxLen; omega) (by omega) sz4 ?_
                intro x5 w' hown5 hgrow
                obtain ⟨v5, rfl, sz5⟩ := After.app u0 v4 hown4 hgrow sz4
                clear hgrow
                refine hK _ v5 ?_
                clear hK K
                try simp only [Act.put, List.setIfInBounds_toArray, List.set_cons_zero, List.set_cons_succ]
                refine h_take 12 (x := ?_) rfl (by kernel_rfl) (by kernel_rfl) (by kernel_rfl) (fun _ _ _ h => h) (by rfl) (fun v => ?_) ?_
                rotate_left
                · (go_simp; try with_reducible rfl)
                try simp only [Act.put, List.setIfInBounds_toArray, List.set_cons_zero, List.set_cons_succ]
                refine wpAnyH_done (by kernel_rfl) ?_ _
                refine NoPanic.normal ?_
                have HX := hid (insT_new (m := m) (t := t) (fun x hx => HNO.out x (by omega) (by rw [← HN.out]; exact hx)) HB.out)
                obtain ⟨xa, xc, rfl, hxc, hxn, hxR, -⟩ := own_slice hown5
                have hxR : Rd v5.w xa ((m.take 0 ++ t :: m.drop 0).flatMap Tp.c) := by rw [List.flatMap_append, List.flatMap_cons]; simpa using hxR
                have hxl : (m.take 0 ++ t :: m.drop 0).length = 0 + 0 + 1 + 0 := by (first | (simp [HN.out]; done) | (simp [HN.out]; omega))
                obtain ⟨L, hL⟩ : ∃ L, 0 + 0 + 1 + 0 = L := ⟨_, rfl⟩
                have hL2 : L ≤ 81 := by omega
                rw [hL] at hxl hxc hxn
                rw [hL]
                have hsl := hid (show SlIs v5.w (.slice xa L xc) (m.take 0 ++ t :: m.drop 0) from ⟨xa, xc, by rw [hxl], hxR, fun h => by rw [hxl]; exact hxn h, by rw [hxl]; exact hxc⟩)
                have HXR := hid hxR; have HXL := hid hxl
                clear hxR hxn hxc hxl hL hown5
                go_wp2_with fail
                refine (rtcheck_any (m.take 0 ++ t :: m.drop 0) (L) (HXL.out) xa xc _ (by omega) (HXR.out)).mono ?_
                rintro e w5 ⟨rfl, hB0⟩
                by_cases hg2 : goodB (m.take 0 ++ t :: m.drop 0) = true
                · rw [chkT_ok hg2]
                  have hg3 := hid hg2; clear hg2
                  go_wp2_with fail
                  have hg2 := hg3.out
                  exact bodyPost_ret (v := .tuple #[.slice xa L xc, .int .i64 0]) (by simp [results, Try.results44, go_sem]) rfl ⟨_, by rw [insE, HX.out, chkT_ok hg2], by rw [insV, HX.out, if_pos hg2]; exact hsl.out.below hB0, b_then (WV.out v5) hB0⟩
                · rw [chkT_90 hg2]
                  have hg3 := hid hg2; clear hg2
                  go_wp2_with fail
                  have hg2 := hg3.out
                  exact bodyPost_ret (v := .tuple #[.slice none 0 0, .int .i64 90]) (by simp [results, Try.results44, go_sem]) rfl ⟨_, by rw [insE, HX.out, chkT_90 hg2], by rw [insV, HX.out, if_neg hg2]; exact SlIs.nil _, b_then (WV.out v5) hB0⟩
            · skip
              refine whole_region 13 rfl (by kernel_rfl) ?_
              intro u0
              refine h_take 1 (x := ?_) rfl (by kernel_rfl) (by kernel_rfl) (by kernel_rfl) (fun _ _ _ h => h) (by rfl) (fun v => ?_) ?_
              rotate_left
              · (go_simp; try with_reducible rfl)
              try simp only [Act.put, List.setIfInBounds_toArray, List.set_cons_zero, List.set_cons_succ]
              refine h_take 2 (x := ?_) rfl (by kernel_rfl) (by kernel_rfl) (by kernel_rfl) (fun _ _ _ h => h) (by rfl) (fun v => ?_) ?_
              rotate_left
              · (go_simp; try with_reducible rfl)
              try simp only [Act.put, List.setIfInBounds_toArray, List.set_cons_zero, List.set_cons_succ]
              refine h_take 3 (x := ?_) rfl (by kernel_rfl) (by kernel_rfl) (by kernel_rfl) (fun _ _ _ h => h) (by rfl) (fun v => ?_) ?_
              rotate_left
              · (go_simp; try with_reducible rfl)
              try simp only [Act.put, List.setIfInBounds_toArray, List.set_cons_zero, List.set_cons_succ]
              refine h_take 5 (x := ?_) rfl (by kernel_rfl) (by kernel_rfl) (by kernel_rfl) (fun _ _ _ h => h) (by rfl) (fun v => ?_) ?_
              rotate_left
              · (go_simp; try with_reducible rfl)
              try simp only [Act.put, List.setIfInBounds_toArray, List.set_cons_zero, List.set_cons_succ]
              refine h_take 8 (x := ?_) rfl (by kernel_rfl) (by kernel_rfl) (by kernel_rfl) (fun _ _ _ h => h) (by rfl) (fun v => ?_) ?_
              rotate_left
              · (go_simp; try with_reducible rfl)
              try simp only [Act.put, List.setIfInBounds_toArray, List.set_cons_zero, List.set_cons_succ]
              refine h_take 9 (x := ?_) rfl (by kernel_rfl) (by kernel_rfl) (by kernel_rfl) (fun _ _ _ h => h) (by rfl) (fun v => ?_) ?_
              rotate_left
              · (go_simp; try with_reducible rfl)
              try simp only [Act.put, List.setIfInBounds_toArray, List.set_cons_zero, List.set_cons_succ]
              refine h_take 10 (x := ?_) rfl (by kernel_rfl) (by kernel_rfl) (by kernel_rfl) (fun _ _ _ h => h) (by rfl) (fun v => ?_) ?_
              rotate_left
              · (go_simp; try with_reducible rfl)
              try simp only [Act.put, List.setIfInBounds_toArray, List.set_cons_zero, List.set_cons_succ]
              refine h_two 0 6 (by kernel_rfl) rfl rfl (fun K hK => ?_) (fun K hK => ?_)
              · go_simp
                obtain ⟨v1, hv1⟩ : ∃ y9 : After V, y9.w = u0.w.alloc (.cells #[] 53) := ⟨u0.on (b_alloc (Below.refl _ _) _), rfl⟩
                rw [← hv1]
                have hown1 : v1.w.ownsRow u0.w.heap.size 53 4 (.slice (some ⟨u0.w.heap.size, 0, none⟩) 0 0) 0 [] := by rw [hv1]; exact World.ownsRow_made u0.w #[] 0 (Nat.le_refl _) (by unfold maxLen; omega) (by simp)
                have sz1 : u0.w.heap.size ≤ v1.w.heap.size := by rw [hv1]; simp
                clear hv1
                refine hK _ v1 ?_
                clear hK K
                try simp only [Act.put, List.setIfInBounds_toArray, List.set_cons_zero, List.set_cons_succ]
                refine h_two 4 6 (by kernel_rfl) rfl rfl (fun K hK => ?_) (fun K hK => ?_)
                · refine step_append_rd _ rfl (.tmp 46) (.tmp 49) 48 rfl u0.w.heap.size 53 i0 (.agg #[.int .i64 0, .int .i64 0, .int .i64 0, .bool false]) 4 32 und48 hi hz0 hz1 hz2 rfl (by decide) _ _ _ (by rfl) hown1 _ 0 _ ((m.take 0).flatMap Tp.c) (by rfl) (by rw [flat_len Tp.c 4 Tp.c4, List.length_take, HN.out]; omega) (.inl (by rw [HM.out]; rfl)) (Tp.ones _) (by unfold maxLen; omega) (by omega) sz1 ?_
                  intro x2 w' hown2 hgrow
                  obtain ⟨v2, rfl, sz2⟩ := After.app u0 v1 hown1 hgrow sz1
                  clear hgrow
                  refine hK _ v2 ?_
                  clear hK K
                  try simp only [Act.put, List.setIfInBounds_toArray, List.set_cons_zero, List.set_cons_succ]
                  refine h_step 6 (by kernel_rfl) rfl (fun K hK => ?_)
                  go_simp
                  obtain ⟨v3, hv1⟩ : ∃ y9 : After V, y9.w = v2.w.alloc (.cells #[.int .i64 t.k, .int .i64 t.n, .int .i64 t.d, .bool t.r] 53) := ⟨v2.on (b_alloc (Below.refl _ _) _), rfl⟩
                  rw [← hv1]
                  have hgx3 : Rd v3.w (some ⟨v2.w.heap.size, 0, none⟩) (Tp.c t) := by rw [hv1]; exact rd_new _ _ _ rfl
                  have hgl3 : v2.w.heap.size < v3.w.heap.size := by rw [hv1]; simp
                  have sz3 : u0.w.heap.size ≤ v3.w.heap.size := by rw [hv1]; simpa using Nat.le_succ_of_le sz2
                  have hown3 := own_eq (own_after hown2 (b_alloc (Below.refl _ _) _)) hv1
                  have hne3 := own_far hown2 (v2.w.heap.size) (Nat.le_refl _)
                  clear hv1
                  refine hK _ v3 ?_
                  clear hK K
                  try simp only [Act.put, List.setIfInBounds_toArray, List.set_cons_zero, List.set_cons_succ]
                  refine h_step 7 (by kernel_rfl) rfl (fun K hK => ?_)
                  refine step_append_rd _ rfl (.tmp 50) (.tmp 52) 48 rfl u0.w.heap.size 53 i0 (.agg #[.int .i64 0, .int .i64 0, .int .i64 0, .bool false]) 4 32 und48 hi hz0 hz1 hz2 rfl (by decide) _ _ _ (by rfl) hown3 (some ⟨v2.w.heap.size, 0, none⟩) 1 _ (Tp.c t) (by rfl) rfl hgx3 t.one (by unfold maxLen; omega) (by omega) sz3 ?_
                  intro x4 w' hown4 hgrow
                  obtain ⟨v4, rfl, sz4⟩ := After.app u0 v3 hown3 hgrow sz3
                  clear hgrow
                  refine hK _ v4 ?_
                  clear hK K
                  try simp only [Act.put, List.setIfInBounds_toArray, List.set_cons_zero, List.set_cons_succ]
                  refine h_step 11 (by kernel_rfl) rfl (fun K hK => ?_)
                  refine step_append_rd _ rfl (.tmp 53) (.tmp 56) 48 rfl u0.w.heap.size 53 i0 (.agg #[.int .i64 0, .int .i64 0, .int .i64 0, .bool false]) 4 32 und48 hi hz0 hz1 hz2 rfl (by decide) _ _ _ (by rfl) hown4 _ 0 _ ((m.drop 0).flatMap Tp.c) (by rfl) (by rw [flat_len Tp.c 4 Tp.c4, List.length_drop, HN.out]; try omega) (.inl (by rw [HM.out]; rfl)) (Tp.ones _) (by unfold maxLen; omega) (by omega) sz4 ?_
                  intro x5 w' hown5 hgrow
                  obtain ⟨v5, rfl, sz5⟩ := After.app u0 v4 hown4 hgrow sz4
                  clear hgrow
                  refine hK _ v5 ?_
                  clear hK K
                  try simp only [Act.put, List.setIfInBounds_toArray, List.set_cons_zero, List.set_cons_succ]
                  refine h_take 12 (x := ?_) rfl (by kernel_rfl) (by kernel_rfl) (by kernel_rfl) (fun _ _ _ h => h) (by rfl) (fun v => ?_) ?_
                  rotate_left
                  · (go_simp; try with_reducible rfl)
                  try simp only [Act.put, List.setIfInBounds_toArray, List.set_cons_zero, List.set_cons_succ]
                  refine wpAnyH_done (by kernel_rfl) ?_ _
                  refine NoPanic.normal ?_
                  have HX := hid (insT_new (m := m) (t := t) (fun x hx => HNO.out x (by omega) (by rw [← HN.out]; exact hx)) HB.out)
                  obtain ⟨xa, xc, rfl, hxc, hxn, hxR, -⟩ := own_slice hown5
                  have hxR : Rd v5.w xa ((m.take 0 ++ t :: m.drop 0).flatMap Tp.c) := by rw [List.flatMap_append, List.flatMap_cons]; simpa using hxR
                  have hxl : (m.take 0 ++ t :: m.drop 0).length = 0 + 0 + 1 + 0 := by (first | (simp [HN.out]; done) | (simp [HN.out]; omega))
                  obtain ⟨L, hL⟩ : ∃ L, 0 + 0 + 1 + 0 = L := ⟨_, rfl⟩
                  have hL2 : L ≤ 81 := by omega
                  rw [hL] at hxl hxc hxn
                  rw [hL]
                  have hsl := hid (show SlIs v5.w (.slice xa L xc) (m.take 0 ++ t :: m.drop 0) from ⟨xa, xc, by rw [hxl], hxR, fun h => by rw [hxl]; exact hxn h, by rw [hxl]; exact hxc⟩)
                  have HXR := hid hxR; have HXL := hid hxl
                  clear hxR hxn hxc hxl hL hown5
                  go_wp2_with fail
                  refine (rtcheck_any (m.take 0 ++ t :: m.drop 0) (L) (HXL.out) xa xc _ (by omega) (HXR.out)).mono ?_
                  rintro e w5 ⟨rfl, hB0⟩
                  by_cases hg2 : goodB (m.take 0 ++ t :: m.drop 0) = true
                  · rw [chkT_ok hg2]
                    have hg3 := hid hg2; clear hg2
                    go_wp2_with fail
                    have hg2 := hg3.out
                    exact bodyPost_ret (v := .tuple #[.slice xa L xc, .int .i64 0]) (by simp [results, Try.results44, go_sem]) rfl ⟨_, by rw [insE, HX.out, chkT_ok hg2], by rw [insV, HX.out, if_pos hg2]; exact hsl.out.below hB0, b_then (WV.out v5) hB0⟩
                  · rw [chkT_90 hg2]
                    have hg3 := hid hg2; clear hg2
                    go_wp2_with fail
                    have hg2 := hg3.out
                    exact bodyPost_ret (v := .tuple #[.slice none 0 0, .int .i64 90]) (by simp [results, Try.results44, go_sem]) rfl ⟨_, by rw [insE, HX.out, chkT_90 hg2], by rw [insV, HX.out, if_neg hg2]; exact SlIs.nil _, b_then (WV.out v5) hB0⟩
                · go_simp
                  obtain ⟨v2, hv1⟩ : ∃ y9 : After V, y9.w = v1.w.alloc (.cells #[.int .i64 t.k, .int .i64 t.n, .int .i64 t.d, .bool t.r] 53) := ⟨v1.on (b_alloc (Below.refl _ _) _), rfl⟩
                  rw [← hv1]
                  have hgx2 : Rd v2.w (some ⟨v1.w.heap.size, 0, none⟩) (Tp.c t) := by rw [hv1]; exact rd_new _ _ _ rfl
                  have hgl2 : v1.w.heap.size < v2.w.heap.size := by rw [hv1]; simp
                  have sz2 : u0.w.heap.size ≤ v2.w.heap.size := by rw [hv1]; simpa using Nat.le_succ_of_le sz1
                  have hown2 := own_eq (own_after hown1 (b_alloc (Below.refl _ _) _)) hv1
                  have hne2 := own_far hown1 (v1.w.heap.size) (Nat.le_refl _)
                  clear hv1
                  refine hK _ v2 ?_
                  clear hK K
                  try simp only [Act.put, List.setIfInBounds_toArray, List.set_cons_zero, List.set_cons_succ]
                  refine h_step 4 (by kernel_rfl) rfl (fun K hK => ?_)
                  refine step_append_rd _ rfl (.tmp 46) (.tmp 49) 48 rfl u0.w.heap.size 53 i0 (.agg #[.int .i64 0, .int .i64 0, .int .i64 0, .bool false]) 4 32 und48 hi hz0 hz1 hz2 rfl (by decide) _ _ _ (by rfl) hown2 _ 0 _ ((m.take 0).flatMap Tp.c) (by rfl) (by rw [flat_len Tp.c 4 Tp.c4, List.length_take, HN.out]; omega) (.inl (by rw [HM.out]; rfl)) (Tp.ones _) (by unfold maxLen; omega) (by omega) sz2 ?_
                  intro x3 w' hown3 hgrow
                  have hgx3 := rd_grown hgx2 hgrow hne2
                  have hgl3 := Nat.lt_of_lt_of_le hgl2 hgrow.size
                  obtain ⟨v3, rfl, sz3⟩ := After.app u0 v2 hown2 hgrow sz2
                  clear hgrow
                  refine hK _ v3 ?_
                  clear hK K
                  try simp only [Act.put, List.setIfInBounds_toArray, List.set_cons_zero, List.set_cons_succ]
                  refine h_step 7 (by kernel_rfl) rfl (fun K hK => ?_)
                  refine step_append_rd _ rfl (.tmp 50) (.tmp 52) 48 rfl u0.w.heap.size 53 i0 (.agg #[.int .i64 0, .int .i64 0, .int .i64 0, .bool false]) 4 32 und48 hi hz0 hz1 hz2 rfl (by decide) _ _ _ (by rfl) hown3 (some ⟨v1.w.heap.size, 0, none⟩) 1 _ (Tp.c t) (by rfl) rfl hgx3 t.one (by unfold maxLen; omega) (by omega) sz3 ?_
                  intro x4 w' hown4 hgrow
                  obtain ⟨v4, rfl, sz4⟩ := After.app u0 v3 hown3 hgrow sz3
                  clear hgrow
                  refine hK _ v4 ?_
                  clear hK K
                  try simp only [Act.put, List.setIfInBounds_toArray, List.set_cons_zero, List.set_cons_succ]
                  refine h_step 11 (by kernel_rfl) rfl (fun K hK => ?_)
                  refine step_append_rd _ rfl (.tmp 53) (.tmp 56) 48 rfl u0.w.heap.size 53 i0 (.agg #[.int .i64 0, .int .i64 0, .int .i64 0, .bool false]) 4 32 und48 hi hz0 hz1 hz2 rfl (by decide) _ _ _ (by rfl) hown4 _ 0 _ ((m.drop 0).flatMap Tp.c) (by rfl) (by rw [flat_len Tp.c 4 Tp.c4, List.length_drop, HN.out]; try omega) (.inl (by rw [HM.out]; rfl)) (Tp.ones _) (by unfold maxLen; omega) (by omega) sz4 ?_
                  intro x5 w' hown5 hgrow
                  obtain ⟨v5, rfl, sz5⟩ := After.app u0 v4 hown4 hgrow sz4
                  clear hgrow
                  refine hK _ v5 ?_
                  clear hK K
                  try simp only [Act.put, List.setIfInBounds_toArray, List.set_cons_zero, List.set_cons_succ]
                  refine h_take 12 (x := ?_) rfl (by kernel_rfl) (by kernel_rfl) (by kernel_rfl) (fun _ _ _ h => h) (by rfl) (fun v => ?_) ?_
                  rotate_left
                  · (go_simp; try with_reducible rfl)
                  try simp only [Act.put, List.setIfInBounds_toArray, List.set_cons_zero, List.set_cons_succ]
                  refine wpAnyH_done (by kernel_rfl) ?_ _
                  refine NoPanic.normal ?_
                  have HX := hid (insT_new (m := m) (t := t) (fun x hx => HNO.out x (by omega) (by rw [← HN.out]; exact hx)) HB.out)
                  obtain ⟨xa, xc, rfl, hxc, hxn, hxR, -⟩ := own_slice hown5
                  have hxR : Rd v5.w xa ((m.take 0 ++ t :: m.drop 0).flatMap Tp.c) := by rw [List.flatMap_append, List.flatMap_cons]; simpa using hxR
                  have hxl : (m.take 0 ++ t :: m.drop 0).length = 0 + 0 + 1 + 0 := by (first | (simp [HN.out]; done) | (simp [HN.out]; omega))
                  obtain ⟨L, hL⟩ : ∃ L, 0 + 0 + 1 + 0 = L := ⟨_, rfl⟩
                  have hL2 : L ≤ 81 := by omega
                  rw [hL] at hxl hxc hxn
                  rw [hL]
                  have hsl := hid (show SlIs v5.w (.slice xa L xc) (m.take 0 ++ t :: m.drop 0) from ⟨xa, xc, by rw [hxl], hxR, fun h => by rw [hxl]; exact hxn h, by rw [hxl]; exact hxc⟩)
                  have HXR := hid hxR; have HXL := hid hxl
                  clear hxR hxn hxc hxl hL hown5
                  go_wp2_with fail
                  refine (rtcheck_any (m.take 0 ++ t :: m.drop 0) (L) (HXL.out) xa xc _ (by omega) (HXR.out)).mono ?_
                  rintro e w5 ⟨rfl, hB0⟩
                  by_cases hg2 : goodB (m.take 0 ++ t :: m.drop 0) = true
                  · rw [chkT_ok hg2]
                    have hg3 := hid hg2; clear hg2
                    go_wp2_with fail
                    have hg2 := hg3.out
                    exact bodyPost_ret (v := .tuple #[.slice xa L xc, .int .i64 0]) (by simp [results, Try.results44, go_sem]) rfl ⟨_, by rw [insE, HX.out, chkT_ok hg2], by rw [insV, HX.out, if_pos hg2]; exact hsl.out.below hB0, b_then (WV.out v5) hB0⟩
                  · rw [chkT_90 hg2]
                    have hg3 := hid hg2; clear hg2
                    go_wp2_with fail
                    have hg2 := hg3.out
                    exact bodyPost_ret (v := .tuple #[.slice none 0 0, .int .i64 90]) (by simp [results, Try.results44, go_sem]) rfl ⟨_, by rw [insE, HX.out, chkT_90 hg2], by rw [insV, HX.out, if_neg hg2]; exact SlIs.nil _, b_then (WV.out v5) hB0⟩
              · go_simp
                obtain ⟨v1, hv1⟩ : ∃ y9 : After V, y9.w = u0.w.alloc (.cells #[.int .i64 t.k, .int .i64 t.n, .int .i64 t.d, .bool t.r] 53) := ⟨u0.on (b_alloc (Below.refl _ _) _), rfl⟩
                rw [← hv1]
                have hgx1 : Rd v1.w (some ⟨u0.w.heap.size, 0, none⟩) (Tp.c t) := by rw [hv1]; exact rd_new _ _ _ rfl
                have hgl1 : u0.w.heap.size < v1.w.heap.size := by rw [hv1]; simp
                have sz1 : u0.w.heap.size ≤ v1.w.heap.size := by rw [hv1]; simp
                clear hv1
                refine hK _ v1 ?_
                clear hK K
                try simp only [Act.put, List.setIfInBounds_toArray, List.set_cons_zero, List.set_cons_succ]
                refine h_step 0 (by kernel_rfl) rfl (fun K hK => ?_)
                go_simp
                obtain ⟨v2, hv1⟩ : ∃ y9 : After V, y9.w = v1.w.alloc (.cells #[] 53) := ⟨v1.on (b_alloc (Below.refl _ _) _), rfl⟩
                rw [← hv1]
                have hown2 : v2.w.ownsRow u0.w.heap.size 53 4 (.slice (some ⟨v1.w.heap.size, 0, none⟩) 0 0) 0 [] := by rw [hv1]; exact World.ownsRow_made v1.w #[] 0 sz1 (by unfold maxLen; omega) (by simp)
                have sz2 : u0.w.heap.size ≤ v2.w.heap.size := by rw [hv1]; simpa using Nat.le_succ_of_le sz1
                have hgx2 : Rd v2.w (some ⟨u0.w.heap.size, 0, none⟩) (Tp.c t) := by rw [hv1]; exact hgx1.alloc _
                have hne2 : ∀ g off, (some ⟨u0.w.heap.size, 0, none⟩ : Option Addr) = some ⟨g, off, none⟩ → (Value.slice (some ⟨v1.w.heap.size, 0, none⟩) 0 0).ownBlock ≠ some g := fun g off h => by have := hgl1; simp only [Option.some.injEq, Addr.mk.injEq] at h; simp only [Value.ownBlock, ne_eq, Option.some.injEq]; omega
                have hgl2 : u0.w.heap.size < v2.w.heap.size := Nat.lt_of_lt_of_le hgl1 (by rw [hv1]; simp)
                clear hv1
                refine hK _ v2 ?_
                clear hK K
                try simp only [Act.put, List.setIfInBounds_toArray, List.set_cons_zero, List.set_cons_succ]
                refine h_step 4 (by kernel_rfl) rfl (fun K hK => ?_)
                refine step_append_rd _ rfl (.tmp 46) (.tmp 49) 48 rfl u0.w.heap.size 53 i0 (.agg #[.int .i64 0, .int .i64 0, .int .i64 0, .bool false]) 4 32 und48 hi hz0 hz1 hz2 rfl (by decide) _ _ _ (by rfl) hown2 _ 0 _ ((m.take 0).flatMap Tp.c) (by rfl) (by rw [flat_len Tp.c 4 Tp.c4, List.length_take, HN.out]; omega) (.inl (by rw [HM.out]; rfl)) (Tp.ones _) (by unfold maxLen; omega) (by omega) sz2 ?_
                intro x3 w' hown3 hgrow
                have hgx3 := rd_grown hgx2 hgrow hne2
                have hgl3 := Nat.lt_of_lt_of_le hgl2 hgrow.size
                obtain ⟨v3, rfl, sz3⟩ := After.app u0 v2 hown2 hgrow sz2
                clear hgrow
                refine hK _ v3 ?_
                clear hK K
                try simp only [Act.put, List.setIfInBounds_toArray, List.set_cons_zero, List.set_cons_succ]
                refine h_step 7 (by kernel_rfl) rfl (fun K hK => ?_)
                refine step_append_rd _ rfl (.tmp 50) (.tmp 52) 48 rfl u0.w.heap.size 53 i0 (.agg #[.int .i64 0, .int .i64 0, .int .i64 0, .bool false]) 4 32 und48 hi hz0 hz1 hz2 rfl (by decide) _ _ _ (by rfl) hown3 (some ⟨u0.w.heap.size, 0, none⟩) 1 _ (Tp.c t) (by rfl) rfl hgx3 t.one (by unfold maxLen; omega) (by omega) sz3 ?_
                intro x4 w' hown4 hgrow
                obtain ⟨v4, rfl, sz4⟩ := After.app u0 v3 hown3 hgrow sz3
                clear hgrow
                refine hK _ v4 ?_
                clear hK K
                try simp only [Act.put, List.setIfInBounds_toArray, List.set_cons_zero, List.set_cons_succ]
                refine h_step 11 (by kernel_rfl) rfl (fun K hK => ?_)
                refine step_append_rd _ rfl (.tmp 53) (.tmp 56) 48 rfl u0.w.heap.size 53 i0 (.agg #[.int .i64 0, .int .i64 0, .int .i64 0, .bool false]) 4 32 und48 hi hz0 hz1 hz2 rfl (by decide) _ _ _ (by rfl) hown4 _ 0 _ ((m.drop 0).flatMap Tp.c) (by rfl) (by rw [flat_len Tp.c 4 Tp.c4, List.length_drop, HN.out]; try omega) (.inl (by rw [HM.out]; rfl)) (Tp.ones _) (by unfold maxLen; omega) (by omega) sz4 ?_
                intro x5 w' hown5 hgrow
                obtain ⟨v5, rfl, sz5⟩ := After.app u0 v4 hown4 hgrow sz4
                clear hgrow
                refine hK _ v5 ?_
                clear hK K
                try simp only [Act.put, List.setIfInBounds_toArray, List.set_cons_zero, List.set_cons_succ]
                refine h_take 12 (x := ?_) rfl (by kernel_rfl) (by kernel_rfl) (by kernel_rfl) (fun _ _ _ h => h) (by rfl) (fun v => ?_) ?_
                rotate_left
                · (go_simp; try with_reducible rfl)
                try simp only [Act.put, List.setIfInBounds_toArray, List.set_cons_zero, List.set_cons_succ]
                refine wpAnyH_done (by kernel_rfl) ?_ _
                refine NoPanic.normal ?_
                have HX := hid (insT_new (m := m) (t := t) (fun x hx => HNO.out x (by omega) (by rw [← HN.out]; exact hx)) HB.out)
                obtain ⟨xa, xc, rfl, hxc, hxn, hxR, -⟩ := own_slice hown5
                have hxR : Rd v5.w xa ((m.take 0 ++ t :: m.drop 0).flatMap Tp.c) := by rw [List.flatMap_append, List.flatMap_cons]; simpa using hxR
                have hxl : (m.take 0 ++ t :: m.drop 0).length = 0 + 0 + 1 + 0 := by (first | (simp [HN.out]; done) | (simp [HN.out]; omega))
                obtain ⟨L, hL⟩ : ∃ L, 0 + 0 + 1 + 0 = L := ⟨_, rfl⟩
                have hL2 : L ≤ 81 := by omega
                rw [hL] at hxl hxc hxn
                rw [hL]
                have hsl := hid (show SlIs v5.w (.slice xa L xc) (m.take 0 ++ t :: m.drop 0) from ⟨xa, xc, by rw [hxl], hxR, fun h => by rw [hxl]; exact hxn h, by rw [hxl]; exact hxc⟩)
                have HXR := hid hxR; have HXL := hid hxl
                clear hxR hxn hxc hxl hL hown5
                go_wp2_with fail
                refine (rtcheck_any (m.take 0 ++ t :: m.drop 0) (L) (HXL.out) xa xc _ (by omega) (HXR.out)).mono ?_
                rintro e w5 ⟨rfl, hB0⟩
                by_cases hg2 : goodB (m.take 0 ++ t :: m.drop 0) = true
                · rw [chkT_ok hg2]
                  have hg3 := hid hg2; clear hg2
                  go_wp2_with fail
                  have hg2 := hg3.out
                  exact bodyPost_ret (v := .tuple #[.slice xa L xc, .int .i64 0]) (by simp [results, Try.results44, go_sem]) rfl ⟨_, by rw [insE, HX.out, chkT_ok hg2], by rw [insV, HX.out, if_pos hg2]; exact hsl.out.below hB0, b_then (WV.out v5) hB0⟩
                · rw [chkT_90 hg2]
                  have hg3 := hid hg2; clear hg2
                  go_wp2_with fail
                  have hg2 := hg3.out
                  exact bodyPost_ret (v := .tuple #[.slice none 0 0, .int .i64 90]) (by simp [results, Try.results44, go_sem]) rfl ⟨_, by rw [insE, HX.out, chkT_90 hg2], by rw [insV, HX.out, if_neg hg2]; exact SlIs.nil _, b_then (WV.out v5) hB0⟩
        · obtain ⟨blk, off, rfl, hbl⟩ := HR.out.addr (by rw [flat_len Tp.c 4 Tp.c4, HN.out]; omega)
          by_cases hcb : c = b
          · subst hcb
            obtain rfl : nn = c := by omega
            have HM := hid (show m.drop nn = [] from List.drop_of_length_le (by rw [HN.out]; omega))
            refine whole_region 13 rfl (by kernel_rfl) ?_
            intro u0
            refine h_take 1 (x := ?_) rfl (by kernel_rfl) (by kernel_rfl) (by kernel_rfl) (fun _ _ _ h => h) (by rfl) (fun v => ?_) ?_
            rotate_left
            · (go_simp; try with_reducible rfl)
            try simp only [Act.put, List.setIfInBounds_toArray, List.set_cons_zero, List.set_cons_succ]
            refine h_take 2 (x := ?_) rfl (by kernel_rfl) (by kernel_rfl) (by kernel_rfl) (fun _ _ _ h => h) (by rfl) (fun v => ?_) ?_
            rotate_left
            · (go_simp; try with_reducible rfl)
            try simp only [Act.put, List.setIfInBounds_toArray, List.set_cons_zero, List.set_cons_succ]
            refine h_take 3 (x := ?_) rfl (by kernel_rfl) (by kernel_rfl) (by kernel_rfl) (fun _ _ _ h => h) (by rfl) (fun v => ?_) ?_
            rotate_left
            · (go_simp; try with_reducible rfl)
            try simp only [Act.put, List.setIfInBounds_toArray, List.set_cons_zero, List.set_cons_succ]
            refine h_take 5 (x := ?_) rfl (by kernel_rfl) (by kernel_rfl) (by kernel_rfl) (fun _ _ _ h => h) (by rfl) (fun v => ?_) ?_
            rotate_left
            · (go_simp; try with_reducible rfl)
            try simp only [Act.put, List.setIfInBounds_toArray, List.set_cons_zero, List.set_cons_succ]
            refine h_take 8 (x := ?_) rfl (by kernel_rfl) (by kernel_rfl) (by kernel_rfl) (fun _ _ _ h => h) (by rfl) (fun v => ?_) ?_
            rotate_left
            · (go_simp; try with_reducible rfl)
            try simp only [Act.put, List.setIfInBounds_toArray, List.set_cons_zero, List.set_cons_succ]
            refine h_take 9 (x := ?_) rfl (by kernel_rfl) (by kernel_rfl) (by kernel_rfl) (fun _ _ _ h => h) (by rfl) (fun v => ?_) ?_
            rotate_left
            · (go_simp; try with_reducible rfl)
            try simp only [Act.put, List.setIfInBounds_toArray, List.set_cons_zero, List.set_cons_succ]
            refine h_take 10 (x := ?_) rfl (by kernel_rfl) (by kernel_rfl) (by kernel_rfl) (fun _ _ _ h => h) (by rfl) (fun v => ?_) ?_
            rotate_left
            · (go_simp; try with_reducible rfl)
            try simp only [Act.put, List.setIfInBounds_toArray, List.set_cons_zero, List.set_cons_succ]
            refine h_two 0 6 (by kernel_rfl) rfl rfl (fun K hK => ?_) (fun K hK => ?_)
            · go_simp
              obtain ⟨v1, hv1⟩ : ∃ y9 : After V, y9.w = u0.w.alloc (.cells #[] 53) := ⟨u0.on (b_alloc (Below.refl _ _) _), rfl⟩
              rw [← hv1]
              have hown1 : v1.w.ownsRow u0.w.heap.size 53 4 (.slice (some ⟨u0.w.heap.size, 0, none⟩) 0 0) 0 [] := by rw [hv1]; exact World.ownsRow_made u0.w #[] 0 (Nat.le_refl _) (by unfold maxLen; omega) (by simp)
              have sz1 : u0.w.heap.size ≤ v1.w.heap.size := by rw [hv1]; simp
              clear hv1
              refine hK _ v1 ?_
              clear hK K
              try simp only [Act.put, List.setIfInBounds_toArray, List.set_cons_zero, List.set_cons_succ]
              refine h_two 4 6 (by kernel_rfl) rfl rfl (fun K hK => ?_) (fun K hK => ?_)
              · refine step_append_rd _ rfl (.tmp 46) (.tmp 49) 48 rfl u0.w.heap.size 53 i0 (.agg #[.int .i64 0, .int .i64 0, .int .i64 0, .bool false]) 4 32 und48 hi hz0 hz1 hz2 rfl (by decide) _ _ _ (by rfl) hown1 _ nn _ ((m.take nn).flatMap Tp.c) (by rfl) (by rw [flat_len Tp.c 4 Tp.c4, List.length_take, HN.out]; omega) ((RV.out v1).take (nn * 4) |> fun h => by rw [flat_takek Tp.c 4 Tp.c4] at h; exact h) (Tp.ones _) (by unfold maxLen; omega) (by omega) sz1 ?_
                intro x2 w' hown2 hgrow
                obtain ⟨v2, rfl, sz2⟩ := After.app u0 v1 hown1 hgrow sz1
                clear hgrow
                refine hK _ v2 ?_
                clear hK K
                try simp only [Act.put, List.setIfInBounds_toArray, List.set_cons_zero, List.set_cons_succ]
                refine h_step 6 (by kernel_rfl) rfl (fun K hK => ?_)
                go_simp
                obtain ⟨v3, hv1⟩ : ∃ y9 : After V, y9.w = v2.w.alloc (.cells #[.int .i64 t.k, .int .i64 t.n, .int .i64 t.d, .bool t.r] 53) := ⟨v2.on (b_alloc (Below.refl _ _) _), rfl⟩
                rw [← hv1]
                have hgx3 : Rd v3.w (some ⟨v2.w.heap.size, 0, none⟩) (Tp.c t) := by rw [hv1]; exact rd_new _ _ _ rfl
                have hgl3 : v2.w.heap.size < v3.w.heap.size := by rw [hv1]; simp
                have sz3 : u0.w.heap.size ≤ v3.w.heap.size := by rw [hv1]; simpa using Nat.le_succ_of_le sz2
                have hown3 := own_eq (own_after hown2 (b_alloc (Below.refl _ _) _)) hv1
                have hne3 := own_far hown2 (v2.w.heap.size) (Nat.le_refl _)
                clear hv1
                refine hK _ v3 ?_
                clear hK K
                try simp only [Act.put, List.setIfInBounds_toArray, List.set_cons_zero, List.set_cons_succ]
                refine h_step 7 (by kernel_rfl) rfl (fun K hK => ?_)
                refine step_append_rd _ rfl (.tmp 50) (.tmp 52) 48 rfl u0.w.heap.size 53 i0 (.agg #[.int .i64 0, .int .i64 0, .int .i64 0, .bool false]) 4 32 und48 hi hz0 hz1 hz2 rfl (by decide) _ _ _ (by rfl) hown3 (some ⟨v2.w.heap.size, 0, none⟩) 1 _ (Tp.c t) (by rfl) rfl hgx3 t.one (by unfold maxLen; omega) (by omega) sz3 ?_
                intro x4 w' hown4 hgrow
                obtain ⟨v4, rfl, sz4⟩ := After.app u0 v3 hown3 hgrow sz3
                clear hgrow
                refine hK _ v4 ?_
                clear hK K
                try simp only [Act.put, List.setIfInBounds_toArray, List.set_cons_zero, List.set_cons_succ]
                refine h_step 11 (by kernel_rfl) rfl (fun K hK => ?_)
                refine step_append_rd _ rfl (.tmp 53) (.tmp 56) 48 rfl u0.w.heap.size 53 i0 (.agg #[.int .i64 0, .int .i64 0, .int .i64 0, .bool false]) 4 32 und48 hi hz0 hz1 hz2 rfl (by decide) _ _ _ (by rfl) hown4 _ 0 _ ((m.drop nn).flatMap Tp.c) (by rfl) (by rw [flat_len Tp.c 4 Tp.c4, List.length_drop, HN.out]; try omega) (.inl (by rw [HM.out]; rfl)) (Tp.ones _) (by unfold maxLen; omega) (by omega) sz4 ?_
                intro x5 w' hown5 hgrow
                obtain ⟨v5, rfl, sz5⟩ := After.app u0 v4 hown4 hgrow sz4
                clear hgrow
                refine hK _ v5 ?_
                clear hK K
                try simp only [Act.put, List.setIfInBounds_toArray, List.set_cons_zero, List.set_cons_succ]
                refine h_take 12 (x := ?_) rfl (by kernel_rfl) (by kernel_rfl) (by kernel_rfl) (fun _ _ _ h => h) (by rfl) (fun v => ?_) ?_
                rotate_left
                · (go_simp; try with_reducible rfl)
                try simp only [Act.put, List.setIfInBounds_toArray, List.set_cons_zero, List.set_cons_succ]
                refine wpAnyH_done (by kernel_rfl) ?_ _
                refine NoPanic.normal ?_
                have HX := hid (insT_new (m := m) (t := t) (fun x hx => HNO.out x (by omega) (by rw [← HN.out]; exact hx)) HB.out)
                obtain ⟨xa, xc, rfl, hxc, hxn, hxR, -⟩ := own_slice hown5
                have hxR : Rd v5.w xa ((m.take nn ++ t :: m.drop nn).flatMap Tp.c) := by rw [List.flatMap_append, List.flatMap_cons]; simpa using hxR
                have hxl : (m.take nn ++ t :: m.drop nn).length = 0 + nn + 1 + 0 := by (first | (simp [HN.out]; done) | (simp [HN.out]; omega))
                obtain ⟨L, hL⟩ : ∃ L, 0 + nn + 1 + 0 = L := ⟨_, rfl⟩
                have hL2 : L ≤ 81 := by omega
                rw [hL] at hxl hxc hxn
                rw [hL]
                have hsl := hid (show SlIs v5.w (.slice xa L xc) (m.take nn ++ t :: m.drop nn) from ⟨xa, xc, by rw [hxl], hxR, fun h => by rw [hxl]; exact hxn h, by rw [hxl]; exact hxc⟩)
                have HXR := hid hxR; have HXL := hid hxl
                clear hxR hxn hxc hxl hL hown5
                go_wp2_with fail
                refine (rtcheck_any (m.take nn ++ t :: m.drop nn) (L) (HXL.out) xa xc _ (by omega) (HXR.out)).mono ?_
                rintro e w5 ⟨rfl, hB0⟩
                by_cases hg2 : goodB (m.take nn ++ t :: m.drop nn) = true
                · rw [chkT_ok hg2]
                  have hg3 := hid hg2; clear hg2
                  go_wp2_with fail
                  have hg2 := hg3.out
                  exact bodyPost_ret (v := .tuple #[.slice xa L xc, .int .i64 0]) (by simp [results, Try.results44, go_sem]) rfl ⟨_, by rw [insE, HX.out, chkT_ok hg2], by rw [insV, HX.out, if_pos hg2]; exact hsl.out.below hB0, b_then (WV.out v5) hB0⟩
                · rw [chkT_90 hg2]
                  have hg3 := hid hg2; clear hg2
                  go_wp2_with fail
                  have hg2 := hg3.out
                  exact bodyPost_ret (v := .tuple #[.slice none 0 0, .int .i64 90]) (by simp [results, Try.results44, go_sem]) rfl ⟨_, by rw [insE, HX.out, chkT_90 hg2], by rw [insV, HX.out, if_neg hg2]; exact SlIs.nil _, b_then (WV.out v5) hB0⟩
              · go_simp
                obtain ⟨v2, hv1⟩ : ∃ y9 : After V, y9.w = v1.w.alloc (.cells #[.int .i64 t.k, .int .i64 t.n, .int .i64 t.d, .bool t.r] 53) := ⟨v1.on (b_alloc (Below.refl _ _) _), rfl⟩
                rw [← hv1]
                have hgx2 : Rd v2.w (some ⟨v1.w.heap.size, 0, none⟩) (Tp.c t) := by rw [hv1]; exact rd_new _ _ _ rfl
                have hgl2 : v1.w.heap.size < v2.w.heap.size := by rw [hv1]; simp
                have sz2 : u0.w.heap.size ≤ v2.w.heap.size := by rw [hv1]; simpa using Nat.le_succ_of_le sz1
                have hown2 := own_eq (own_after hown1 (b_alloc (Below.refl _ _) _)) hv1
                have hne2 := own_far hown1 (v1.w.heap.size) (Nat.le_refl _)
                clear hv1
                refine hK _ v2 ?_
                clear hK K
                try simp only [Act.put, List.setIfInBounds_toArray, List.set_cons_zero, List.set_cons_succ]
                refine h_step 4 (by kernel_rfl) rfl (fun K hK => ?_)
                refine step_append_rd _ rfl (.tmp 46) (.tmp 49) 48 rfl u0.w.heap.size 53 i0 (.agg #[.int .i64 0, .int .i64 0, .int .i64 0, .bool false]) 4 32 und48 hi hz0 hz1 hz2 rfl (by decide) _ _ _ (by rfl) hown2 _ nn _ ((m.take nn).flatMap Tp.c) (by rfl) (by rw [flat_len Tp.c 4 Tp.c4, List.length_take, HN.out]; omega) ((RV.out v2).take (nn * 4) |> fun h => by rw [flat_takek Tp.c 4 Tp.c4] at h; exact h) (Tp.ones _) (by unfold maxLen; omega) (by omega) sz2 ?_
                intro x3 w' hown3 hgrow
                have hgx3 := rd_grown hgx2 hgrow hne2
                have hgl3 := Nat.lt_of_lt_of_le hgl2 hgrow.size
                obtain ⟨v3, rfl, sz3⟩ := After.app u0 v2 hown2 hgrow sz2
                clear hgrow
                refine hK _ v3 ?_
                clear hK K
                try simp only [Act.put, List.setIfInBounds_toArray, List.set_cons_zero, List.set_cons_succ]
                refine h_step 7 (by kernel_rfl) rfl (fun K hK => ?_)
                refine step_append_rd _ rfl (.tmp 50) (.tmp 52) 48 rfl u0.w.heap.size 53 i0 (.agg #[.int .i64 0, .int .i64 0, .int .i64 0, .bool false]) 4 32 und48 hi hz0 hz1 hz2 rfl (by decide) _ _ _ (by rfl) hown3 (some ⟨v1.w.heap.size, 0, none⟩) 1 _ (Tp.c t) (by rfl) rfl hgx3 t.one (by unfold maxLen; omega) (by omega) sz3 ?_
                intro x4 w' hown4 hgrow
                obtain ⟨v4, rfl, sz4⟩ := After.app u0 v3 hown3 hgrow sz3
                clear hgrow
                refine hK _ v4 ?_
                clear hK K
                try simp only [Act.put, List.setIfInBounds_toArray, List.set_cons_zero, List.set_cons_succ]
                refine h_step 11 (by kernel_rfl) rfl (fun K hK => ?_)
                refine step_append_rd _ rfl (.tmp 53) (.tmp 56) 48 rfl u0.w.heap.size 53 i0 (.agg #[.int .i64 0, .int .i64 0, .int .i64 0, .bool false]) 4 32 und48 hi hz0 hz1 hz2 rfl (by decide) _ _ _ (by rfl) hown4 _ 0 _ ((m.drop nn).flatMap Tp.c) (by rfl) (by rw [flat_len Tp.c 4 Tp.c4, List.length_drop, HN.out]; try omega) (.inl (by rw [HM.out]; rfl)) (Tp.ones _) (by unfold maxLen; omega) (by omega) sz4 ?_
                intro x5 w' hown5 hgrow
                obtain ⟨v5, rfl, sz5⟩ := After.app u0 v4 hown4 hgrow sz4
                clear hgrow
                refine hK _ v5 ?_
                clear hK K
                try simp only [Act.put, List.setIfInBounds_toArray, List.set_cons_zero, List.set_cons_succ]
                refine h_take 12 (x := ?_) rfl (by kernel_rfl) (by kernel_rfl) (by kernel_rfl) (fun _ _ _ h => h) (by rfl) (fun v => ?_) ?_
                rotate_left
                · (go_simp; try with_reducible rfl)
                try simp only [Act.put, List.setIfInBounds_toArray, List.set_cons_zero, List.set_cons_succ]
                refine wpAnyH_done (by kernel_rfl) ?_ _
                refine NoPanic.normal ?_
                have HX := hid (insT_new (m := m) (t := t) (fun x hx => HNO.out x (by omega) (by rw [← HN.out]; exact hx)) HB.out)
                obtain ⟨xa, xc, rfl, hxc, hxn, hxR, -⟩ := own_slice hown5
                have hxR : Rd v5.w xa ((m.take nn ++ t :: m.drop nn).flatMap Tp.c) := by rw [List.flatMap_append, List.flatMap_cons]; simpa using hxR
                have hxl : (m.take nn ++ t :: m.drop nn).length = 0 + nn + 1 + 0 := by (first | (simp [HN.out]; done) | (simp [HN.out]; omega))
                obtain ⟨L, hL⟩ : ∃ L, 0 + nn + 1 + 0 = L := ⟨_, rfl⟩
                have hL2 : L ≤ 81 := by omega
                rw [hL] at hxl hxc hxn
                rw [hL]
                have hsl := hid (show SlIs v5.w (.slice xa L xc) (m.take nn ++ t :: m.drop nn) from ⟨xa, xc, by rw [hxl], hxR, fun h => by rw [hxl]; exact hxn h, by rw [hxl]; exact hxc⟩)
                have HXR := hid hxR; have HXL := hid hxl
                clear hxR hxn hxc hxl hL hown5
                go_wp2_with fail
                refine (rtcheck_any (m.take nn ++ t :: m.drop nn) (L) (HXL.out) xa xc _ (by omega) (HXR.out)).mono ?_
                rintro e w5 ⟨rfl, hB0⟩
                by_cases hg2 : goodB (m.take nn ++ t :: m.drop nn) = true
                · rw [chkT_ok hg2]
                  have hg3 := hid hg2; clear hg2
                  go_wp2_with fail
                  have hg2 := hg3.out
                  exact bodyPost_ret (v := .tuple #[.slice xa L xc, .int .i64 0]) (by simp [results, Try.results44, go_sem]) rfl ⟨_, by rw [insE, HX.out, chkT_ok hg2], by rw [insV, HX.out, if_pos hg2]; exact hsl.out.below hB0, b_then (WV.out v5) hB0⟩
                · rw [chkT_90 hg2]
                  have hg3 := hid hg2; clear hg2
                  go_wp2_with fail
                  have hg2 := hg3.out
                  exact bodyPost_ret (v := .tuple #[.slice none 0 0, .int .i64 90]) (by simp [results, Try.results44, go_sem]) rfl ⟨_, by rw [insE, HX.out, chkT_90 hg2], by rw [insV, HX.out, if_neg hg2]; exact SlIs.nil _, b_then (WV.out v5) hB0⟩
            · go_simp
              obtain ⟨v1, hv1⟩ : ∃ y9 : After V, y9.w = u0.w.alloc (.cells #[.int .i64 t.k, .int .i64 t.n, .int .i64 t.d, .bool t.r] 53) := ⟨u0.on (b_alloc (Below.refl _ _) _), rfl⟩
              rw [← hv1]
              have hgx1 : Rd v1.w (some ⟨u0.w.heap.size, 0, none⟩) (Tp.c t) := by rw [hv1]; exact rd_new _ _ _ rfl
              have hgl1 : u0.w.heap.size < v1.w.heap.size := by rw [hv1]; simp
              have sz1 : u0.w.heap.size ≤ v1.w.heap.size := by rw [hv1]; simp
              clear hv1
              refine hK _ v1 ?_
              clear hK K
              try simp only [Act.put, List.setIfInBounds_toArray, List.set_cons_zero, List.set_cons_succ]
              refine h_step 0 (by kernel_rfl) rfl (fun K hK => ?_)
              go_simp
              obtain ⟨v2, hv1⟩ : ∃ y9 : After V, y9.w = v1.w.alloc (.cells #[] 53) := ⟨v1.on (b_alloc (Below.refl _ _) _), rfl⟩
              rw [← hv1]
              have hown2 : v2.w.ownsRow u0.w.heap.size 53 4 (.slice (some ⟨v1.w.heap.size, 0, none⟩) 0 0) 0 [] := by rw [hv1]; exact World.ownsRow_made v1.w #[] 0 sz1 (by unfold maxLen; omega) (by simp)
              have sz2 : u0.w.heap.size ≤ v2.w.heap.size := by rw [hv1]; simpa using Nat.le_succ_of_le sz1
              have hgx2 : Rd v2.w (some ⟨u0.w.heap.size, 0, none⟩) (Tp.c t) := by rw [hv1]; exact hgx1.alloc _
              have hne2 : ∀ g off, (some ⟨u0.w.heap.size, 0, none⟩ : Option Addr) = some ⟨g, off, none⟩ → (Value.slice (some ⟨v1.w.heap.size, 0, none⟩) 0 0).ownBlock ≠ some g := fun g off h => by have := hgl1; simp only [Option.some.injEq, Addr.mk.injEq] at h; simp only [Value.ownBlock, ne_eq, Option.some.injEq]; omega
              have hgl2 : u0.w.heap.size < v2.w.heap.size := Nat.lt_of_lt_of_le hgl1 (by rw [hv1]; simp)
              clear hv1
              refine hK _ v2 ?_
              clear hK K
              try simp only [Act.put, List.setIfInBounds_toArray, List.set_cons_zero, List.set_cons_succ]
              refine h_step 4 (by kernel_rfl) rfl (fun K hK => ?_)
              refine step_append_rd _ rfl (.tmp 46) (.tmp 49) 48 rfl u0.w.heap.size 53 i0 (.agg #[.int .i64 0, .int .i64 0, .int .i64 0, .bool false]) 4 32 und48 hi hz0 hz1 hz2 rfl (by decide) _ _ _ (by rfl) hown2 _ nn _ ((m.take nn).flatMap Tp.c) (by rfl) (by rw [flat_len Tp.c 4 Tp.c4, List.length_take, HN.out]; omega) ((RV.out v2).take (nn * 4) |> fun h => by rw [flat_takek Tp.c 4 Tp.c4] at h; exact h) (Tp.ones _) (by unfold maxLen; omega) (by omega) sz2 ?_
              intro x3 w' hown3 hgrow
              have hgx3 := rd_grown hgx2 hgrow hne2
              have hgl3 := Nat.lt_of_lt_of_le hgl2 hgrow.size
              obtain ⟨v3, rfl, sz3⟩ := After.app u0 v2 hown2 hgrow sz2
              clear hgrow
              refine hK _ v3 ?_
              clear hK K
              try simp only [Act.put, List.setIfInBounds_toArray, List.set_cons_zero, List.set_cons_succ]
              refine h_step 7 (by kernel_rfl) rfl (fun K hK => ?_)
              refine step_append_rd _ rfl (.tmp 50) (.tmp 52) 48 rfl u0.w.heap.size 53 i0 (.agg #[.int .i64 0, .int .i64 0, .int .i64 0, .bool false]) 4 32 und48 hi hz0 hz1 hz2 rfl (by decide) _ _ _ (by rfl) hown3 (some ⟨u0.w.heap.size, 0, none⟩) 1 _ (Tp.c t) (by rfl) rfl hgx3 t.one (by unfold maxLen; omega) (by omega) sz3 ?_
              intro x4 w' hown4 hgrow
              obtain ⟨v4, rfl, sz4⟩ := After.app u0 v3 hown3 hgrow sz3
              clear hgrow
              refine hK _ v4 ?_
              clear hK K
              try simp only [Act.put, List.setIfInBounds_toArray, List.set_cons_zero, List.set_cons_succ]
              refine h_step 11 (by kernel_rfl) rfl (fun K hK => ?_)
              refine step_append_rd _ rfl (.tmp 53) (.tmp 56) 48 rfl u0.w.heap.size 53 i0 (.agg #[.int .i64 0, .int .i64 0, .int .i64 0, .bool false]) 4 32 und48 hi hz0 hz1 hz2 rfl (by decide) _ _ _ (by rfl) hown4 _ 0 _ ((m.drop nn).flatMap Tp.c) (by rfl) (by rw [flat_len Tp.c 4 Tp.c4, List.length_drop, HN.out]; try omega) (.inl (by rw [HM.out]; rfl)) (Tp.ones _) (by unfold maxLen; omega) (by omega) sz4 ?_
              intro x5 w' hown5 hgrow
              obtain ⟨v5, rfl, sz5⟩ := After.app u0 v4 hown4 hgrow sz4
              clear hgrow
              refine hK _ v5 ?_
              clear hK K
              try simp only [Act.put, List.setIfInBounds_toArray, List.set_cons_zero, List.set_cons_succ]
              refine h_take 12 (x := ?_) rfl (by kernel_rfl) (by kernel_rfl) (by kernel_rfl) (fun _ _ _ h => h) (by rfl) (fun v => ?_) ?_
              rotate_left
              · (go_simp; try with_reducible rfl)
              try simp only [Act.put, List.setIfInBounds_toArray, List.set_cons_zero, List.set_cons_succ]
              refine wpAnyH_done (by kernel_rfl) ?_ _
              refine NoPanic.normal ?_
              have HX := hid (insT_new (m := m) (t := t) (fun x hx => HNO.out x (by omega) (by rw [← HN.out]; exact hx)) HB.out)
              obtain ⟨xa, xc, rfl, hxc, hxn, hxR, -⟩ := own_slice hown5
              have hxR : Rd v5.w xa ((m.take nn ++ t :: m.drop nn).flatMap Tp.c) := by rw [List.flatMap_append, List.flatMap_cons]; simpa using hxR
              have hxl : (m.take nn ++ t :: m.drop nn).length = 0 + nn + 1 + 0 := by (first | (simp [HN.out]; done) | (simp [HN.out]; omega))
              obtain ⟨L, hL⟩ : ∃ L, 0 + nn + 1 + 0 = L := ⟨_, rfl⟩
              have hL2 : L ≤ 81 := by omega
              rw [hL] at hxl hxc hxn
              rw [hL]
              have hsl := hid (show SlIs v5.w (.slice xa L xc) (m.take nn ++ t :: m.drop nn) from ⟨xa, xc, by rw [hxl], hxR, fun h => by rw [hxl]; exact hxn h, by rw [hxl]; exact hxc⟩)
              have HXR := hid hxR; have HXL := hid hxl
              clear hxR hxn hxc hxl hL hown5
              go_wp2_with fail
              refine (rtcheck_any (m.take nn ++ t :: m.drop nn) (L) (HXL.out) xa xc _ (by omega) (HXR.out)).mono ?_
              rintro e w5 ⟨rfl, hB0⟩
              by_cases hg2 : goodB (m.take nn ++ t :: m.drop nn) = true
              · rw [chkT_ok hg2]
                have hg3 := hid hg2; clear hg2
                go_wp2_with fail
                have hg2 := hg3.out
                exact bodyPost_ret (v := .tuple #[.slice xa L xc, .int .i64 0]) (by simp [results, Try.results44, go_sem]) rfl ⟨_, by rw [insE, HX.out, chkT_ok hg2], by rw [insV, HX.out, if_pos hg2]; exact hsl.out.below hB0, b_then (WV.out v5) hB0⟩
              · rw [chkT_90 hg2]
                have hg3 := hid hg2; clear hg2
                go_wp2_with fail
                have hg2 := hg3.out
                exact bodyPost_ret (v := .tuple #[.slice none 0 0, .int .i64 90]) (by simp [results, Try.results44, go_sem]) rfl ⟨_, by rw [insE, HX.out, chkT_90 hg2], by rw [insV, HX.out, if_neg hg2]; exact SlIs.nil _, b_then (WV.out v5) hB0⟩
          · skip
            refine whole_region 13 rfl (by kernel_rfl) ?_
            intro u0
            refine h_take 1 (x := ?_) rfl (by kernel_rfl) (by kernel_rfl) (by kernel_rfl) (fun _ _ _ h => h) (by rfl) (fun v => ?_) ?_
            rotate_left
            · (go_simp; try with_reducible rfl)
            try simp only [Act.put, List.setIfInBounds_toArray, List.set_cons_zero, List.set_cons_succ]
            refine h_take 2 (x := ?_) rfl (by kernel_rfl) (by kernel_rfl) (by kernel_rfl) (fun _ _ _ h => h) (by rfl) (fun v => ?_) ?_
            rotate_left
            · (go_simp; try with_reducible rfl)
            try simp only [Act.put, List.setIfInBounds_toArray, List.set_cons_zero, List.set_cons_succ]
            refine h_take 3 (x := ?_) rfl (by kernel_rfl) (by kernel_rfl) (by kernel_rfl) (fun _ _ _ h => h) (by rfl) (fun v => ?_) ?_
            rotate_left
            · (go_simp; try with_reducible rfl)
            try simp only [Act.put, List.setIfInBounds_toArray, List.set_cons_zero, List.set_cons_succ]
            refine h_take 5 (x := ?_) rfl (by kernel_rfl) (by kernel_rfl) (by kernel_rfl) (fun _ _ _ h => h) (by rfl) (fun v => ?_) ?_
            rotate_left
            · (go_simp; try with_reducible rfl)
            try simp only [Act.put, List.setIfInBounds_toArray, List.set_cons_zero, List.set_cons_succ]
            refine h_take 8 (x := ?_) rfl (by kernel_rfl) (by kernel_rfl) (by kernel_rfl) (fun _ _ _ h => h) (by rfl) (fun v => ?_) ?_
            rotate_left
            · (go_simp; try with_reducible rfl)
            try simp only [Act.put, List.setIfInBounds_toArray, List.set_cons_zero, List.set_cons_succ]
            refine h_take 9 (x := ?_) rfl (by kernel_rfl) (by kernel_rfl) (by kernel_rfl) (fun _ _ _ h => h) (by rfl) (fun v => ?_) ?_
            rotate_left
            · (go_simp; try with_reducible rfl)
            try simp only [Act.put, List.setIfInBounds_toArray, List.set_cons_zero, List.set_cons_succ]
            refine h_take 10 (x := ?_) rfl (by kernel_rfl) (by kernel_rfl) (by kernel_rfl) (fun _ _ _ h => h) (by rfl) (fun v => ?_) ?_
            rotate_left
            · (go_simp; try with_reducible rfl)
            try simp only [Act.put, List.setIfInBounds_toArray, List.set_cons_zero, List.set_cons_succ]
            refine h_two 0 6 (by kernel_rfl) rfl rfl (fun K hK => ?_) (fun K hK => ?_)
            · go_simp
              obtain ⟨v1, hv1⟩ : ∃ y9 : After V, y9.w = u0.w.alloc (.cells #[] 53) := ⟨u0.on (b_alloc (Below.refl _ _) _), rfl⟩
              rw [← hv1]
              have hown1 : v1.w.ownsRow u0.w.heap.size 53 4 (.slice (some ⟨u0.w.heap.size, 0, none⟩) 0 0) 0 [] := by rw [hv1]; exact World.ownsRow_made u0.w #[] 0 (Nat.le_refl _) (by unfold maxLen; omega) (by simp)
              have sz1 : u0.w.heap.size ≤ v1.w.heap.size := by rw [hv1]; simp
              clear hv1
              refine hK _ v1 ?_
              clear hK K
              try simp only [Act.put, List.setIfInBounds_toArray, List.set_cons_zero, List.set_cons_succ]
              refine h_two 4 6 (by kernel_rfl) rfl rfl (fun K hK => ?_) (fun K hK => ?_)
              · refine step_append_rd _ rfl (.tmp 46) (.tmp 49) 48 rfl u0.w.heap.size 53 i0 (.agg #[.int .i64 0, .int .i64 0, .int .i64 0, .bool false]) 4 32 und48 hi hz0 hz1 hz2 rfl (by decide) _ _ _ (by rfl) hown1 _ b _ ((m.take b).flatMap Tp.c) (by rfl) (by rw [flat_len Tp.c 4 Tp.c4, List.length_take, HN.out]; omega) ((RV.out v1).take (b * 4) |> fun h => by rw [flat_takek Tp.c 4 Tp.c4] at h; exact h) (Tp.ones _) (by unfold maxLen; omega) (by omega) sz1 ?_
                intro x2 w' hown2 hgrow
                obtain ⟨v2, rfl, sz2⟩ := After.app u0 v1 hown1 hgrow sz1
                clear hgrow
                refine hK _ v2 ?_
                clear hK K
                try simp only [Act.put, List.setIfInBounds_toArray, List.set_cons_zero, List.set_cons_succ]
                refine h_step 6 (by kernel_rfl) rfl (fun K hK => ?_)
                go_simp
                obtain ⟨v3, hv1⟩ : ∃ y9 : After V, y9.w = v2.w.alloc (.cells #[.int .i64 t.k, .int .i64 t.n, .int .i64 t.d, .bool t.r] 53) := ⟨v2.on (b_alloc (Below.refl _ _) _), rfl⟩
                rw [← hv1]
                have hgx3 : Rd v3.w (some ⟨v2.w.heap.size, 0, none⟩) (Tp.c t) := by rw [hv1]; exact rd_new _ _ _ rfl
                have hgl3 : v2.w.heap.size < v3.w.heap.size := by rw [hv1]; simp
                have sz3 : u0.w.heap.size ≤ v3.w.heap.size := by rw [hv1]; simpa using Nat.le_succ_of_le sz2
                have hown3 := own_eq (own_after hown2 (b_alloc (Below.refl _ _) _)) hv1
                have hne3 := own_far hown2 (v2.w.heap.size) (Nat.le_refl _)
                clear hv1
                refine hK _ v3 ?_
                clear hK K
                try simp only [Act.put, List.setIfInBounds_toArray, List.set_cons_zero, List.set_cons_succ]
                refine h_step 7 (by kernel_rfl) rfl (fun K hK => ?_)
                refine step_append_rd _ rfl (.tmp 50) (.tmp 52) 48 rfl u0.w.heap.size 53 i0 (.agg #[.int .i64 0, .int .i64 0, .int .i64 0, .bool false]) 4 32 und48 hi hz0 hz1 hz2 rfl (by decide) _ _ _ (by rfl) hown3 (some ⟨v2.w.heap.size, 0, none⟩) 1 _ (Tp.c t) (by rfl) rfl hgx3 t.one (by unfold maxLen; omega) (by omega) sz3 ?_
                intro x4 w' hown4 hgrow
                obtain ⟨v4, rfl, sz4⟩ := After.app u0 v3 hown3 hgrow sz3
                clear hgrow
                refine hK _ v4 ?_
                clear hK K
                try simp only [Act.put, List.setIfInBounds_toArray, List.set_cons_zero, List.set_cons_succ]
                refine h_step 11 (by kernel_rfl) rfl (fun K hK => ?_)
                refine step_append_rd _ rfl (.tmp 53) (.tmp 56) 48 rfl u0.w.heap.size 53 i0 (.agg #[.int .i64 0, .int .i64 0, .int .i64 0, .bool false]) 4 32 und48 hi hz0 hz1 hz2 rfl (by decide) _ _ _ (by rfl) hown4 _ (nn - b) _ ((m.drop b).flatMap Tp.c) (by rfl) (by rw [flat_len Tp.c 4 Tp.c4, List.length_drop, HN.out]; try omega) ((RV.out v4).drop (b * 4) |> fun h => by rw [flat_dropk Tp.c 4 Tp.c4] at h; exact h) (Tp.ones _) (by unfold maxLen; omega) (by omega) sz4 ?_
                intro x5 w' hown5 hgrow
                obtain ⟨v5, rfl, sz5⟩ := After.app u0 v4 hown4 hgrow sz4
                clear hgrow
                refine hK _ v5 ?_
                clear hK K
                try simp only [Act.put, List.setIfInBounds_toArray, List.set_cons_zero, List.set_cons_succ]
                refine h_take 12 (x := ?_) rfl (by kernel_rfl) (by kernel_rfl) (by kernel_rfl) (fun _ _ _ h => h) (by rfl) (fun v => ?_) ?_
                rotate_left
                · (go_simp; try with_reducible rfl)
                try simp only [Act.put, List.setIfInBounds_toArray, List.set_cons_zero, List.set_cons_succ]
                refine wpAnyH_done (by kernel_rfl) ?_ _
                refine NoPanic.normal ?_
                have HX := hid (insT_new (m := m) (t := t) (fun x hx => HNO.out x (by omega) (by rw [← HN.out]; exact hx)) HB.out)
                obtain ⟨xa, xc, rfl, hxc, hxn, hxR, -⟩ := own_slice hown5
                have hxR : Rd v5.w xa ((m.take b ++ t :: m.drop b).flatMap Tp.c) := by rw [List.flatMap_append, List.flatMap_cons]; simpa using hxR
                have hxl : (m.take b ++ t :: m.drop b).length = 0 + b + 1 + (nn - b) := by (first | (simp [HN.out]; done) | (simp [HN.out]; omega))
                obtain ⟨L, hL⟩ : ∃ L, 0 + b + 1 + (nn - b) = L := ⟨_, rfl⟩
                have hL2 : L ≤ 81 := by omega
                rw [hL] at hxl hxc hxn
                rw [hL]
                have hsl := hid (show SlIs v5.w (.slice xa L xc) (m.take b ++ t :: m.drop b) from ⟨xa, xc, by rw [hxl], hxR, fun h => by rw [hxl]; exact hxn h, by rw [hxl]; exact hxc⟩)
                have HXR := hid hxR; have HXL := hid hxl
                clear hxR hxn hxc hxl hL hown5
                go_wp2_with fail
                refine (rtcheck_any (m.take b ++ t :: m.drop b) (L) (HXL.out) xa xc _ (by omega) (HXR.out)).mono ?_
                rintro e w5 ⟨rfl, hB0⟩
                by_cases hg2 : goodB (m.take b ++ t :: m.drop b) = true
                · rw [chkT_ok hg2]
                  have hg3 := hid hg2; clear hg2
                  go_wp2_with fail
                  have hg2 := hg3.out
                  exact bodyPost_ret (v := .tuple #[.slice xa L xc, .int .i64 0]) (by simp [results, Try.results44, go_sem]) rfl ⟨_, by rw [insE, HX.out, chkT_ok hg2], by rw [insV, HX.out, if_pos hg2]; exact hsl.out.below hB0, b_then (WV.out v5) hB0⟩
                · rw [chkT_90 hg2]
                  have hg3 := hid hg2; clear hg2
                  go_wp2_with fail
                  have hg2 := hg3.out
                  exact bodyPost_ret (v := .tuple #[.slice none 0 0, .int .i64 90]) (by simp [results, Try.results44, go_sem]) rfl ⟨_, by rw [insE, HX.out, chkT_90 hg2], by rw [insV, HX.out, if_neg hg2]; exact SlIs.nil _, b_then (WV.out v5) hB0⟩
              · go_simp
                obtain ⟨v2, hv1⟩ : ∃ y9 : After V, y9.w = v1.w.alloc (.cells #[.int .i64 t.k, .int .i64 t.n, .int .i64 t.d, .bool t.r] 53) := ⟨v1.on (b_alloc (Below.refl _ _) _), rfl⟩
                rw [← hv1]
                have hgx2 : Rd v2.w (some ⟨v1.w.heap.size, 0, none⟩) (Tp.c t) := by rw [hv1]; exact rd_new _ _ _ rfl
                have hgl2 : v1.w.heap.size < v2.w.heap.size := by rw [hv1]; simp
                have sz2 : u0.w.heap.size ≤ v2.w.heap.size := by rw [hv1]; simpa using Nat.le_succ_of_le sz1
                have hown2 := own_eq (own_after hown1 (b_alloc (Below.refl _ _) _)) hv1
                have hne2 := own_far hown1 (v1.w.heap.size) (Nat.le_refl _)
                clear hv1
                refine hK _ v2 ?_
                clear hK K
                try simp only [Act.put, List.setIfInBounds_toArray, List.set_cons_zero, List.set_cons_succ]
                refine h_step 4 (by kernel_rfl) rfl (fun K hK => ?_)
                refine step_append_rd _ rfl (.tmp 46) (.tmp 49) 48 rfl u0.w.heap.size 53 i0 (.agg #[.int .i64 0, .int .i64 0, .int .i64 0, .bool false]) 4 32 und48 hi hz0 hz1 hz2 rfl (by decide) _ _ _ (by rfl) hown2 _ b _ ((m.take b).flatMap Tp.c) (by rfl) (by rw [flat_len Tp.c 4 Tp.c4, List.length_take, HN.out]; omega) ((RV.out v2).take (b * 4) |> fun h => by rw [flat_takek Tp.c 4 Tp.c4] at h; exact h) (Tp.ones _) (by unfold maxLen; omega) (by omega) sz2 ?_
                intro x3 w' hown3 hgrow
                have hgx3 := rd_grown hgx2 hgrow hne2
                have hgl3 := Nat.lt_of_lt_of_le hgl2 hgrow.size
                obtain ⟨v3, rfl, sz3⟩ := After.app u0 v2 hown2 hgrow sz2
                clear hgrow
                refine hK _ v3 ?_
                clear hK K
                try simp only [Act.put, List.setIfInBounds_toArray, List.set_cons_zero, List.set_cons_succ]
                refine h_step 7 (by kernel_rfl) rfl (fun K hK => ?_)
                refine step_append_rd _ rfl (.tmp 50) (.tmp 52) 48 rfl u0.w.heap.size 53 i0 (.agg #[.int .i64 0, .int .i64 0, .int .i64 0, .bool false]) 4 32 und48 hi hz0 hz1 hz2 rfl (by decide) _ _ _ (by rfl) hown3 (some ⟨v1.w.heap.size, 0, none⟩) 1 _ (Tp.c t) (by rfl) rfl hgx3 t.one (by unfold maxLen; omega) (by omega) sz3 ?_
                intro x4 w' hown4 hgrow
                obtain ⟨v4, rfl, sz4⟩ := After.app u0 v3 hown3 hgrow sz3
                clear hgrow
                refine hK _ v4 ?_
                clear hK K
                try simp only [Act.put, List.setIfInBounds_toArray, List.set_cons_zero, List.set_cons_succ]
                refine h_step 11 (by kernel_rfl) rfl (fun K hK => ?_)
                refine step_append_rd _ rfl (.tmp 53) (.tmp 56) 48 rfl u0.w.heap.size 53 i0 (.agg #[.int .i64 0, .int .i64 0, .int .i64 0, .bool false]) 4 32 und48 hi hz0 hz1 hz2 rfl (by decide) _ _ _ (by rfl) hown4 _ (nn - b) _ ((m.drop b).flatMap Tp.c) (by rfl) (by rw [flat_len Tp.c 4 Tp.c4, List.length_drop, HN.out]; try omega) ((RV.out v4).drop (b * 4) |> fun h => by rw [flat_dropk Tp.c 4 Tp.c4] at h; exact h) (Tp.ones _) (by unfold maxLen; omega) (by omega) sz4 ?_
                intro x5 w' hown5 hgrow
                obtain ⟨v5, rfl, sz5⟩ := After.app u0 v4 hown4 hgrow sz4
                clear hgrow
                refine hK _ v5 ?_
                clear hK K
                try simp only [Act.put, List.setIfInBounds_toArray, List.set_cons_zero, List.set_cons_succ]
                refine h_take 12 (x := ?_) rfl (by kernel_rfl) (by kernel_rfl) (by kernel_rfl) (fun _ _ _ h => h) (by rfl) (fun v => ?_) ?_
                rotate_left
                · (go_simp; try with_reducible rfl)
                try simp only [Act.put, List.setIfInBounds_toArray, List.set_cons_zero, List.set_cons_succ]
                refine wpAnyH_done (by kernel_rfl) ?_ _
                refine NoPanic.normal ?_
                have HX := hid (insT_new (m := m) (t := t) (fun x hx => HNO.out x (by omega) (by rw [← HN.out]; exact hx)) HB.out)
                obtain ⟨xa, xc, rfl, hxc, hxn, hxR, -⟩ := own_slice hown5
                have hxR : Rd v5.w xa ((m.take b ++ t :: m.drop b).flatMap Tp.c) := by rw [List.flatMap_append, List.flatMap_cons]; simpa using hxR
                have hxl : (m.take b ++ t :: m.drop b).length = 0 + b + 1 + (nn - b) := by (first | (simp [HN.out]; done) | (simp [HN.out]; omega))
                obtain ⟨L, hL⟩ : ∃ L, 0 + b + 1 + (nn - b) = L := ⟨_, rfl⟩
                have hL2 : L ≤ 81 := by omega
                rw [hL] at hxl hxc hxn
                rw [hL]
                have hsl := hid (show SlIs v5.w (.slice xa L xc) (m.take b ++ t :: m.drop b) from ⟨xa, xc, by rw [hxl], hxR, fun h => by rw [hxl]; exact hxn h, by rw [hxl]; exact hxc⟩)
                have HXR := hid hxR; have HXL := hid hxl
                clear hxR hxn hxc hxl hL hown5
                go_wp2_with fail
                refine (rtcheck_any (m.take b ++ t :: m.drop b) (L) (HXL.out) xa xc _ (by omega) (HXR.out)).mono ?_
                rintro e w5 ⟨rfl, hB0⟩
                by_cases hg2 : goodB (m.take b ++ t :: m.drop b) = true
                · rw [chkT_ok hg2]
                  have hg3 := hid hg2; clear hg2
                  go_wp2_with fail
                  have hg2 := hg3.out
                  exact bodyPost_ret (v := .tuple #[.slice xa L xc, .int .i64 0]) (by simp [results, Try.results44, go_sem]) rfl ⟨_, by rw [insE, HX.out, chkT_ok hg2], by rw [insV, HX.out, if_pos hg2]; exact hsl.out.below hB0, b_then (WV.out v5) hB0⟩
                · rw [chkT_90 hg2]
                  have hg3 := hid hg2; clear hg2
                  go_wp2_with fail
                  have hg2 := hg3.out
                  exact bodyPost_ret (v := .tuple #[.slice none 0 0, .int .i64 90]) (by simp [results, Try.results44, go_sem]) rfl ⟨_, by rw [insE, HX.out, chkT_90 hg2], by rw [insV, HX.out, if_neg hg2]; exact SlIs.nil _, b_then (WV.out v5) hB0⟩
            · go_simp
              obtain ⟨v1, hv1⟩ : ∃ y9 : After V, y9.w = u0.w.alloc (.cells #[.int .i64 t.k, .int .i64 t.n, .int .i64 t.d, .bool t.r] 53) := ⟨u0.on (b_alloc (Below.refl _ _) _), rfl⟩
              rw [← hv1]
              have hgx1 : Rd v1.w (some ⟨u0.w.heap.size, 0, none⟩) (Tp.c t) := by rw [hv1]; exact rd_new _ _ _ rfl
              have hgl1 : u0.w.heap.size < v1.w.heap.size := by rw [hv1]; simp
              have sz1 : u0.w.heap.size ≤ v1.w.heap.size := by rw [hv1]; simp
              clear hv1
              refine hK _ v1 ?_
              clear hK K
              try simp only [Act.put, List.setIfInBounds_toArray, List.set_cons_zero, List.set_cons_succ]
              refine h_step 0 (by kernel_rfl) rfl (fun K hK => ?_)
              go_simp
              obtain ⟨v2, hv1⟩ : ∃ y9 : After V, y9.w = v1.w.alloc (.cells #[] 53) := ⟨v1.on (b_alloc (Below.refl _ _) _), rfl⟩
              rw [← hv1]
              have hown2 : v2.w.ownsRow u0.w.heap.size 53 4 (.slice (some ⟨v1.w.heap.size, 0, none⟩) 0 0) 0 [] := by rw [hv1]; exact World.ownsRow_made v1.w #[] 0 sz1 (by unfold maxLen; omega) (by simp)
              have sz2 : u0.w.heap.size ≤ v2.w.heap.size := by rw [hv1]; simpa using Nat.le_succ_of_le sz1
              have hgx2 : Rd v2.w (some ⟨u0.w.heap.size, 0, none⟩) (Tp.c t) := by rw [hv1]; exact hgx1.alloc _
              have hne2 : ∀ g off, (some ⟨u0.w.heap.size, 0, none⟩ : Option Addr) = some ⟨g, off, none⟩ → (Value.slice (some ⟨v1.w.heap.size, 0, none⟩) 0 0).ownBlock ≠ some g := fun g off h => by have := hgl1; simp only [Option.some.injEq, Addr.mk.injEq] at h; simp only [Value.ownBlock, ne_eq, Option.some.injEq]; omega
              have hgl2 : u0.w.heap.size < v2.w.heap.size := Nat.lt_of_lt_of_le hgl1 (by rw [hv1]; simp)
              clear hv1
              refine hK _ v2 ?_
              clear hK K
              try simp only [Act.put, List.setIfInBounds_toArray, List.set_cons_zero, List.set_cons_succ]
              refine h_step 4 (by kernel_rfl) rfl (fun K hK => ?_)
              refine step_append_rd _ rfl (.tmp 46) (.tmp 49) 48 rfl u0.w.heap.size 53 i0 (.agg #[.int .i64 0, .int .i64 0, .int .i64 0, .bool false]) 4 32 und48 hi hz0 hz1 hz2 rfl (by decide) _ _ _ (by rfl) hown2 _ b _ ((m.take b).flatMap Tp.c) (by rfl) (by rw [flat_len Tp.c 4 Tp.c4, List.length_take, HN.out]; omega) ((RV.out v2).take (b * 4) |> fun h => by rw [flat_takek Tp.c 4 Tp.c4] at h; exact h) (Tp.ones _) (by unfold maxLen; omega) (by omega) sz2 ?_
              intro x3 w' hown3 hgrow
              have hgx3 := rd_grown hgx2 hgrow hne2
              have hgl3 := Nat.lt_of_lt_of_le hgl2 hgrow.size
              obtain ⟨v3, rfl, sz3⟩ := After.app u0 v2 hown2 hgrow sz2
              clear hgrow
              refine hK _ v3 ?_
              clear hK K
              try simp only [Act.put, List.setIfInBounds_toArray, List.set_cons_zero, List.set_cons_succ]
              refine h_step 7 (by kernel_rfl) rfl (fun K hK => ?_)
              refine step_append_rd _ rfl (.tmp 50) (.tmp 52) 48 rfl u0.w.heap.size 53 i0 (.agg #[.int .i64 0, .int .i64 0, .int .i64 0, .bool false]) 4 32 und48 hi hz0 hz1 hz2 rfl (by decide) _ _ _ (by rfl) hown3 (some ⟨u0.w.heap.size, 0, none⟩) 1 _ (Tp.c t) (by rfl) rfl hgx3 t.one (by unfold maxLen; omega) (by omega) sz3 ?_
              intro x4 w' hown4 hgrow
              obtain ⟨v4, rfl, sz4⟩ := After.app u0 v3 hown3 hgrow sz3
              clear hgrow
              refine hK _ v4 ?_
              clear hK K
              try simp only [Act.put, List.setIfInBounds_toArray, List.set_cons_zero, List.set_cons_succ]
              refine h_step 11 (by kernel_rfl) rfl (fun K hK => ?_)
              refine step_append_rd _ rfl (.tmp 53) (.tmp 56) 48 rfl u0.w.heap.size 53 i0 (.agg #[.int .i64 0, .int .i64 0, .int .i64 0, .bool false]) 4 32 und48 hi hz0 hz1 hz2 rfl (by decide) _ _ _ (by rfl) hown4 _ (nn - b) _ ((m.drop b).flatMap Tp.c) (by rfl) (by rw [flat_len Tp.c 4 Tp.c4, List.length_drop, HN.out]; try omega) ((RV.out v4).drop (b * 4) |> fun h => by rw [flat_dropk Tp.c 4 Tp.c4] at h; exact h) (Tp.ones _) (by unfold maxLen; omega) (by omega) sz4 ?_
              intro x5 w' hown5 hgrow
              obtain ⟨v5, rfl, sz5⟩ := After.app u0 v4 hown4 hgrow sz4
              clear hgrow
              refine hK _ v5 ?_
              clear hK K
              try simp only [Act.put, List.setIfInBounds_toArray, List.set_cons_zero, List.set_cons_succ]
              refine h_take 12 (x := ?_) rfl (by kernel_rfl) (by kernel_rfl) (by kernel_rfl) (fun _ _ _ h => h) (by rfl) (fun v => ?_) ?_
              rotate_left
              · (go_simp; try with_reducible rfl)
              try simp only [Act.put, List.setIfInBounds_toArray, List.set_cons_zero, List.set_cons_succ]
              refine wpAnyH_done (by kernel_rfl) ?_ _
              refine NoPanic.normal ?_
              have HX := hid (insT_new (m := m) (t := t) (fun x hx => HNO.out x (by omega) (by rw [← HN.out]; exact hx)) HB.out)
              obtain ⟨xa, xc, rfl, hxc, hxn, hxR, -⟩ := own_slice hown5
              have hxR : Rd v5.w xa ((m.take b ++ t :: m.drop b).flatMap Tp.c) := by rw [List.flatMap_append, List.flatMap_cons]; simpa using hxR
              have hxl : (m.take b ++ t :: m.drop b).length = 0 + b + 1 + (nn - b) := by (first | (simp [HN.out]; done) | (simp [HN.out]; omega))
              obtain ⟨L, hL⟩ : ∃ L, 0 + b + 1 + (nn - b) = L := ⟨_, rfl⟩
              have hL2 : L ≤ 81 := by omega
              rw [hL] at hxl hxc hxn
              rw [hL]
              have hsl := hid (show SlIs v5.w (.slice xa L xc) (m.take b ++ t :: m.drop b) from ⟨xa, xc, by rw [hxl], hxR, fun h => by rw [hxl]; exact hxn h, by rw [hxl]; exact hxc⟩)
              have HXR := hid hxR; have HXL := hid hxl
              clear hxR hxn hxc hxl hL hown5
              go_wp2_with fail
              refine (rtcheck_any (m.take b ++ t :: m.drop b) (L) (HXL.out) xa xc _ (by omega) (HXR.out)).mono ?_
              rintro e w5 ⟨rfl, hB0⟩
              by_cases hg2 : goodB (m.take b ++ t :: m.drop b) = true
              · rw [chkT_ok hg2]
                have hg3 := hid hg2; clear hg2
                go_wp2_with fail
                have hg2 := hg3.out
                exact bodyPost_ret (v := .tuple #[.slice xa L xc, .int .i64 0]) (by simp [results, Try.results44, go_sem]) rfl ⟨_, by rw [insE, HX.out, chkT_ok hg2], by rw [insV, HX.out, if_pos hg2]; exact hsl.out.below hB0, b_then (WV.out v5) hB0⟩
              · rw [chkT_90 hg2]
                have hg3 := hid hg2; clear hg2
                go_wp2_with fail
                have hg2 := hg3.out
                exact bodyPost_ret (v := .tuple #[.slice none 0 0, .int .i64 90]) (by simp [results, Try.results44, go_sem]) rfl ⟨_, by rw [insE, HX.out, chkT_90 hg2], by rw [insV, HX.out, if_neg hg2]; exact SlIs.nil _, b_then (WV.out v5) hB0⟩
      · have hj0 : (0 : Int) ≤ (j : Int) := by omega
        go_upto_region 11 with (at_builtin; refine wpList_append_rd _ rfl (.tmp 37) (.tmp 38) 48 rfl V.heap.size 53 i0 (.agg #[.int .i64 0, .int .i64 0, .int .i64 0, .bool false]) 4 32 und48 hi hz0 hz1 hz2 rfl (by decide) _ _ _ rfl (World.ownsRow_made z.w #[] 0 z.w_below.size (by unfold maxLen; omega) (by simp)) a nn c (m.flatMap Tp.c) rfl (by rw [flat_len Tp.c 4 Tp.c4, HN.out]) ((RV.out z).alloc _) (Tp.ones _) (by unfold maxLen; omega) (by omega) (by have := z.w_below.size; simp; omega) ?_; intro v8 w8 ho8 hgrow)
        have ho8 : w8.ownsRow V.heap.size 53 4 v8 nn (m.flatMap Tp.c) := by simpa using ho8
        obtain ⟨u2, rfl⟩ : ∃ y9 : After V, w8 = y9.w := ⟨After.to (Below.trans (z.w_below.alloc z.w_below.size _) (own_below (World.ownsRow_made z.w #[] 0 (base := V.heap.size) (size := 4) z.w_below.size (by unfold maxLen; omega) (by simp)) hgrow (by have := z.w_below.size; simp; omega))), rfl⟩
        clear hgrow
        have hX := insT_same (m := m) (t := t) (by rw [HN.out]; exact hj) h1 (fun x hx => h2 x (by omega) hx)
        have HX := hid hX; clear hX h1 h2
        have hwV1 := hwV.size
        obtain ⟨va8, vc8, hva8, -, -, hrow0, -⟩ := own_slice ho8
        obtain ⟨hl8, h8⟩ := ho8
        rcases h8 with ⟨hv, hz⟩ | ⟨g, cap, cur, hv, hg, hh, hnc, hm8, hs8, ht8⟩
        · omega
        subst hv
        have hrd : Rd u2.w (some ⟨g, 0, none⟩) (m.flatMap Tp.c) := by cases hva8; exact hrow0
        have hlen : (m.flatMap Tp.c).length = nn * 4 := by rw [flat_len Tp.c 4 Tp.c4, HN.out]
        have hcell : ∀ o, o < 4 → ∃ u, u2.w.cell? ⟨g, j * 4 + o, none⟩ = some u := fun o ho => by
          obtain ⟨b', off', e', _, hc'⟩ := hrd.at_ (j := 0) (by omega)
          cases e'
          have := hc' (j * 4 + o) _ (List.getElem?_eq_getElem (by omega))
          rw [Nat.zero_add] at this
          exact ⟨_, this⟩
        obtain ⟨y0, hy0⟩ := hcell 0 (by omega)
        obtain ⟨y1, hy1⟩ := hcell 1 (by omega)
        obtain ⟨y2, hy2⟩ := hcell 2 (by omega)
        obtain ⟨y3, hy3⟩ := hcell 3 (by omega)
        rw [Nat.add_zero] at hy0
        have hfz : ∀ o, u2.w.frozen? ⟨g, o, none⟩ = false := fun o => by simp [World.frozen?, hh]
        have hz0 := hfz (j * 4)
        have hz1 := hfz (j * 4 + 1)
        have hz2 := hfz (j * 4 + 2)
        have hz3 := hfz (j * 4 + 3)
        have q0 := t0 u2
        have q1 := t1 u2
        have q2 := t2 u2
        have q3 := t3 u2
        have HRD := hid (rd_elem (t := t) (by rw [HN.out]; exact hj) hrd)
        have HNC := hid (show nn ≤ cap from hnc)
        have hgw : w.heap.size ≤ g := by omega
        have hii : (j : Int) < (nn : Int) := by omega
        clear hcell hfz hlen hrd hrow0 hva8 hl8 hh hs8 ht8 hm8 hg hnc
        go_wp2_with fail
        refine (rtcheck_any (m.set j t) (nn) (by rw [List.length_set]; exact HN.out) (some ⟨g, 0, none⟩) cap _ (by omega) (HRD.out)).mono ?_
        rintro e w7 ⟨rfl, hB0⟩
        by_cases hg2 : goodB (m.set j t) = true
        · rw [chkT_ok hg2]
          have hg3 := hid hg2; clear hg2
          go_wp2_with fail
          have hg2 := hg3.out
          exact bodyPost_ret (v := .tuple #[.slice (some ⟨g, 0, none⟩) nn cap, .int .i64 0]) (by simp [results, Try.results44, go_sem]) rfl ⟨_, by rw [insE, HX.out, chkT_ok hg2], by rw [insV, HX.out, if_pos hg2]; exact (SlIs.below ⟨some ⟨g, 0, none⟩, cap, by rw [List.length_set, HN.out], HRD.out, fun h => by simp at h, by rw [List.length_set, HN.out]; exact HNC.out⟩ hB0), b_then (b_set (b_set (b_set (b_set (WV.out u2) hgw _) hgw _) hgw _) hgw _) hB0⟩
        · rw [chkT_90 hg2]
          have hg3 := hid hg2; clear hg2
          go_wp2_with fail
          have hg2 := hg3.out
          exact bodyPost_ret (v := .tuple #[.slice none 0 0, .int .i64 90]) (by simp [results, Try.results44, go_sem]) rfl ⟨_, by rw [insE, HX.out, chkT_90 hg2], by rw [insV, HX.out, if_neg hg2]; exact SlIs.nil _, b_then (b_set (b_set (b_set (b_set (WV.out u2) hgw _) hgw _) hgw _) hgw _) hB0⟩
end Go.Proofs.Ytbppajenihjfhaa
