/- slices.Insert at points: no room. -/
import Derived.Test.YtdnjpfjiaomlgaaQ1
import Derived.IntWalk
namespace Go.Proofs.Ytdnjpfjiaomlgaa
open Go.RowKit
open Go.Lib (hid)

set_option maxRecDepth 100000 in
set_option maxHeartbeats 4000000 in
theorem sins_grow (xs : List Rc) (t : Rc) (n i g gb vc B : Nat) (cur : Array Value) (hn : xs.length = n) (hi : i < n) (hcap : n * 40 ≤ 140737488351232) (w : World) (hB : B ≤ w.heap.size) (hg : w.heap[g]? = some (.cells cur 24 (0, 0))) (_hs : cur.size = n * 5) (ht : cur.toList.take (n * 5) = xs.flatMap Rc.cs)
    (hgb : w.heap[gb]? = some (.cells t.cs.toArray 24 (0, 0))) (_hne : gb ≠ g) :
    Calls Try.prog 34 #[.slice (some ⟨g, 0, none⟩) n n, .int .i64 i, .slice (some ⟨gb, 0, none⟩) 1 vc] w fun e w' => ∃ v', e = .returned v' ∧ w'.ownsRow B 24 5 v' (n + 1) ((xs.take i ++ t :: xs.drop i).flatMap Rc.cs) ∧ Below B w w' := by
  have hlt := (Array.getElem?_eq_some_iff.1 hg).1
  have hlb := (Array.getElem?_eq_some_iff.1 hgb).1
  obtain ⟨i0, hi0, hz0, hzs, hzb⟩ := info_parts info24
  have htl : ((xs.take i).flatMap Rc.cs).length = i * 5 := by rw [flat_len Rc.cs 5 Rc.c5, List.length_take, hn]; congr 1; omega
  have hdl : ((xs.drop i).flatMap Rc.cs).length = (n - i) * 5 := by rw [flat_len Rc.cs 5 Rc.c5, List.length_drop, hn]
  have hcur : ∀ W : World, W.heap[g]? = some (.cells cur 24 (0, 0)) → ∀ j u, (xs.flatMap Rc.cs)[j]? = some u → W.cell? ⟨g, j, none⟩ = some u := fun W hW j u hj => by
    rw [cell_of_row W g _ cur 24 (0, 0) hW]
    rw [← ht, List.getElem?_take] at hj
    split at hj
    · simpa using hj
    · cases hj
  have hold : (Builtin.firstCells i0.size i (.slice (some ⟨g, 0, none⟩) i n)).run Try.prog w.drew = .ok ((xs.take i).flatMap Rc.cs).toArray w.drew := by
    rw [hzs]
    exact run_firstCells_some w.drew 5 i ⟨g, 0, none⟩ i n ((xs.take i).flatMap Rc.cs) htl (fun j u hj => by
      rw [Addr.add_lit, Nat.zero_add]
      rw [← flat_takek Rc.cs 5 Rc.c5, List.getElem?_take] at hj
      split at hj
      · exact hcur w.drew hg j u hj
      · cases hj)
  have hik : i + (n + 1 - i) = n + 1 := by omega
  obtain ⟨G, hG⟩ : ∃ G, G = grownCap w (n + 1) n 24 := ⟨_, rfl⟩
  obtain ⟨ROW, hROW⟩ : ∃ ROW : Array Value, ROW = ((xs.take i).flatMap Rc.cs).toArray ++ Builtin.zeroCells (Value.agg #[.int .i64 0, .int .i64 0, .int .i64 0, .int .i64 0, .int .i64 0]).cells (n + 1 - i) ++ Builtin.zeroCells (Value.agg #[.int .i64 0, .int .i64 0, .int .i64 0, .int .i64 0, .int .i64 0]).cells (G - (n + 1)) := ⟨_, rfl⟩
  have hrz : ∀ ty, (Builtin.append_ #[22, 3] ty #[.slice (some ⟨g, 0, none⟩) i n, .int .i64 ((n + 1 - i : Nat) : Int)]).run Try.prog w = .ok (.slice (some ⟨w.heap.size, 0, none⟩) (n + 1) G) (w.drew.alloc (.cells ROW 24)) := fun ty => by
    have h := Lib.run_append_grow_zeros w 22 3 ty 24 i0 _ .i64 .i64 und22 Try.underlying3 hi0 hz0 (some ⟨g, 0, none⟩) i n ((xs.take i).flatMap Rc.cs) hold (n + 1 - i) (by omega) (by omega) (by omega) (by omega) (by rw [hzb]; omega) (by rw [hzb, hik]; exact growslice_fits (by omega) (by omega))
    rw [hik, ← hG, ← hROW] at h
    exact h
  have hGn : n + 1 ≤ G := by rw [hG]; exact grownCap_ge w _ _ _
  have hG63 : G ≤ 9223372036854775807 := by
    have := grownCap_le_maxLen w (n + 1) n 24 (by unfold maxLen; omega)
    rw [← hG] at this
    unfold maxLen at this
    omega
  have hRs : ROW.size = G * 5 := by
    rw [hROW]
    simp [Builtin.zeroCells, Value.cells, htl]
    omega
  have hRt : ROW.toList.take (i * 5) = (xs.take i).flatMap Rc.cs := by
    rw [hROW]
    simp only [Array.toList_append]
    rw [List.append_assoc, List.take_append_of_le_length (by simp [htl])]
    exact List.take_of_length_le (by simp [htl])
  obtain ⟨N, hN⟩ : ∃ N, N = w.heap.size := ⟨_, rfl⟩
  obtain ⟨W1, hW1⟩ : ∃ W1, W1 = w.drew.alloc (.cells ROW 24) := ⟨_, rfl⟩
  have hW1N : W1.heap[N]? = some (.cells ROW 24 (0, 0)) := by rw [hW1, hN]; exact World.alloc_heap_new w.drew _
  have hwW1 : Below w.heap.size w W1 := by rw [hW1]; exact b_alloc (b_drew (Below.refl _ _)) _
  rw [← hW1, ← hN] at hrz
  obtain ⟨rA, hrA⟩ : ∃ rA : Array Value, rA = (ROW.toList.take (i * 5) ++ t.cs ++ ROW.toList.drop (i * 5 + t.cs.length)).toArray := ⟨_, rfl⟩
  have hcpA : ∀ ty dl dc, Nat.min 1 dl = 1 → (Builtin.copy_ #[22, 22] ty #[.slice (some ⟨N, i * 5, none⟩) dl dc, .slice (some ⟨gb, 0, none⟩) 1 vc]).run Try.prog W1 = .ok (goInt ((1 : Nat) : Int)) (W1.setRow N rA) := fun ty dl dc hd => by
    have h := run_copy_rowk W1 22 22 ty 24 5 N (i * 5) dl dc ⟨gb, 0, none⟩ 1 vc ROW 24 t.cs und22 size24 hW1N (by rw [Rc.c5, hd]) (fun j u hj => by
      rw [Addr.add_lit, cell_of_row W1 gb _ t.cs.toArray 24 (0, 0) ((hwW1.block gb hlb).trans hgb)]
      simpa using hj) (by rw [Rc.c5, hRs]; omega) t.one
    rw [h, hrA, hd]
  have hsA : rA.size = G * 5 := by rw [hrA]; simp [hRs, Rc.c5]; omega
  obtain ⟨V, hV⟩ : ∃ V, V = W1.setRow N rA := ⟨_, rfl⟩
  have hVN : V.heap[N]? = some (.cells rA 24 (0, 0)) := by rw [hV]; exact setRow_heap W1 N ROW rA 24 (0, 0) hW1N
  have hwV : Below w.heap.size w V := by rw [hV]; exact below_setRow hwW1 (by omega) rA
  rw [← hV] at hcpA
  have hVz : w.heap.size < V.heap.size := by rw [hV, setRow_size, hW1]; simp
  obtain ⟨rB, hrB⟩ : ∃ rB : Array Value, rB = (rA.toList.take ((i + 1) * 5) ++ (xs.drop i).flatMap Rc.cs ++ rA.toList.drop ((i + 1) * 5 + ((xs.drop i).flatMap Rc.cs).length)).toArray := ⟨_, rfl⟩
  have hcpB : ∀ v : After V, ∀ ty dl dc sl sc, Nat.min sl dl = n - i → (Builtin.copy_ #[22, 22] ty #[.slice (some ⟨N, (i + 1) * 5, none⟩) dl dc, .slice (some ⟨g, i * 5, none⟩) sl sc]).run Try.prog v.w = .ok (goInt ((n - i : Nat) : Int)) (v.w.setRow N rB) := fun v ty dl dc sl sc hd => by
    have h := run_copy_rowk v.w 22 22 ty 24 5 N ((i + 1) * 5) dl dc ⟨g, i * 5, none⟩ sl sc rA 24 ((xs.drop i).flatMap Rc.cs) und22 size24 ((v.2.block N (by omega)).trans hVN) (by rw [hdl, hd]) (fun j u hj => by
      rw [Addr.add_lit]
      refine hcur v.w (((b_then hwV v.2).block g hlt).trans hg) _ u ?_
      rw [← flat_dropk Rc.cs 5 Rc.c5, List.getElem?_drop] at hj
      exact hj) (by rw [hdl, hsA]; omega) (Rc.ones _)
    rw [h, hrB, hd]
  have hsB : rB.size = G * 5 := by rw [hrB]; simp [hsA, hdl]; omega
  have hend : rB.toList.take ((n + 1) * 5) = (xs.take i ++ t :: xs.drop i).flatMap Rc.cs := by
    have e1 : rA.toList.take ((i + 1) * 5) = (xs.take i).flatMap Rc.cs ++ t.cs := by
      rw [hrA, hRt]
      rw [List.take_append_of_le_length (by simp [htl, Rc.c5]; omega)]
      exact List.take_of_length_le (by simp [htl, Rc.c5]; omega)
    rw [hrB, e1, List.flatMap_append, List.flatMap_cons, ← List.append_assoc, List.take_append_of_le_length (by simp [hdl, htl, Rc.c5]; omega)]
    exact List.take_of_length_le (by simp [hdl, htl, Rc.c5]; omega)
  have hfin : ∀ v : After V, (v.w.setRow N rB).heap[N]? = some (.cells rB 24 (0, 0)) := fun v => setRow_heap v.w N rA rB 24 (0, 0) ((v.2.block N (by omega)).trans hVN)
  have HEND := hid hend; have HSB := hid hsB
  have HLEN := hid (show ((xs.take i ++ t :: xs.drop i).flatMap Rc.cs).length = (n + 1) * 5 by rw [flat_len Rc.cs 5 Rc.c5]; simp [hn]; omega)
  have HNN := hid hN
  clear hrA hrB hsA hsB hend hdl htl hold hRs hRt hROW hG hV hW1 hVN hW1N hcur
  have d1 : ((i : Int) == (n : Int)) = false := beq_eq_false_iff_ne.2 (by omega)
  have d1' : (i == n) = false := beq_eq_false_iff_ne.2 (by omega)
  have d2 : decide ((n : Int) < (n : Int) + 1) = true := decide_eq_true (by omega)
  have b1 : ((i : Nat) : Int) ≤ (n : Int) := by omega
  have b2 : ¬ n = i := by omega
  have b6 : (0 : Int) ≤ (i : Int) + 1 := by omega
  have b7 : (((i : Nat) : Int) + 1).toNat = i + 1 := rfl
  have b8 : (i : Int) + 1 ≤ (n : Int) + 1 := by omega
  have b9 : ¬ G = i + 1 := by omega
  have b10 : (i : Int) ≤ (n : Int) + 1 := by omega
  have b11 : ¬ G = i := by omega
  have b12 : (n : Int) + 1 - (i : Int) = ((n + 1 - i : Nat) : Int) := by omega
  have b13 : (i : Int) ≤ (G : Int) := by omega
  have w1 : IntKind.i64.wrap ((i : Int) + 1) = (i : Int) + 1 := IntWalk.i64_in _ (by omega)
  have r2 := hcpA 3 (n + 1 - i) (G - i) (by simp only [Nat.min_def]; split <;> omega)
  clear hcpA hN
  go_enter Try.func34, Try.ntmps34
  go_wp2_with (at_builtin; refine Lib.wpList_append_run _ rfl (.tmp 34) (.tmp 39) 22 3 rfl _ _ rfl rfl _ _ (hrz _) ?_)
  obtain ⟨u, hu⟩ : ∃ u : After V, u.w = V := ⟨After.here V, rfl⟩
  rw [← hu]
  clear hu
  refine region_split 8 (by kernel_rfl) (by kernel_rfl) rfl ?_
  intro u0
  simp only [List.take_succ_cons, List.take_zero]
  refine h_take 0 (x := ?_) rfl (by kernel_rfl) (by kernel_rfl) (by kernel_rfl) (fun _ _ _ h => h) (by rfl) (fun v => ?_) ?_
  rotate_left
  · (go_simp; try with_reducible rfl)
  try simp only [Act.put, List.setIfInBounds_toArray, List.set_cons_zero, List.set_cons_succ]
  refine h_take 1 (x := ?_) rfl (by kernel_rfl) (by kernel_rfl) (by kernel_rfl) (fun _ _ _ h => h) (by rfl) (fun v => ?_) ?_
  rotate_left
  · (go_simp; try with_reducible rfl)
  try simp only [Act.put, List.setIfInBounds_toArray, List.set_cons_zero, List.set_cons_succ]
  refine h_take 2 (x := ?_) rfl (by kernel_rfl) (by kernel_rfl) (by kernel_rfl) (fun _ _ _ h => h) (by rfl) (fun v => ?_) ?_
  rotate_left
  · (go_simp; try with_reducible rfl)
  try simp only [Act.put, List.setIfInBounds_toArray, List.set_cons_zero, List.set_cons_succ]
  refine h_take 3 (x := ?_) rfl (by kernel_rfl) (by kernel_rfl) (by kernel_rfl) (fun _ _ _ h => h) (by rfl) (fun v => ?_) ?_
  rotate_left
  · (go_simp; try with_reducible rfl)
  try simp only [Act.put, List.setIfInBounds_toArray, List.set_cons_zero, List.set_cons_succ]
  refine h_take 4 (x := ?_) rfl (by kernel_rfl) (by kernel_rfl) (by kernel_rfl) (fun _ _ _ h => h) (by rfl) (fun v => ?_) ?_
  rotate_left
  · (go_simp; try with_reducible rfl)
  try simp only [Act.put, List.setIfInBounds_toArray, List.set_cons_zero, List.set_cons_succ]
  refine h_take 5 (x := ?_) rfl (by kernel_rfl) (by kernel_rfl) (by kernel_rfl) (fun _ _ _ h => h) (by rfl) (fun v => ?_) ?_
  rotate_left
  · (go_simp; try with_reducible rfl)
  try simp only [Act.put, List.setIfInBounds_toArray, List.set_cons_zero, List.set_cons_succ]
  refine h_take 6 (x := ?_) rfl (by kernel_rfl) (by kernel_rfl) (by kernel_rfl) (fun _ _ _ h => h) (by rfl) (fun v => ?_) ?_
  rotate_left
  · (go_simp; try with_reducible rfl)
  try simp only [Act.put, List.setIfInBounds_toArray, List.set_cons_zero, List.set_cons_succ]
  refine h_take 7 (x := ?_) rfl (by kernel_rfl) (by kernel_rfl) (by kernel_rfl) (fun _ _ _ h => h) (by rfl) (fun v => ?_) ?_
  rotate_left
  · (go_simp; try with_reducible rfl)
  try simp only [Act.put, List.setIfInBounds_toArray, List.set_cons_zero, List.set_cons_succ]
  refine tail_go (by kernel_rfl) ?_
  refine tail_in ?_
  refine t_step 8 (by kernel_rfl) rfl (fun K hK => ?_)
  refine step_copy_runI rfl (.tmp 50) (.tmp 53) 22 22 rfl _ _ (by rfl) (by rfl) (hcpB u0 _ _ _ _ _ (by simp only [Nat.min_def]; split <;> omega)) ?_
  refine hK _ _ ?_
  clear hK K
  try simp only [Act.put, List.setIfInBounds_toArray, List.set_cons_zero, List.set_cons_succ]
  refine wpAnyH_done (by kernel_rfl) ?_ _
  refine NoPanic.normal ?_
  have hf := hfin u0
  have hb := b_then hwV u0.2
  go_wp2_with fail
  exact bodyPost_ret (v := .slice (some ⟨N, 0, none⟩) (n + 1) G) (by simp [results, Try.results34, go_sem]) rfl ⟨_, rfl, ⟨by rw [HLEN.out], .inr ⟨N, G, rB, rfl, by have := HNN.out; omega, hf, by omega, by unfold maxLen; omega, HSB.out, HEND.out⟩⟩, below_setRow (hb.mono hB) (by have := HNN.out; omega) rB⟩
set_option maxRecDepth 100000 in
set_option maxHeartbeats 4000000 in
theorem sins_end (xs : List Rc) (t : Rc) (n gb vc B : Nat) (v : Value) (sa : Option Addr) (sc : Nat) (hv : v = .slice sa n sc) (hn : xs.length = n) (hcap : n * 40 ≤ 140737488351232) (w : World) (hB : B ≤ w.heap.size) (hnc : n ≤ sc) (ho : w.ownsRow B 24 5 v n (xs.flatMap Rc.cs))
    (hgb : w.heap[gb]? = some (.cells t.cs.toArray 24 (0, 0))) :
    Calls Try.prog 34 #[v, .int .i64 n, .slice (some ⟨gb, 0, none⟩) 1 vc] w fun e w' => ∃ v', e = .returned v' ∧ w'.ownsRow B 24 5 v' (n + 1) ((xs ++ [t]).flatMap Rc.cs) ∧ Below B w w' := by
  have hlb := (Array.getElem?_eq_some_iff.1 hgb).1
  obtain ⟨i0, hi, hz0, hz1, hz2⟩ := info_parts info24
  have hrd : Rd w (some ⟨gb, 0, none⟩) t.cs := .inr ⟨gb, 0, rfl, hlb, fun j u hj => by
    rw [Nat.zero_add, cell_of_row w gb _ t.cs.toArray 24 (0, 0) hgb]
    simpa using hj⟩
  have HO := hid ho; have HR := hid hrd
  clear ho hrd
  subst hv
  have b1 : ((n : Nat) : Int) ≤ (sc : Int) := by omega
  go_enter Try.func34, Try.ntmps34
  by_cases h4 : sc = n
  · subst h4
    go_wp2_with (at_builtin; refine wpList_append_rd _ rfl (.tmp 23) (.tmp 24) 22 rfl B 24 i0 (.agg #[.int .i64 0, .int .i64 0, .int .i64 0, .int .i64 0, .int .i64 0]) 5 40 und22 hi hz0 hz1 hz2 rfl (by decide) _ _ _ rfl HO.out (some ⟨gb, 0, none⟩) 1 vc t.cs rfl rfl HR.out t.one (by unfold maxLen; omega) (by omega) hB ?_; intro v' w1 hown' hgrow)
    exact bodyPost_ret (v := v') (by simp [results, Try.results34, go_sem]) rfl ⟨v', rfl, by rw [List.flatMap_append]; simpa using hown', own_below HO.out hgrow hB⟩
  · go_wp2_with (at_builtin; refine wpList_append_rd _ rfl (.tmp 23) (.tmp 24) 22 rfl B 24 i0 (.agg #[.int .i64 0, .int .i64 0, .int .i64 0, .int .i64 0, .int .i64 0]) 5 40 und22 hi hz0 hz1 hz2 rfl (by decide) _ _ _ rfl HO.out (some ⟨gb, 0, none⟩) 1 vc t.cs rfl rfl HR.out t.one (by unfold maxLen; omega) (by omega) hB ?_; intro v' w1 hown' hgrow)
    exact bodyPost_ret (v := v') (by simp [results, Try.results34, go_sem]) rfl ⟨v', rfl, by rw [List.flatMap_append]; simpa using hown', own_below HO.out hgrow hB⟩

/-- slices.Insert of one point into a row of the call's own. -/
theorem sins_any (xs : List Rc) (t : Rc) (n i gb vc B : Nat) (v : Value) (hn : xs.length = n) (hi : i ≤ n) (hcap : n * 40 ≤ 140737488351232) (w : World) (hB : B ≤ w.heap.size) (ho : w.ownsRow B 24 5 v n (xs.flatMap Rc.cs))
    (hgb : w.heap[gb]? = some (.cells t.cs.toArray 24 (0, 0))) (hne : v.ownBlock ≠ some gb) :
    Calls Try.prog 34 #[v, .int .i64 i, .slice (some ⟨gb, 0, none⟩) 1 vc] w fun e w' => ∃ v', e = .returned v' ∧ w'.ownsRow B 24 5 v' (n + 1) ((xs.take i ++ t :: xs.drop i).flatMap Rc.cs) ∧ Below B w w' := by
  by_cases hin : i = n
  · subst hin
    obtain ⟨sa, sc, hv, hsc, _⟩ := own_slice ho
    have h := sins_end xs t i gb vc B v sa sc hv hn hcap w hB hsc ho hgb
    rw [← hn, List.take_length, List.drop_length, hn]
    exact h
  · obtain ⟨hl, h2⟩ := ho
    rcases h2 with ⟨hv, hz⟩ | ⟨g, cap, cur, hv, hg, hh, hnc, hm, hs, ht⟩
    · omega
    · subst hv
      have hgne : gb ≠ g := fun e => hne (by rw [e]; rfl)
      by_cases hroom : n + 1 ≤ cap
      · refine (sins_room xs t n i cap g gb vc cur hn (by omega) hroom (by unfold maxLen at hm; omega) w hh hs ht hgb hgne).mono ?_
        rintro e w' ⟨row, rfl, r1, r2, r3, r4⟩
        exact ⟨_, rfl, ⟨by rw [flat_len Rc.cs 5 Rc.c5]; simp [hn]; omega, .inr ⟨g, cap, row, rfl, hg, r3, hroom, hm, r1, r2⟩⟩, r4 B hg hB⟩
      · obtain rfl : cap = n := by omega
        exact sins_grow xs t cap i g gb vc B cur hn (by omega) hcap w hB hh hs ht hgb hgne
end Go.Proofs.Ytdnjpfjiaomlgaa
