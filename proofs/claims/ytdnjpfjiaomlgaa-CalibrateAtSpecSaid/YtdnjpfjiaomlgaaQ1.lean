/- slices.Insert at points. -/
import Derived.Test.YtdnjpfjiaomlgaaQ0
import Derived.Test.YtdnjpfjiaomlgaaC1
import Derived.RangeFuncKeeps
import Derived.IntWalk
namespace Go.Proofs.Ytdnjpfjiaomlgaa
open Go.RowKit
open Go.Lib (hid)

theorem und22 : Try.prog.underlying 22 = some (.slice 24) := by kernel_rfl
theorem info24 : (Try.prog.info? 24).map (fun i => (i.zero, i.size, i.bytes)) = some (some (.agg #[.int .i64 0, .int .i64 0, .int .i64 0, .int .i64 0, .int .i64 0]), 5, 40) := by kernel_rfl
theorem f39 : Try.prog.funcs[39]? = some Try.f39 := by kernel_rfl
theorem size24 : (Try.prog.info? 24).map (·.size) = some 5 := by kernel_rfl
theorem siz24 : ∀ w, (Go.sizeOf 24).run Try.prog w = .ok 5 w := fun w => by
  obtain ⟨i0, hi, hz0, hz1, hz2⟩ := info_parts info24
  simp [sizeOf, typeInfo, hi, hz1]
theorem below_setRow {B g : Nat} {w0 w : World} (hb : Below B w0 w) (hBg : B ≤ g) (cs : Array Value) : Below B w0 (w.setRow g cs) :=
  ⟨hb.os, hb.tape, hb.output, by rw [setRow_size]; exact hb.size, fun k hk => by rw [setRow_other w g k cs (by omega)]; exact hb.block k hk⟩

set_option maxRecDepth 100000 in
set_option maxHeartbeats 4000000 in
theorem sins_room (xs : List Rc) (t : Rc) (n i cap g gb vc : Nat) (cur : Array Value) (hn : xs.length = n) (hi : i < n) (hc : n + 1 ≤ cap) (hcap : cap ≤ 9223372036854775807) (w : World) (hg : w.heap[g]? = some (.cells cur 24 (0, 0))) (hs : cur.size = cap * 5) (ht : cur.toList.take (n * 5) = xs.flatMap Rc.cs)
    (hgb : w.heap[gb]? = some (.cells t.cs.toArray 24 (0, 0))) (hne : gb ≠ g) :
    Calls Try.prog 34 #[.slice (some ⟨g, 0, none⟩) n cap, .int .i64 i, .slice (some ⟨gb, 0, none⟩) 1 vc] w fun e w' => ∃ row : Array Value, e = .returned (.slice (some ⟨g, 0, none⟩) (n + 1) cap) ∧ row.size = cap * 5 ∧ row.toList.take ((n + 1) * 5) = (xs.take i ++ t :: xs.drop i).flatMap Rc.cs ∧ w'.heap[g]? = some (.cells row 24 (0, 0)) ∧
      ∀ B, B ≤ g → B ≤ w.heap.size → Below B w w' := by
  have hlt := (Array.getElem?_eq_some_iff.1 hg).1
  have hlb := (Array.getElem?_eq_some_iff.1 hgb).1
  have hov : ∀ lb cb, (callFunc 39 #[.slice (some ⟨gb, 0, none⟩) 1 vc, .slice (some ⟨g, (i + 1) * 5, none⟩) lb cb]).run Try.prog w = .ok (.value (.bool false)) w := fun lb cb => by
    rw [run_callFunc_extern f39 (by kernel_rfl) (by kernel_rfl) (by kernel_rfl) (e := Extern.SlicesOverlaps.overlaps #[22, 22] #[4]) (by kernel_rfl),
      Lib.run_overlaps_apart w 22 4 24 und22 5 siz24 ⟨gb, 0, none⟩ ⟨g, (i + 1) * 5, none⟩ 1 vc lb cb hne 24 24 5 (cap * 5) (by simp [World.shape?, hgb, Rc.cs]) (by simp [World.shape?, hg, hs]) (by omega) (by simp [World.frozen?, hgb]) (by simp [World.frozen?, hgb])]
    rfl
  have hfl : (xs.flatMap Rc.cs).length = n * 5 := by rw [flat_len Rc.cs 5 Rc.c5, hn]
  have hdl : ((xs.drop i).flatMap Rc.cs).length = (n - i) * 5 := by rw [flat_len Rc.cs 5 Rc.c5, List.length_drop, hn]
  have hsrc : ∀ v : After w, ∀ j u, ((xs.drop i).flatMap Rc.cs)[j]? = some u → v.w.cell? ((⟨g, i * 5, none⟩ : Addr).add j) = some u := fun v j u hj => by
    rw [Addr.add_lit, cell_of_row v.w g _ cur 24 (0, 0) ((v.2.block g hlt).trans hg)]
    rw [← flat_dropk Rc.cs 5 Rc.c5, List.getElem?_drop, ← ht, List.getElem?_take] at hj
    split at hj
    · simpa using hj
    · cases hj
  obtain ⟨r1, hr1⟩ : ∃ r1 : Array Value, r1 = (cur.toList.take ((i + 1) * 5) ++ (xs.drop i).flatMap Rc.cs ++ cur.toList.drop ((i + 1) * 5 + ((xs.drop i).flatMap Rc.cs).length)).toArray := ⟨_, rfl⟩
  have hcp1 : ∀ v : After w, ∀ ty dl dc sl sc, Nat.min sl dl = n - i → (Builtin.copy_ #[22, 22] ty #[.slice (some ⟨g, (i + 1) * 5, none⟩) dl dc, .slice (some ⟨g, i * 5, none⟩) sl sc]).run Try.prog v.w = .ok (goInt ((n - i : Nat) : Int)) (v.w.setRow g r1) := fun v ty dl dc sl sc hd => by
    have h := run_copy_rowk v.w 22 22 ty 24 5 g ((i + 1) * 5) dl dc ⟨g, i * 5, none⟩ sl sc cur 24 ((xs.drop i).flatMap Rc.cs) und22 size24 ((v.2.block g hlt).trans hg) (by rw [hdl, hd]) (hsrc v) (by rw [hdl, hs]; omega) (Rc.ones _)
    rw [h, hr1, hd]
  have hs1 : r1.size = cap * 5 := by rw [hr1]; simp [hs, hdl]; omega
  obtain ⟨r2, hr2⟩ : ∃ r2 : Array Value, r2 = (r1.toList.take (i * 5) ++ t.cs ++ r1.toList.drop (i * 5 + t.cs.length)).toArray := ⟨_, rfl⟩
  have hcp2 : ∀ v : After w, ∀ ty dl dc, Nat.min 1 dl = 1 → (Builtin.copy_ #[22, 22] ty #[.slice (some ⟨g, i * 5, none⟩) dl dc, .slice (some ⟨gb, 0, none⟩) 1 vc]).run Try.prog (v.w.setRow g r1) = .ok (goInt ((1 : Nat) : Int)) ((v.w.setRow g r1).setRow g r2) := fun v ty dl dc hd => by
    have h := run_copy_rowk (v.w.setRow g r1) 22 22 ty 24 5 g (i * 5) dl dc ⟨gb, 0, none⟩ 1 vc r1 24 t.cs und22 size24 (setRow_heap v.w g cur r1 24 (0, 0) ((v.2.block g hlt).trans hg)) (by rw [Rc.c5, hd]) (fun j u hj => by
      rw [Addr.add_lit, cell_setRow_other _ _ _ _ (by simpa using hne), cell_of_row v.w gb _ t.cs.toArray 24 (0, 0) ((v.2.block gb hlb).trans hgb)]
      simpa using hj) (by rw [Rc.c5, hs1]; omega) t.one
    rw [h, hr2, hd]
  have hs2 : r2.size = cap * 5 := by rw [hr2]; simp [hs1, Rc.c5]; omega
  have hend : r2.toList.take ((n + 1) * 5) = (xs.take i ++ t :: xs.drop i).flatMap Rc.cs := by
    have e0 : cur.toList.take (i * 5) = (xs.take i).flatMap Rc.cs := by
      rw [← flat_takek Rc.cs 5 Rc.c5, ← ht, List.take_take]
      congr 1
      omega
    have e1 : r1.toList.take (i * 5) = (xs.take i).flatMap Rc.cs := by
      rw [hr1, ← e0]
      rw [List.append_assoc, List.take_append_of_le_length (by simp [hs]; omega), List.take_take]
      congr 1
      omega
    have e2 : r1.toList.drop (i * 5 + 5) = (xs.drop i).flatMap Rc.cs ++ cur.toList.drop ((i + 1) * 5 + ((xs.drop i).flatMap Rc.cs).length) := by
      have hl : (cur.toList.take ((i + 1) * 5)).length = i * 5 + 5 := by simp [hs]; omega
      rw [hr1]
      rw [List.append_assoc, ← hl, List.drop_left]
    rw [hr2]
    rw [Rc.c5, e1, e2, List.flatMap_append, List.flatMap_cons, ← List.append_assoc, ← List.append_assoc, List.take_append_of_le_length (by simp [hdl, Rc.c5, flat_len Rc.cs 5 Rc.c5, hn]; omega)]
    exact List.take_of_length_le (by simp [hdl, Rc.c5, flat_len Rc.cs 5 Rc.c5, hn]; omega)
  have hfin : ∀ v : After w, ((v.w.setRow g r1).setRow g r2).heap[g]? = some (.cells r2 24 (0, 0)) := fun v => setRow_heap _ g r1 r2 24 (0, 0) (setRow_heap v.w g cur r1 24 (0, 0) ((v.2.block g hlt).trans hg))
  have hbel : ∀ v : After w, ∀ B, B ≤ g → B ≤ w.heap.size → Below B w ((v.w.setRow g r1).setRow g r2) := fun v B hB hw => below_setRow (below_setRow (v.2.mono hw) hB r1) hB r2
  have HEND := hid hend; have HS2 := hid hs2
  clear hr1 hr2 hs1 hs2 hend hsrc hdl hfl
  have d1 : ((i : Int) == (n : Int)) = false := beq_eq_false_iff_ne.2 (by omega)
  have d1' : (i == n) = false := beq_eq_false_iff_ne.2 (by omega)
  have d2 : decide ((cap : Int) < (n : Int) + 1) = false := decide_eq_false (by omega)
  have b1 : ((i : Nat) : Int) ≤ (n : Int) := by omega
  have b2 : ¬ cap = i := by omega
  have b3 : (0 : Int) ≤ (n : Int) + 1 := by omega
  have b4 : (n : Int) + 1 ≤ (cap : Int) := by omega
  have b5 : (((n : Nat) : Int) + 1).toNat = n + 1 := rfl
  have b6 : (0 : Int) ≤ (i : Int) + 1 := by omega
  have b7 : (((i : Nat) : Int) + 1).toNat = i + 1 := rfl
  have b8 : (i : Int) + 1 ≤ (n : Int) + 1 := by omega
  have b9 : ¬ cap = i + 1 := by omega
  have b10 : (i : Int) ≤ (n : Int) + 1 := by omega
  have w1 : IntKind.i64.wrap ((i : Int) + 1) = (i : Int) + 1 := IntWalk.i64_in _ (by omega)
  go_enter Try.func34, Try.ntmps34
  go_wp2_with (simp only [hov])
  obtain ⟨u, hu⟩ : ∃ u : After w, u.w = w := ⟨After.here w, rfl⟩
  rw [← hu]
  clear hu
  refine region_split 8 (by kernel_rfl) (by kernel_rfl) rfl ?_
  intro u0
  simp only [List.take_succ_cons, List.take_zero]
  refine h_take 0 (x := ?_) rfl (by kernel_rfl) (by kernel_rfl) (by kernel_rfl) (fun _ _ _ h => h) (by rfl) (fun v => ?_) ?_
  rotate_left
  · (go_simp; try with_reducible rfl)
  try simp only [Act.put, List.setIfInBounds_toArray, List.set_cons_zero, List.set_cons_succ]
  refine h_take 1 (x := ?_) rfl (by kernel_rfl) (by kernel_rfl) (by kernel_rfl) (fun _ _ _ h => h) (by rfl) (fun v => ?_) ?_
  rotate_left
  · (go_simp; try with_reducible rfl)
  try simp only [Act.put, List.setIfInBounds_toArray, List.set_cons_zero, List.set_cons_succ]
  refine h_take 2 (x := ?_) rfl (by kernel_rfl) (by kernel_rfl) (by kernel_rfl) (fun _ _ _ h => h) (by rfl) (fun v => ?_) ?_
  rotate_left
  · (go_simp; try with_reducible rfl)
  try simp only [Act.put, List.setIfInBounds_toArray, List.set_cons_zero, List.set_cons_succ]
  refine h_take 3 (x := ?_) rfl (by kernel_rfl) (by kernel_rfl) (by kernel_rfl) (fun _ _ _ h => h) (by rfl) (fun v => ?_) ?_
  rotate_left
  · (go_simp; try with_reducible rfl)
  try simp only [Act.put, List.setIfInBounds_toArray, List.set_cons_zero, List.set_cons_succ]
  refine h_take 4 (x := ?_) rfl (by kernel_rfl) (by kernel_rfl) (by kernel_rfl) (fun _ _ _ h => h) (by rfl) (fun v => ?_) ?_
  rotate_left
  · (go_simp; try with_reducible rfl)
  try simp only [Act.put, List.setIfInBounds_toArray, List.set_cons_zero, List.set_cons_succ]
  refine h_take 5 (x := ?_) rfl (by kernel_rfl) (by kernel_rfl) (by kernel_rfl) (fun _ _ _ h => h) (by rfl) (fun v => ?_) ?_
  rotate_left
  · (go_simp; try with_reducible rfl)
  try simp only [Act.put, List.setIfInBounds_toArray, List.set_cons_zero, List.set_cons_succ]
  refine h_take 6 (x := ?_) rfl (by kernel_rfl) (by kernel_rfl) (by kernel_rfl) (fun _ _ _ h => h) (by rfl) (fun v => ?_) ?_
  rotate_left
  · (go_simp; try with_reducible rfl)
  try simp only [Act.put, List.setIfInBounds_toArray, List.set_cons_zero, List.set_cons_succ]
  refine h_take 7 (x := ?_) rfl (by kernel_rfl) (by kernel_rfl) (by kernel_rfl) (fun _ _ _ h => h) (by rfl) (fun v => ?_) ?_
  rotate_left
  · (go_simp; try with_reducible rfl)
  try simp only [Act.put, List.setIfInBounds_toArray, List.set_cons_zero, List.set_cons_succ]
  refine tail_go (by kernel_rfl) ?_
  refine tail_in ?_
  refine t_step 8 (by kernel_rfl) rfl (fun K hK => ?_)
  refine step_copy_runI rfl (.tmp 73) (.tmp 76) 22 22 rfl _ _ (by rfl) (by rfl) (hcp1 u0 _ _ _ _ _ (by simp only [Nat.min_def]; split <;> omega)) ?_
  refine hK _ _ ?_
  clear hK K
  try simp only [Act.put, List.setIfInBounds_toArray, List.set_cons_zero, List.set_cons_succ]
  refine wpAnyH_done (by kernel_rfl) ?_ _
  refine NoPanic.normal ?_
  have hf := hfin u0
  have hb := hbel u0
  have q2 := hcp2 u0 3 (n + 1 - i) (cap - i) (by simp only [Nat.min_def]; split <;> omega)
  go_wp2_with fail
  exact bodyPost_ret (v := .slice (some ⟨g, 0, none⟩) (n + 1) cap) (by simp [results, Try.results34, go_sem]) rfl ⟨r2, rfl, HS2.out, HEND.out, hf, hb⟩
end Go.Proofs.Ytdnjpfjiaomlgaa
