/- Check. -/
import Derived.Test.YtmikhkmdcpgkfaaD
namespace Go.Proofs.Ytmikhkmdcpgkfaa
open Go.RowKit
open Go.Lib (hid)

/-- A link's two cells. -/
def lkc (l : Int × Int) : List Value := [.int .i64 l.1, .int .i64 l.2]
theorem lkc2 (l : Int × Int) : (lkc l).length = 2 := rfl
def lkv (l : Int × Int) : Nat → Int := fun i => if i = 0 then l.1 else l.2
def ApOk (ls : List (Int × Int)) : Prop := ∀ i (h : i < ls.length), lkOk ls[i].1 ls[i].2 = true ∧ (0 < i → ahead (lkv (ls[i - 1]'(by omega))) (lkv ls[i]) = true)
open Classical in
/-- What Check answers. -/
noncomputable def chk (ps : List Pk) (ls : List (Int × Int)) : Int := if ps.all pkOk = true ∧ ApOk ls then 0 else 60
theorem ext_lk {ls : List (Int × Int)} {j : Nat} (hV : Hid (∀ i (h : i < ls.length), i < j → lkOk ls[i].1 ls[i].2 = true ∧ (0 < i → ahead (lkv (ls[i - 1]'(by omega))) (lkv ls[i]) = true)))
    (hx : ∀ h : j < ls.length, lkOk ls[j].1 ls[j].2 = true ∧ (0 < j → ahead (lkv (ls[j - 1]'(by omega))) (lkv ls[j]) = true)) :
    Hid (∀ i (h : i < ls.length), i < j + 1 → lkOk ls[i].1 ls[i].2 = true ∧ (0 < i → ahead (lkv (ls[i - 1]'(by omega))) (lkv ls[i]) = true)) := by
  refine hid fun i h hi => ?_
  by_cases he : i = j
  · subst he; exact hx h
  · exact hV.out i h (by omega)
theorem chk_packets {ps : List Pk} {ls : List (Int × Int)} (h : ps.all pkOk = false) : chk ps ls = 60 := by simp [chk, h]
theorem chk_links {ps : List Pk} {ls : List (Int × Int)} (h : ¬ ApOk ls) : chk ps ls = 60 := by simp [chk, h]
theorem chk_ok {ps : List Pk} {ls : List (Int × Int)} (hp : ps.all pkOk = true) (h : ApOk ls) : chk ps ls = 0 := by simp only [chk, hp, h, and_self, if_true]
def netV (ps : List Pk) (ls : List (Int × Int)) (qa aa : Option Addr) (qc ac : Nat) : Value := .agg #[.slice qa ps.length qc, .slice aa ls.length ac]

theorem Check_any (ps : List Pk) (ls : List (Int × Int)) (qa aa : Option Addr) (qc ac : Nat) (w : World) (hp : ps.length ≤ 1000) (hl : ls.length ≤ 1000) (hq : Rd w qa (ps.flatMap Pk.c)) (ha : Rd w aa (ls.flatMap lkc)) :
    Calls Try.prog 13 #[netV ps ls qa aa qc ac] w fun e w' => e = .returned (.int .i64 (chk ps ls)) ∧ Below w.heap.size w w' := by
  have HQ := hid hq; clear hq
  have HA := hid ha; clear ha
  unfold netV
  go_enter Try.func13, Try.ntmps13
  go_wp2_with fail
  refine (containsFunc_any ps qa qc _ hp (HQ.out.alloc _)).mono ?_
  rintro e w1 ⟨rfl, hB1⟩
  have hW1 : Below w.heap.size w w1 := b_alloc_then hB1
  have c0 : w1.cell? ⟨w.heap.size, 0, none⟩ = some (.slice qa ps.length qc) := by rw [hB1.cell (by simp)]; simp
  have c1 : w1.cell? ⟨w.heap.size, 1, none⟩ = some (.slice aa ls.length ac) := by rw [hB1.cell (by simp)]; simp
  have hsz : w.heap.size < w1.heap.size := by have := hB1.size; simp at this; omega
  rcases ho : ps.all pkOk with _ | _
  · go_wp2_with fail
    exact bodyPost_ret (v := .int .i64 60) (by simp [results, Try.results13, go_sem]) rfl ⟨by rw [chk_packets ho], (by repeat (first | exact Below.refl _ _ | assumption | refine b_then ?_ (by assumption) | refine b_alloc ?_ _ | refine b_drewN ?_ _ | refine b_drew ?_ | refine b_set ?_ (by omega) _ | refine b_set ?_ (by simp) _))⟩
  · have Ho := hid ho; clear ho
    go_wp2_with fail

    go_loopw [17] (fun i wr => ∃ j : Nat, j ≤ ls.length ∧ i = .int .i64 j ∧ Below w1.heap.size w1 wr ∧ Hid (∀ i (h : i < ls.length), i < j → lkOk ls[i].1 ls[i].2 = true ∧ (0 < i → ahead (lkv (ls[i - 1]'(by omega))) (lkv ls[i]) = true))) (fun i _ => ls.length - (intOf i).toNat)
    case atStart => exact ⟨0, by omega, rfl, Below.refl _ _, fun i _ h => absurd h (by omega)⟩
    case round =>
      obtain ⟨j, hj, rfl, hB, hV⟩ := hrel
      by_cases hlt : j < ls.length
      · obtain ⟨b, off, rfl, hb, hc⟩ := Rd.base HA.out (by rw [flat_len lkc 2 lkc2]; omega)
        have hc0 : wr.cell? ⟨b, off + j * 2, none⟩ = some (.int .i64 ls[j].1) := hc wr (b_then hW1 hB) (j * 2) _ (flat_at lkc 2 lkc2 ls j hlt 0 (by omega))
        have hc1 : wr.cell? ⟨b, off + j * 2 + 1, none⟩ = some (.int .i64 ls[j].2) := by have := hc wr (b_then hW1 hB) (j * 2 + 1) _ (flat_at lkc 2 lkc2 ls j hlt 1 (by omega)); rwa [← Nat.add_assoc] at this
        have Hc := hid hc; clear hc
        have d0 : wr.cell? ⟨w.heap.size, 0, none⟩ = some (.slice qa ps.length qc) := (hB.cell (p := ⟨w.heap.size, 0, none⟩) hsz).trans c0
        have d1 : wr.cell? ⟨w.heap.size, 1, none⟩ = some (.slice (some ⟨b, off, none⟩) ls.length ac) := (hB.cell (p := ⟨w.heap.size, 1, none⟩) hsz).trans c1
        go_wp2_with fail
        generalize hV0 : wr.alloc (Obj.cells #[Value.int IntKind.i64 ls[j].fst, Value.int IntKind.i64 ls[j].snd] 55) = V
        have hBV : Below w1.heap.size w1 V := by rw [← hV0]; exact b_alloc hB _
        have hsV : wr.heap.size < V.heap.size := by rw [← hV0]; simp
        have hwr := hB.size
        have hVc : ∀ i u, ([Value.int IntKind.i64 ls[j].fst, Value.int IntKind.i64 ls[j].snd] : List Value)[i]? = some u → V.cell? ⟨wr.heap.size, i, none⟩ = some u := by
          intro i u hu
          rw [← hV0]
          match i, hu with
          | 0, hu => simpa using hu
          | 1, hu => simpa using hu
        have e0 := after_cell hsV (hVc 0 _ rfl)
        have e1 := after_cell hsV (hVc 1 _ rfl)
        have eA : ∀ v : After V, v.w.cell? ⟨w.heap.size, 1, none⟩ = some (.slice (some ⟨b, off, none⟩) ls.length ac) := after_cell (by omega) ((hBV.cell (p := ⟨w.heap.size, 1, none⟩) hsz).trans c1)
        rcases hv : lkOk ls[j].1 ls[j].2 with _ | _
        · have hval : ∀ v : After V, Calls Try.prog 32 #[.agg #[.int .i64 ls[j].1, .int .i64 ls[j].2]] v.w fun e w'' => e = .returned (.bool false) ∧ ∃ u : After V, w'' = u.w := fun v => by
            have := after_call (v := v) (valid_any ls[j].1 ls[j].2 v.w)
            rwa [hv] at this
          refine wp_region_after (by kernel_rfl) (by kernel_rfl) ?_
          repeat (go_big_quiet_step ((first | (go_at_call 32; exact hval _))))
          refine wpQuiet_nil ?_
          intro w5 hB5
          go_wp2_with fail
          exact bodyPost_ret (v := .int .i64 60) (by simp [results, Try.results13, go_sem]) rfl ⟨by rw [chk_links (fun h => by have := (h j hlt).1; rw [hv] at this; exact absurd this (by simp))], (by repeat (first | exact Below.refl _ _ | assumption | refine b_then ?_ (by assumption) | refine b_alloc ?_ _ | refine b_drewN ?_ _ | refine b_drew ?_ | refine b_set ?_ (by omega) _ | refine b_set ?_ (by simp) _))⟩
        · have hval : ∀ v : After V, Calls Try.prog 32 #[.agg #[.int .i64 ls[j].1, .int .i64 ls[j].2]] v.w fun e w'' => e = .returned (.bool true) ∧ ∃ u : After V, w'' = u.w := fun v => by
            have := after_call (v := v) (valid_any ls[j].1 ls[j].2 v.w)
            rwa [hv] at this
          rcases Nat.eq_zero_or_pos j with rfl | hpos
          · refine wp_region_after (by kernel_rfl) (by kernel_rfl) ?_
            repeat (go_big_quiet_step ((first | (go_at_call 32; exact hval _))))
            refine wpQuiet_nil ?_
            intro w5 hB5
            go_wp2_with fail
            go_roundw
            case rel => exact ⟨1, by omega, by go_num, (by repeat (first | exact Below.refl _ _ | assumption | refine b_then ?_ (by assumption) | refine b_alloc ?_ _ | refine b_drewN ?_ _ | refine b_drew ?_ | refine b_set ?_ (by omega) _ | refine b_set ?_ (by simp) _)), ext_lk hV (fun _ => ⟨hv, fun h => absurd h (by omega)⟩)⟩
            case measure => simp [intOf]; omega
          · obtain ⟨k, rfl⟩ : ∃ k, j = k + 1 := ⟨j - 1, by omega⟩
            have hBV' : Below w.heap.size w V := b_then hW1 hBV
            have hP0 : ∀ v : After V, v.w.cell? ⟨b, off + k * 2, none⟩ = some (.int .i64 ls[k].1) := fun v => Hc.out v.w (b_then hBV' v.below) (k * 2) _ (flat_at lkc 2 lkc2 ls k (by omega) 0 (by omega))
            have hP1 : ∀ v : After V, v.w.cell? ⟨b, off + k * 2 + 1, none⟩ = some (.int .i64 ls[k].2) := fun v => by have := Hc.out v.w (b_then hBV' v.below) (k * 2 + 1) _ (flat_at lkc 2 lkc2 ls k (by omega) 1 (by omega)); rwa [← Nat.add_assoc] at this
            have hcmp : ∀ (v : After V) (c1 c2 : Nat), Calls Try.prog 33 #[.slice (some ⟨b, off + k * 2, none⟩) 2 c1, .slice (some ⟨wr.heap.size, 0, none⟩) 2 c2] v.w fun e w'' => e = .returned (.int .i64 (cmpV (lkv ls[k]) (lkv ls[k + 1]))) ∧ ∃ u : After V, w'' = u.w := fun v c1 c2 =>
              after_call (compare_any (lkv ls[k]) (lkv ls[k + 1]) b (off + k * 2) c1 wr.heap.size 0 c2 v.w (by have := hBV'.size; have := v.below.size; omega) (by have := v.below.size; omega) (fun i hi => by
                match i, hi with
                | 0, _ => exact hP0 v
                | 1, _ => exact hP1 v) (fun i hi => by
                match i, hi with
                | 0, _ => exact e0 v
                | 1, _ => exact e1 v))
            refine wp_region_after (by kernel_rfl) (by kernel_rfl) ?_
            repeat (go_big_quiet_step ((first | (go_at_call 32; exact hval _) | (go_at_call 33; exact hcmp _ _ _))))
            refine wpQuiet_nil ?_
            intro w5 hB5
            have hcv := cmpV_ahead (lkv ls[k]) (lkv ls[k + 1])
            by_cases h0 : 0 ≤ cmpV (lkv ls[k]) (lkv ls[k + 1])
            · have hah : ahead (lkv ls[k]) (lkv ls[k + 1]) = false := by simpa [h0] using hcv
              clear hcv
              go_wp2_with fail
              exact bodyPost_ret (v := .int .i64 60) (by simp [results, Try.results13, go_sem]) rfl ⟨by rw [chk_links (fun h => by have h2 : ahead (lkv ls[k]) (lkv ls[k + 1]) = true := (h (k + 1) hlt).2 (by omega); rw [hah] at h2; exact absurd h2 (by simp))], (by repeat (first | exact Below.refl _ _ | assumption | refine b_then ?_ (by assumption) | refine b_alloc ?_ _ | refine b_drewN ?_ _ | refine b_drew ?_ | refine b_set ?_ (by omega) _ | refine b_set ?_ (by simp) _))⟩
            · have hah : ahead (lkv ls[k]) (lkv ls[k + 1]) = true := by simpa [h0] using hcv
              clear hcv
              go_wp2_with fail
              go_roundw
              case rel => exact ⟨k + 1 + 1, by omega, by go_num, (by repeat (first | exact Below.refl _ _ | assumption | refine b_then ?_ (by assumption) | refine b_alloc ?_ _ | refine b_drewN ?_ _ | refine b_drew ?_ | refine b_set ?_ (by omega) _ | refine b_set ?_ (by simp) _)), ext_lk hV (fun _ => ⟨hv, fun _ => hah⟩)⟩
              case measure => simp [intOf]; omega
      · go_wp2_with fail
        refine bodyPost_ret (v := .int .i64 0) (by simp [results, Try.results13, go_sem]) rfl ⟨?_, (by repeat (first | exact Below.refl _ _ | assumption | refine b_then ?_ (by assumption) | refine b_alloc ?_ _ | refine b_drewN ?_ _ | refine b_drew ?_ | refine b_set ?_ (by omega) _ | refine b_set ?_ (by simp) _))⟩
        rw [chk_ok Ho.out (fun i h => hV.out i h (by omega))]
end Go.Proofs.Ytmikhkmdcpgkfaa
