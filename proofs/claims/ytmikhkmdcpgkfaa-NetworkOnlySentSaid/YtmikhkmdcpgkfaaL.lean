/- Deliver. -/
import Derived.Test.YtmikhkmdcpgkfaaK
import Derived.Test.YtmikhkmdcpgkfaaS
namespace Go.Proofs.Ytmikhkmdcpgkfaa
open Go.RowKit
open Go.Lib (hid)

def cutIn (ls : List (Int × Int)) (p : Pk) : Bool := ls.contains (min p.fr p.to, max p.fr p.to)
noncomputable def delP (ps : List Pk) (ls : List (Int × Int)) (i : Int) : Pk := if ask ps ls i = 0 then (if cutIn ls (atP ps i) = true then Pk.zero else atP ps i) else Pk.zero
def DelTo (ok : Nat → Prop) (ps : List Pk) (ls : List (Int × Int)) (i : Int) (w w' : World) (e : Ending) : Prop :=
  ∃ v', e = .returned (.tuple #[(delP ps ls i).v, v', .int .i64 (ask ps ls i)]) ∧ NetIs (fun g => ok g ∨ w.heap.size ≤ g) w' v' (leftQ ps ls i) (leftL ps ls i) ∧ Below w.heap.size w w'

set_option maxHeartbeats 4000000 in
theorem Deliver_any (ok : Nat → Prop) (ps : List Pk) (ls : List (Int × Int)) (i : Int) (v : Value) (w : World) (hp : ps.length ≤ 1000) (hl : ls.length ≤ 1000) (hv : NetIs ok w v ps ls) :
    Calls Try.prog 18 #[v, .int .i64 i] w fun e w' => DelTo ok ps ls i w w' e := by
  have HV := hid hv.here
  have hv0 := hv
  obtain ⟨qa, aa, qc, ac, rfl, -, hRa, -⟩ := hv0
  rw [show netV ps ls qa aa qc ac = .agg #[.slice qa ps.length qc, .slice aa ls.length ac] from rfl] at HV hv ⊢
  have HRA := hid hRa; clear hRa hv
  go_enter Try.func18, Try.ntmps18
  go_wp2_with fail
  obtain ⟨V, hV⟩ : ∃ V, V = (((w.alloc (.cells #[.slice qa ps.length qc, .slice aa ls.length ac] 25)).alloc (.cells #[.int .i64 0, .int .i64 0, .slice none 0 0] 28)).alloc (.cells #[.slice none 0 0, .slice none 0 0] 25)) := ⟨_, rfl⟩
  have c0 : ∀ v : After V, v.w.cell? ⟨w.heap.size, 0, none⟩ = some (.slice qa ps.length qc) := after_cell (by rw [hV]; first | (simp; done) | omega | (simp; omega)) (by rw [hV]; (repeat (first | with_reducible assumption | exact bn (by first | (simp; done) | omega | (simp; omega)) rfl | refine bo (by first | (simp; done) | omega | (simp; omega)) ?_)))
  have fc0 : ∀ v : After V, v.w.frozen? ⟨w.heap.size, 0, none⟩ = false := after_frozen (by rw [hV]; first | (simp; done) | omega | (simp; omega)) (by rw [hV]; (repeat (first | exact fn (by first | (simp; done) | omega | (simp; omega)) | refine fo (by first | (simp; done) | omega | (simp; omega)) ?_)))
  have c1 : ∀ v : After V, v.w.cell? ⟨w.heap.size, 1, none⟩ = some (.slice aa ls.length ac) := after_cell (by rw [hV]; first | (simp; done) | omega | (simp; omega)) (by rw [hV]; (repeat (first | with_reducible assumption | exact bn (by first | (simp; done) | omega | (simp; omega)) rfl | refine bo (by first | (simp; done) | omega | (simp; omega)) ?_)))
  have fc1 : ∀ v : After V, v.w.frozen? ⟨w.heap.size, 1, none⟩ = false := after_frozen (by rw [hV]; first | (simp; done) | omega | (simp; omega)) (by rw [hV]; (repeat (first | exact fn (by first | (simp; done) | omega | (simp; omega)) | refine fo (by first | (simp; done) | omega | (simp; omega)) ?_)))
  have zc : ∀ v : After V, w.heap.size < v.w.heap.size := after_size (by rw [hV]; first | (simp; done) | omega | (simp; omega))
  have p0 : ∀ v : After V, v.w.cell? ⟨w.heap.size + 1, 0, none⟩ = some (.int .i64 0) := after_cell (by rw [hV]; first | (simp; done) | omega | (simp; omega)) (by rw [hV]; (repeat (first | with_reducible assumption | exact bn (by first | (simp; done) | omega | (simp; omega)) rfl | refine bo (by first | (simp; done) | omega | (simp; omega)) ?_)))
  have fp0 : ∀ v : After V, v.w.frozen? ⟨w.heap.size + 1, 0, none⟩ = false := after_frozen (by rw [hV]; first | (simp; done) | omega | (simp; omega)) (by rw [hV]; (repeat (first | exact fn (by first | (simp; done) | omega | (simp; omega)) | refine fo (by first | (simp; done) | omega | (simp; omega)) ?_)))
  have p1 : ∀ v : After V, v.w.cell? ⟨w.heap.size + 1, 1, none⟩ = some (.int .i64 0) := after_cell (by rw [hV]; first | (simp; done) | omega | (simp; omega)) (by rw [hV]; (repeat (first | with_reducible assumption | exact bn (by first | (simp; done) | omega | (simp; omega)) rfl | refine bo (by first | (simp; done) | omega | (simp; omega)) ?_)))
  have fp1 : ∀ v : After V, v.w.frozen? ⟨w.heap.size + 1, 1, none⟩ = false := after_frozen (by rw [hV]; first | (simp; done) | omega | (simp; omega)) (by rw [hV]; (repeat (first | exact fn (by first | (simp; done) | omega | (simp; omega)) | refine fo (by first | (simp; done) | omega | (simp; omega)) ?_)))
  have p2 : ∀ v : After V, v.w.cell? ⟨w.heap.size + 1, 2, none⟩ = some (.slice none 0 0) := after_cell (by rw [hV]; first | (simp; done) | omega | (simp; omega)) (by rw [hV]; (repeat (first | with_reducible assumption | exact bn (by first | (simp; done) | omega | (simp; omega)) rfl | refine bo (by first | (simp; done) | omega | (simp; omega)) ?_)))
  have fp2 : ∀ v : After V, v.w.frozen? ⟨w.heap.size + 1, 2, none⟩ = false := after_frozen (by rw [hV]; first | (simp; done) | omega | (simp; omega)) (by rw [hV]; (repeat (first | exact fn (by first | (simp; done) | omega | (simp; omega)) | refine fo (by first | (simp; done) | omega | (simp; omega)) ?_)))
  have zp : ∀ v : After V, w.heap.size + 1 < v.w.heap.size := after_size (by rw [hV]; first | (simp; done) | omega | (simp; omega))
  have e0 : ∀ v : After V, v.w.cell? ⟨w.heap.size + 1 + 1, 0, none⟩ = some (.slice none 0 0) := after_cell (by rw [hV]; first | (simp; done) | omega | (simp; omega)) (by rw [hV]; (repeat (first | with_reducible assumption | exact bn (by first | (simp; done) | omega | (simp; omega)) rfl | refine bo (by first | (simp; done) | omega | (simp; omega)) ?_)))
  have fe0 : ∀ v : After V, v.w.frozen? ⟨w.heap.size + 1 + 1, 0, none⟩ = false := after_frozen (by rw [hV]; first | (simp; done) | omega | (simp; omega)) (by rw [hV]; (repeat (first | exact fn (by first | (simp; done) | omega | (simp; omega)) | refine fo (by first | (simp; done) | omega | (simp; omega)) ?_)))
  have e1 : ∀ v : After V, v.w.cell? ⟨w.heap.size + 1 + 1, 1, none⟩ = some (.slice none 0 0) := after_cell (by rw [hV]; first | (simp; done) | omega | (simp; omega)) (by rw [hV]; (repeat (first | with_reducible assumption | exact bn (by first | (simp; done) | omega | (simp; omega)) rfl | refine bo (by first | (simp; done) | omega | (simp; omega)) ?_)))
  have fe1 : ∀ v : After V, v.w.frozen? ⟨w.heap.size + 1 + 1, 1, none⟩ = false := after_frozen (by rw [hV]; first | (simp; done) | omega | (simp; omega)) (by rw [hV]; (repeat (first | exact fn (by first | (simp; done) | omega | (simp; omega)) | refine fo (by first | (simp; done) | omega | (simp; omega)) ?_)))
  have ze : ∀ v : After V, w.heap.size + 1 + 1 < v.w.heap.size := after_size (by rw [hV]; first | (simp; done) | omega | (simp; omega))
  have hwV : Below w.heap.size w V := by rw [hV]; exact (by repeat (first | exact Below.refl _ _ | assumption | refine b_then ?_ (by assumption) | refine b_alloc ?_ _ | refine b_drewN ?_ _ | refine b_drew ?_ | refine b_set ?_ (by omega) _ | refine b_set ?_ (by simp) _))
  have WV := hid (after_below hwV)
  rw [← hV]
  obtain ⟨u0, hu⟩ : ∃ u : After V, u.w = V := ⟨After.here V, rfl⟩
  rw [← hu]
  clear hu hV
  refine (met (at_any _ ps ls i _ _ hp hl (HV.out.below (WV.out u0)))).mono ?_
  rintro e _ ⟨rfl, u1, rfl⟩
  have hgv : (got ps ls i).v = .agg #[.int .i64 (got ps ls i).fr, .int .i64 (got ps ls i).to, .slice (got ps ls i).da (got ps ls i).dn (got ps ls i).dc] := rfl
  by_cases hk : ask ps ls i = 0
  · obtain ⟨hi0, hlt, hc⟩ := ask_in hk
    obtain ⟨j, rfl⟩ := Int.eq_ofNat_of_zero_le hi0
    have hg : got ps ls j = atP ps j := by simp [got, hk]
    have Hk := hid hk
    rw [hk]
    rw [hg] at hgv ⊢
    clear hk hg
    generalize hpp : atP ps j = p at hgv ⊢
    have Hp := hid hpp; clear hpp
    go_upto_region 4 with fail
    obtain ⟨X, hX⟩ : ∃ X, X = (((u1.w.setCell ⟨w.heap.size + 1, 0, none⟩ (.int .i64 p.fr)).setCell ⟨w.heap.size + 1, 1, none⟩ (.int .i64 p.to)).setCell ⟨w.heap.size + 1, 2, none⟩ (.slice p.da p.dn p.dc)) := ⟨_, rfl⟩
    replace c0 : ∀ v : After X, v.w.cell? ⟨w.heap.size, 0, none⟩ = some (.slice qa ps.length qc) := after_cell (by rw [hX]; simpa using cell_lt (c0 u1)) (by rw [hX]; exact (st_off _ (by first | (left; decide) | (right; omega) | (right; simp; omega)) (st_off _ (by first | (left; decide) | (right; omega) | (right; simp; omega)) (st_off _ (by first | (left; decide) | (right; omega) | (right; simp; omega)) (c0 u1)))))
    replace fc0 : ∀ v : After X, v.w.frozen? ⟨w.heap.size, 0, none⟩ = false := after_frozen (by rw [hX]; simpa using zc u1) (by rw [hX]; exact (sf _ (sf _ (sf _ (fc0 u1)))))
    replace c1 : ∀ v : After X, v.w.cell? ⟨w.heap.size, 1, none⟩ = some (.slice aa ls.length ac) := after_cell (by rw [hX]; simpa using cell_lt (c1 u1)) (by rw [hX]; exact (st_off _ (by first | (left; decide) | (right; omega) | (right; simp; omega)) (st_off _ (by first | (left; decide) | (right; omega) | (right; simp; omega)) (st_off _ (by first | (left; decide) | (right; omega) | (right; simp; omega)) (c1 u1)))))
    replace fc1 : ∀ v : After X, v.w.frozen? ⟨w.heap.size, 1, none⟩ = false := after_frozen (by rw [hX]; simpa using zc u1) (by rw [hX]; exact (sf _ (sf _ (sf _ (fc1 u1)))))
    replace p0 : ∀ v : After X, v.w.cell? ⟨w.heap.size + 1, 0, none⟩ = some (.int .i64 p.fr) := after_cell (by rw [hX]; simpa using cell_lt (p0 u1)) (by rw [hX]; exact (st_off _ (.inl (by decide)) (st_off _ (.inl (by decide)) (st_hit _ (p0 u1)))))
    replace fp0 : ∀ v : After X, v.w.frozen? ⟨w.heap.size + 1, 0, none⟩ = false := after_frozen (by rw [hX]; simpa using zp u1) (by rw [hX]; exact (sf _ (sf _ (sf _ (fp0 u1)))))
    replace p1 : ∀ v : After X, v.w.cell? ⟨w.heap.size + 1, 1, none⟩ = some (.int .i64 p.to) := after_cell (by rw [hX]; simpa using cell_lt (p1 u1)) (by rw [hX]; exact (st_off _ (.inl (by decide)) (st_hit _ (st_off _ (.inl (by decide)) (p1 u1)))))
    replace fp1 : ∀ v : After X, v.w.frozen? ⟨w.heap.size + 1, 1, none⟩ = false := after_frozen (by rw [hX]; simpa using zp u1) (by rw [hX]; exact (sf _ (sf _ (sf _ (fp1 u1)))))
    replace p2 : ∀ v : After X, v.w.cell? ⟨w.heap.size + 1, 2, none⟩ = some (.slice p.da p.dn p.dc) := after_cell (by rw [hX]; simpa using cell_lt (p2 u1)) (by rw [hX]; exact (st_hit _ (st_off _ (.inl (by decide)) (st_off _ (.inl (by decide)) (p2 u1)))))
    replace fp2 : ∀ v : After X, v.w.frozen? ⟨w.heap.size + 1, 2, none⟩ = false := after_frozen (by rw [hX]; simpa using zp u1) (by rw [hX]; exact (sf _ (sf _ (sf _ (fp2 u1)))))
    replace e0 : ∀ v : After X, v.w.cell? ⟨w.heap.size + 1 + 1, 0, none⟩ = some (.slice none 0 0) := after_cell (by rw [hX]; simpa using cell_lt (e0 u1)) (by rw [hX]; exact (st_off _ (by first | (left; decide) | (right; omega) | (right; simp; omega)) (st_off _ (by first | (left; decide) | (right; omega) | (right; simp; omega)) (st_off _ (by first | (left; decide) | (right; omega) | (right; simp; omega)) (e0 u1)))))
    replace fe0 : ∀ v : After X, v.w.frozen? ⟨w.heap.size + 1 + 1, 0, none⟩ = false := after_frozen (by rw [hX]; simpa using ze u1) (by rw [hX]; exact (sf _ (sf _ (sf _ (fe0 u1)))))
    replace e1 : ∀ v : After X, v.w.cell? ⟨w.heap.size + 1 + 1, 1, none⟩ = some (.slice none 0 0) := after_cell (by rw [hX]; simpa using cell_lt (e1 u1)) (by rw [hX]; exact (st_off _ (by first | (left; decide) | (right; omega) | (right; simp; omega)) (st_off _ (by first | (left; decide) | (right; omega) | (right; simp; omega)) (st_off _ (by first | (left; decide) | (right; omega) | (right; simp; omega)) (e1 u1)))))
    replace fe1 : ∀ v : After X, v.w.frozen? ⟨w.heap.size + 1 + 1, 1, none⟩ = false := after_frozen (by rw [hX]; simpa using ze u1) (by rw [hX]; exact (sf _ (sf _ (sf _ (fe1 u1)))))
    replace zc : ∀ v : After X, w.heap.size < v.w.heap.size := after_size (by rw [hX]; simpa using zc u1)
    replace zp : ∀ v : After X, w.heap.size + 1 < v.w.heap.size := after_size (by rw [hX]; simpa using zp u1)
    replace ze : ∀ v : After X, w.heap.size + 1 + 1 < v.w.heap.size := after_size (by rw [hX]; simpa using ze u1)
    have hwX : Below w.heap.size w X := by rw [hX]; exact (b_set (b_set (b_set (WV.out u1) (by omega) _) (by omega) _) (by omega) _)
    have WX := hid (after_below hwX)
    rw [← hX]
    obtain ⟨x, hu⟩ : ∃ u : After X, u.w = X := ⟨After.here X, rfl⟩
    rw [← hu]
    have HX := hid hX
    clear hu hX
    refine wp_region_since (by kernel_rfl) (by kernel_rfl) ?_
    repeat (go_big_quiet_step ((first | (go_at_call 37; exact met (between_any _ _ _)) | (go_at_call 36; exact met (contains_any ls _ _ _ _ _ hl (HRA.out.below (WX.out _)))))))
    refine wpQuiet_nil ?_
    intro u5
    rcases hct : ls.contains (min p.fr p.to, max p.fr p.to) with _ | _
    · have HD := hid (show delP ps ls j = p by simp only [delP, Hk.out, Hp.out, cutIn, hct]; rfl)
      go_upto_region 6 with fail
      refine region_split 4 (by kernel_rfl) (by kernel_rfl) rfl ?_
      intro u0
      simp only [List.take_succ_cons, List.take_zero]
      refine h_take 0 (x := ?_) rfl (by kernel_rfl) (by kernel_rfl) (by kernel_rfl) (fun _ _ _ h => h) (by rfl) (fun v => ?_) ?_
      rotate_left
      · (go_simp; try with_reducible rfl)
      try simp only [Act.put, List.setIfInBounds_toArray, List.set_cons_zero, List.set_cons_succ]
      refine h_take 1 (x := ?_) rfl (by kernel_rfl) (by kernel_rfl) (by kernel_rfl) (fun _ _ _ h => h) (by rfl) (fun v => ?_) ?_
      rotate_left
      · (go_simp; try with_reducible rfl)
      try simp only [Act.put, List.setIfInBounds_toArray, List.set_cons_zero, List.set_cons_succ]
      refine h_take 2 (x := ?_) rfl (by kernel_rfl) (by kernel_rfl) (by kernel_rfl) (fun _ _ _ h => h) (by rfl) (fun v => ?_) ?_
      rotate_left
      · (go_simp; try with_reducible rfl)
      try simp only [Act.put, List.setIfInBounds_toArray, List.set_cons_zero, List.set_cons_succ]
      refine h_step 3 (by kernel_rfl) rfl (fun K hK => ?_)
      go_simp
      (refine (without_any _ ps ls j (.agg #[.slice qa ps.length qc, .slice aa ls.length ac]) _ hp hlt (HV.out.below (WX.out u0))).mono ?_)
      rintro e w7 ⟨v', rfl, hn, hB7⟩
      obtain ⟨qb, ab, qd, ad, rfl⟩ := hn.form
      generalize hlen : (ps.take j ++ ps.drop (j + 1)).length = nn at hn ⊢
      have HL := hid hlen; clear hlen
      have HN := hid hn; clear hn
      obtain ⟨v1, rfl⟩ : ∃ v1 : After X, w7 = v1.w := ⟨u0.on hB7, rfl⟩
      have hs7 := hB7.size
      clear hB7
      go_simp
      refine hK _ v1 ?_
      clear hK K
      try simp only [Act.put, List.setIfInBounds_toArray, List.set_cons_zero, List.set_cons_succ]
      refine tail_go (by kernel_rfl) ?_
      refine tail_in ?_
      refine t_step 4 (by kernel_rfl) rfl (fun K hK => ?_)
      go_simp
      refine hK _ _ ?_
      clear hK K
      try simp only [Act.put, List.setIfInBounds_toArray, List.set_cons_zero, List.set_cons_succ]
      refine t_step 5 (by kernel_rfl) rfl (fun K hK => ?_)
      go_simp
      refine hK _ _ ?_
      clear hK K
      try simp only [Act.put, List.setIfInBounds_toArray, List.set_cons_zero, List.set_cons_succ]
      refine t_take 6 (x := ?_) rfl (by kernel_rfl) (by kernel_rfl) (by kernel_rfl) (fun _ _ _ h => h) (by rfl) (fun w => ?_) ?_
      rotate_left
      · (go_simp; try with_reducible rfl)
      try simp only [Act.put, List.setIfInBounds_toArray, List.set_cons_zero, List.set_cons_succ]
      refine wpAnyH_done (by kernel_rfl) ?_ _
      refine NoPanic.normal ?_
      generalize hZ : World.setCell _ _ _ = Z
      have q0 : Z.cell? ⟨w.heap.size + 1, 0, none⟩ = some (.int .i64 p.fr) := by rw [← hZ]; exact st_off _ (.inr (by omega)) (st_off _ (.inr (by omega)) (st_off _ (.inl (by decide)) (st_off _ (.inl (by decide)) (st_hit _ (p0 v1)))))
      have q1 : Z.cell? ⟨w.heap.size + 1, 1, none⟩ = some (.int .i64 p.to) := by rw [← hZ]; exact st_off _ (.inr (by omega)) (st_off _ (.inr (by omega)) (st_off _ (.inl (by decide)) (st_hit _ (st_off _ (.inl (by decide)) (p1 v1)))))
      have q2 : Z.cell? ⟨w.heap.size + 1, 2, none⟩ = some (.slice p.da p.dn p.dc) := by rw [← hZ]; exact st_off _ (.inr (by omega)) (st_off _ (.inr (by omega)) (st_hit _ (st_off _ (.inl (by decide)) (st_off _ (.inl (by decide)) (p2 v1)))))
      have r0 : Z.cell? ⟨w.heap.size + 1 + 1, 0, none⟩ = some (.slice qb nn qd) := by rw [← hZ]; exact st_off _ (.inl (by decide)) (st_hit _ (st_off _ (.inr (by omega)) (st_off _ (.inr (by omega)) (st_off _ (.inr (by omega)) (e0 v1)))))
      have r1 : Z.cell? ⟨w.heap.size + 1 + 1, 1, none⟩ = some (.slice ab ls.length ad) := by rw [← hZ]; exact st_hit _ (st_off _ (.inl (by decide)) (st_off _ (.inr (by omega)) (st_off _ (.inr (by omega)) (st_off _ (.inr (by omega)) (e1 v1)))))
      have hWZ : Below w.heap.size w Z := by
        rw [← hZ]
        iterate 5 (refine b_set ?_ (by omega) _)
        exact WX.out v1
      have hs0 : w.heap.size + 1 + 1 < u0.w.heap.size := ze u0
      have hNZ : NetIs (fun g => ok g ∨ w.heap.size ≤ g) Z (.agg #[.slice qb nn qd, .slice ab ls.length ad]) (ps.take j ++ ps.drop (j + 1)) ls := by
        rw [← hZ]
        refine NetIs.mono (ok := fun g => (ok g ∧ g < w.heap.size) ∨ u0.w.heap.size ≤ g) ?_ (fun g h => h.elim (fun h => .inl h.1) (fun h => .inr (by omega)))
        iterate 5 (refine NetIs.set ?_ (by omega) _)
        exact HN.out
      have HNZ := hid hNZ
      clear hZ hNZ
      go_wp2_with fail
      refine bodyPost_ret (v := .tuple #[.agg #[.int .i64 p.fr, .int .i64 p.to, .slice p.da p.dn p.dc], .agg #[.slice qb nn qd, .slice ab ls.length ad], .int .i64 0]) (by simp [results, Try.results18, go_sem, q0, q1, q2, r0, r1]) rfl ⟨_, by rw [Hk.out, HD.out]; rfl, ?_, hWZ⟩
      rw [show leftQ ps ls j = ps.take j ++ ps.drop (j + 1) by simp [leftQ, Hk.out], show leftL ps ls j = ls by simp [leftL, Hk.out]]
      exact HNZ.out
    · have HD := hid (show delP ps ls j = Pk.zero by simp only [delP, Hk.out, Hp.out, cutIn, hct]; rfl)
      go_upto_region 6 with fail
      obtain ⟨Y, hY⟩ : ∃ Y, Y = (((u5.w.setCell ⟨w.heap.size + 1, 0, none⟩ (.int .i64 0)).setCell ⟨w.heap.size + 1, 1, none⟩ (.int .i64 0)).setCell ⟨w.heap.size + 1, 2, none⟩ (.slice none 0 0)) := ⟨_, rfl⟩
      replace c0 : ∀ v : After Y, v.w.cell? ⟨w.heap.size, 0, none⟩ = some (.slice qa ps.length qc) := after_cell (by rw [hY]; simpa using cell_lt (c0 u5)) (by rw [hY]; exact (st_off _ (by first | (left; decide) | (right; omega) | (right; simp; omega)) (st_off _ (by first | (left; decide) | (right; omega) | (right; simp; omega)) (st_off _ (by first | (left; decide) | (right; omega) | (right; simp; omega)) (c0 u5)))))
      replace fc0 : ∀ v : After Y, v.w.frozen? ⟨w.heap.size, 0, none⟩ = false := after_frozen (by rw [hY]; simpa using zc u5) (by rw [hY]; exact (sf _ (sf _ (sf _ (fc0 u5)))))
      replace c1 : ∀ v : After Y, v.w.cell? ⟨w.heap.size, 1, none⟩ = some (.slice aa ls.length ac) := after_cell (by rw [hY]; simpa using cell_lt (c1 u5)) (by rw [hY]; exact (st_off _ (by first | (left; decide) | (right; omega) | (right; simp; omega)) (st_off _ (by first | (left; decide) | (right; omega) | (right; simp; omega)) (st_off _ (by first | (left; decide) | (right; omega) | (right; simp; omega)) (c1 u5)))))
      replace fc1 : ∀ v : After Y, v.w.frozen? ⟨w.heap.size, 1, none⟩ = false := after_frozen (by rw [hY]; simpa using zc u5) (by rw [hY]; exact (sf _ (sf _ (sf _ (fc1 u5)))))
      replace p0 : ∀ v : After Y, v.w.cell? ⟨w.heap.size + 1, 0, none⟩ = some (.int .i64 0) := after_cell (by rw [hY]; simpa using cell_lt (p0 u5)) (by rw [hY]; exact (st_off _ (.inl (by decide)) (st_off _ (.inl (by decide)) (st_hit _ (p0 u5)))))
      replace fp0 : ∀ v : After Y, v.w.frozen? ⟨w.heap.size + 1, 0, none⟩ = false := after_frozen (by rw [hY]; simpa using zp u5) (by rw [hY]; exact (sf _ (sf _ (sf _ (fp0 u5)))))
      replace p1 : ∀ v : After Y, v.w.cell? ⟨w.heap.size + 1, 1, none⟩ = some (.int .i64 0) := after_cell (by rw [hY]; simpa using cell_lt (p1 u5)) (by rw [hY]; exact (st_off _ (.inl (by decide)) (st_hit _ (st_off _ (.inl (by decide)) (p1 u5)))))
      replace fp1 : ∀ v : After Y, v.w.frozen? ⟨w.heap.size + 1, 1, none⟩ = false := after_frozen (by rw [hY]; simpa using zp u5) (by rw [hY]; exact (sf _ (sf _ (sf _ (fp1 u5)))))
      replace p2 : ∀ v : After Y, v.w.cell? ⟨w.heap.size + 1, 2, none⟩ = some (.slice none 0 0) := after_cell (by rw [hY]; simpa using cell_lt (p2 u5)) (by rw [hY]; exact (st_hit _ (st_off _ (.inl (by decide)) (st_off _ (.inl (by decide)) (p2 u5)))))
      replace fp2 : ∀ v : After Y, v.w.frozen? ⟨w.heap.size + 1, 2, none⟩ = false := after_frozen (by rw [hY]; simpa using zp u5) (by rw [hY]; exact (sf _ (sf _ (sf _ (fp2 u5)))))
      replace e0 : ∀ v : After Y, v.w.cell? ⟨w.heap.size + 1 + 1, 0, none⟩ = some (.slice none 0 0) := after_cell (by rw [hY]; simpa using cell_lt (e0 u5)) (by rw [hY]; exact (st_off _ (by first | (left; decide) | (right; omega) | (right; simp; omega)) (st_off _ (by first | (left; decide) | (right; omega) | (right; simp; omega)) (st_off _ (by first | (left; decide) | (right; omega) | (right; simp; omega)) (e0 u5)))))
      replace fe0 : ∀ v : After Y, v.w.frozen? ⟨w.heap.size + 1 + 1, 0, none⟩ = false := after_frozen (by rw [hY]; simpa using ze u5) (by rw [hY]; exact (sf _ (sf _ (sf _ (fe0 u5)))))
      replace e1 : ∀ v : After Y, v.w.cell? ⟨w.heap.size + 1 + 1, 1, none⟩ = some (.slice none 0 0) := after_cell (by rw [hY]; simpa using cell_lt (e1 u5)) (by rw [hY]; exact (st_off _ (by first | (left; decide) | (right; omega) | (right; simp; omega)) (st_off _ (by first | (left; decide) | (right; omega) | (right; simp; omega)) (st_off _ (by first | (left; decide) | (right; omega) | (right; simp; omega)) (e1 u5)))))
      replace fe1 : ∀ v : After Y, v.w.frozen? ⟨w.heap.size + 1 + 1, 1, none⟩ = false := after_frozen (by rw [hY]; simpa using ze u5) (by rw [hY]; exact (sf _ (sf _ (sf _ (fe1 u5)))))
      replace zc : ∀ v : After Y, w.heap.size < v.w.heap.size := after_size (by rw [hY]; simpa using zc u5)
      replace zp : ∀ v : After Y, w.heap.size + 1 < v.w.heap.size := after_size (by rw [hY]; simpa using zp u5)
      replace ze : ∀ v : After Y, w.heap.size + 1 + 1 < v.w.heap.size := after_size (by rw [hY]; simpa using ze u5)
      have hwY : Below w.heap.size w Y := by rw [hY]; exact (b_set (b_set (b_set (WX.out u5) (by omega) _) (by omega) _) (by omega) _)
      have WY := hid (after_below hwY)
      rw [← hY]
      obtain ⟨y, hu⟩ : ∃ u : After Y, u.w = Y := ⟨After.here Y, rfl⟩
      rw [← hu]
      have HY := hid hY
      clear hu hY
      refine region_split 4 (by kernel_rfl) (by kernel_rfl) rfl ?_
      intro u0
      simp only [List.take_succ_cons, List.take_zero]
      refine h_take 0 (x := ?_) rfl (by kernel_rfl) (by kernel_rfl) (by kernel_rfl) (fun _ _ _ h => h) (by rfl) (fun v => ?_) ?_
      rotate_left
      · (go_simp; try with_reducible rfl)
      try simp only [Act.put, List.setIfInBounds_toArray, List.set_cons_zero, List.set_cons_succ]
      refine h_take 1 (x := ?_) rfl (by kernel_rfl) (by kernel_rfl) (by kernel_rfl) (fun _ _ _ h => h) (by rfl) (fun v => ?_) ?_
      rotate_left
      · (go_simp; try with_reducible rfl)
      try simp only [Act.put, List.setIfInBounds_toArray, List.set_cons_zero, List.set_cons_succ]
      refine h_take 2 (x := ?_) rfl (by kernel_rfl) (by kernel_rfl) (by kernel_rfl) (fun _ _ _ h => h) (by rfl) (fun v => ?_) ?_
      rotate_left
      · (go_simp; try with_reducible rfl)
      try simp only [Act.put, List.setIfInBounds_toArray, List.set_cons_zero, List.set_cons_succ]
      refine h_step 3 (by kernel_rfl) rfl (fun K hK => ?_)
      go_simp
      (refine (without_any _ ps ls j (.agg #[.slice qa ps.length qc, .slice aa ls.length ac]) _ hp hlt (HV.out.below (WY.out u0))).mono ?_)
      rintro e w7 ⟨v', rfl, hn, hB7⟩
      obtain ⟨qb, ab, qd, ad, rfl⟩ := hn.form
      generalize hlen : (ps.take j ++ ps.drop (j + 1)).length = nn at hn ⊢
      have HL := hid hlen; clear hlen
      have HN := hid hn; clear hn
      obtain ⟨v1, rfl⟩ : ∃ v1 : After Y, w7 = v1.w := ⟨u0.on hB7, rfl⟩
      have hs7 := hB7.size
      clear hB7
      go_simp
      refine hK _ v1 ?_
      clear hK K
      try simp only [Act.put, List.setIfInBounds_toArray, List.set_cons_zero, List.set_cons_succ]
      refine tail_go (by kernel_rfl) ?_
      refine tail_in ?_
      refine t_step 4 (by kernel_rfl) rfl (fun K hK => ?_)
      go_simp
      refine hK _ _ ?_
      clear hK K
      try simp only [Act.put, List.setIfInBounds_toArray, List.set_cons_zero, List.set_cons_succ]
      refine t_step 5 (by kernel_rfl) rfl (fun K hK => ?_)
      go_simp
      refine hK _ _ ?_
      clear hK K
      try simp only [Act.put, List.setIfInBounds_toArray, List.set_cons_zero, List.set_cons_succ]
      refine t_take 6 (x := ?_) rfl (by kernel_rfl) (by kernel_rfl) (by kernel_rfl) (fun _ _ _ h => h) (by rfl) (fun w => ?_) ?_
      rotate_left
      · (go_simp; try with_reducible rfl)
      try simp only [Act.put, List.setIfInBounds_toArray, List.set_cons_zero, List.set_cons_succ]
      refine wpAnyH_done (by kernel_rfl) ?_ _
      refine NoPanic.normal ?_
      generalize hZ : World.setCell _ _ _ = Z
      have q0 : Z.cell? ⟨w.heap.size + 1, 0, none⟩ = some (.int .i64 0) := by rw [← hZ]; exact st_off _ (.inr (by omega)) (st_off _ (.inr (by omega)) (st_off _ (.inl (by decide)) (st_off _ (.inl (by decide)) (st_hit _ (p0 v1)))))
      have q1 : Z.cell? ⟨w.heap.size + 1, 1, none⟩ = some (.int .i64 0) := by rw [← hZ]; exact st_off _ (.inr (by omega)) (st_off _ (.inr (by omega)) (st_off _ (.inl (by decide)) (st_hit _ (st_off _ (.inl (by decide)) (p1 v1)))))
      have q2 : Z.cell? ⟨w.heap.size + 1, 2, none⟩ = some (.slice none 0 0) := by rw [← hZ]; exact st_off _ (.inr (by omega)) (st_off _ (.inr (by omega)) (st_hit _ (st_off _ (.inl (by decide)) (st_off _ (.inl (by decide)) (p2 v1)))))
      have r0 : Z.cell? ⟨w.heap.size + 1 + 1, 0, none⟩ = some (.slice qb nn qd) := by rw [← hZ]; exact st_off _ (.inl (by decide)) (st_hit _ (st_off _ (.inr (by omega)) (st_off _ (.inr (by omega)) (st_off _ (.inr (by omega)) (e0 v1)))))
      have r1 : Z.cell? ⟨w.heap.size + 1 + 1, 1, none⟩ = some (.slice ab ls.length ad) := by rw [← hZ]; exact st_hit _ (st_off _ (.inl (by decide)) (st_off _ (.inr (by omega)) (st_off _ (.inr (by omega)) (st_off _ (.inr (by omega)) (e1 v1)))))
      have hWZ : Below w.heap.size w Z := by
        rw [← hZ]
        iterate 5 (refine b_set ?_ (by omega) _)
        exact WY.out v1
      have hs0 : w.heap.size + 1 + 1 < u0.w.heap.size := ze u0
      have hNZ : NetIs (fun g => ok g ∨ w.heap.size ≤ g) Z (.agg #[.slice qb nn qd, .slice ab ls.length ad]) (ps.take j ++ ps.drop (j + 1)) ls := by
        rw [← hZ]
        refine NetIs.mono (ok := fun g => (ok g ∧ g < w.heap.size) ∨ u0.w.heap.size ≤ g) ?_ (fun g h => h.elim (fun h => .inl h.1) (fun h => .inr (by omega)))
        iterate 5 (refine NetIs.set ?_ (by omega) _)
        exact HN.out
      have HNZ := hid hNZ
      clear hZ hNZ
      go_wp2_with fail
      refine bodyPost_ret (v := .tuple #[.agg #[.int .i64 0, .int .i64 0, .slice none 0 0], .agg #[.slice qb nn qd, .slice ab ls.length ad], .int .i64 0]) (by simp [results, Try.results18, go_sem, q0, q1, q2, r0, r1]) rfl ⟨_, by rw [Hk.out, HD.out]; rfl, ?_, hWZ⟩
      rw [show leftQ ps ls j = ps.take j ++ ps.drop (j + 1) by simp [leftQ, Hk.out], show leftL ps ls j = ls by simp [leftL, Hk.out]]
      exact HNZ.out
  · have Hk := hid hk
    have hg : got ps ls i = Pk.zero := by simp [got, hk]
    have hb : (ask ps ls i == 0) = false := beq_eq_false_iff_ne.2 hk
    rw [hg] at hgv ⊢
    have hz : Pk.zero.v = .agg #[.int .i64 0, .int .i64 0, .slice none 0 0] := rfl
    rw [hz]
    have HD := hid (show delP ps ls i = Pk.zero by simp [delP, hk])
    clear hk hg hgv
    go_upto_region 3 with fail
    obtain ⟨X, hX⟩ : ∃ X, X = (((u1.w.setCell ⟨w.heap.size + 1, 0, none⟩ (.int .i64 0)).setCell ⟨w.heap.size + 1, 1, none⟩ (.int .i64 0)).setCell ⟨w.heap.size + 1, 2, none⟩ (.slice none 0 0)) := ⟨_, rfl⟩
    replace c0 : ∀ v : After X, v.w.cell? ⟨w.heap.size, 0, none⟩ = some (.slice qa ps.length qc) := after_cell (by rw [hX]; simpa using cell_lt (c0 u1)) (by rw [hX]; exact (st_off _ (by first | (left; decide) | (right; omega) | (right; simp; omega)) (st_off _ (by first | (left; decide) | (right; omega) | (right; simp; omega)) (st_off _ (by first | (left; decide) | (right; omega) | (right; simp; omega)) (c0 u1)))))
    replace fc0 : ∀ v : After X, v.w.frozen? ⟨w.heap.size, 0, none⟩ = false := after_frozen (by rw [hX]; simpa using zc u1) (by rw [hX]; exact (sf _ (sf _ (sf _ (fc0 u1)))))
    replace c1 : ∀ v : After X, v.w.cell? ⟨w.heap.size, 1, none⟩ = some (.slice aa ls.length ac) := after_cell (by rw [hX]; simpa using cell_lt (c1 u1)) (by rw [hX]; exact (st_off _ (by first | (left; decide) | (right; omega) | (right; simp; omega)) (st_off _ (by first | (left; decide) | (right; omega) | (right; simp; omega)) (st_off _ (by first | (left; decide) | (right; omega) | (right; simp; omega)) (c1 u1)))))
    replace fc1 : ∀ v : After X, v.w.frozen? ⟨w.heap.size, 1, none⟩ = false := after_frozen (by rw [hX]; simpa using zc u1) (by rw [hX]; exact (sf _ (sf _ (sf _ (fc1 u1)))))
    replace p0 : ∀ v : After X, v.w.cell? ⟨w.heap.size + 1, 0, none⟩ = some (.int .i64 0) := after_cell (by rw [hX]; simpa using cell_lt (p0 u1)) (by rw [hX]; exact (st_off _ (.inl (by decide)) (st_off _ (.inl (by decide)) (st_hit _ (p0 u1)))))
    replace fp0 : ∀ v : After X, v.w.frozen? ⟨w.heap.size + 1, 0, none⟩ = false := after_frozen (by rw [hX]; simpa using zp u1) (by rw [hX]; exact (sf _ (sf _ (sf _ (fp0 u1)))))
    replace p1 : ∀ v : After X, v.w.cell? ⟨w.heap.size + 1, 1, none⟩ = some (.int .i64 0) := after_cell (by rw [hX]; simpa using cell_lt (p1 u1)) (by rw [hX]; exact (st_off _ (.inl (by decide)) (st_hit _ (st_off _ (.inl (by decide)) (p1 u1)))))
    replace fp1 : ∀ v : After X, v.w.frozen? ⟨w.heap.size + 1, 1, none⟩ = false := after_frozen (by rw [hX]; simpa using zp u1) (by rw [hX]; exact (sf _ (sf _ (sf _ (fp1 u1)))))
    replace p2 : ∀ v : After X, v.w.cell? ⟨w.heap.size + 1, 2, none⟩ = some (.slice none 0 0) := after_cell (by rw [hX]; simpa using cell_lt (p2 u1)) (by rw [hX]; exact (st_hit _ (st_off _ (.inl (by decide)) (st_off _ (.inl (by decide)) (p2 u1)))))
    replace fp2 : ∀ v : After X, v.w.frozen? ⟨w.heap.size + 1, 2, none⟩ = false := after_frozen (by rw [hX]; simpa using zp u1) (by rw [hX]; exact (sf _ (sf _ (sf _ (fp2 u1)))))
    replace e0 : ∀ v : After X, v.w.cell? ⟨w.heap.size + 1 + 1, 0, none⟩ = some (.slice none 0 0) := after_cell (by rw [hX]; simpa using cell_lt (e0 u1)) (by rw [hX]; exact (st_off _ (by first | (left; decide) | (right; omega) | (right; simp; omega)) (st_off _ (by first | (left; decide) | (right; omega) | (right; simp; omega)) (st_off _ (by first | (left; decide) | (right; omega) | (right; simp; omega)) (e0 u1)))))
    replace fe0 : ∀ v : After X, v.w.frozen? ⟨w.heap.size + 1 + 1, 0, none⟩ = false := after_frozen (by rw [hX]; simpa using ze u1) (by rw [hX]; exact (sf _ (sf _ (sf _ (fe0 u1)))))
    replace e1 : ∀ v : After X, v.w.cell? ⟨w.heap.size + 1 + 1, 1, none⟩ = some (.slice none 0 0) := after_cell (by rw [hX]; simpa using cell_lt (e1 u1)) (by rw [hX]; exact (st_off _ (by first | (left; decide) | (right; omega) | (right; simp; omega)) (st_off _ (by first | (left; decide) | (right; omega) | (right; simp; omega)) (st_off _ (by first | (left; decide) | (right; omega) | (right; simp; omega)) (e1 u1)))))
    replace fe1 : ∀ v : After X, v.w.frozen? ⟨w.heap.size + 1 + 1, 1, none⟩ = false := after_frozen (by rw [hX]; simpa using ze u1) (by rw [hX]; exact (sf _ (sf _ (sf _ (fe1 u1)))))
    replace zc : ∀ v : After X, w.heap.size < v.w.heap.size := after_size (by rw [hX]; simpa using zc u1)
    replace zp : ∀ v : After X, w.heap.size + 1 < v.w.heap.size := after_size (by rw [hX]; simpa using zp u1)
    replace ze : ∀ v : After X, w.heap.size + 1 + 1 < v.w.heap.size := after_size (by rw [hX]; simpa using ze u1)
    have hwX : Below w.heap.size w X := by rw [hX]; exact (b_set (b_set (b_set (WV.out u1) (by omega) _) (by omega) _) (by omega) _)
    have WX := hid (after_below hwX)
    rw [← hX]
    obtain ⟨x, hu⟩ : ∃ u : After X, u.w = X := ⟨After.here X, rfl⟩
    rw [← hu]
    have HX := hid hX
    clear hu hX
    have t0 := three0 (p0 x)
    have t1 := three1 (p1 x)
    have t2 := three2 (p2 x)
    have r0 := two0 (e0 x)
    have r1 := two1 (e1 x)
    have r0z := fun a b c => two0 (st_off c (by first | (left; decide) | (right; omega) | (right; simp; omega)) (st_off b (by first | (left; decide) | (right; omega) | (right; simp; omega)) (st_off a (by first | (left; decide) | (right; omega) | (right; simp; omega)) (e0 x) : (x.w.setCell ⟨w.heap.size + 1, 0, none⟩ a).cell? _ = _) : ((x.w.setCell ⟨w.heap.size + 1, 0, none⟩ a).setCell ⟨w.heap.size + 1, 1, none⟩ b).cell? _ = _) : (((x.w.setCell ⟨w.heap.size + 1, 0, none⟩ a).setCell ⟨w.heap.size + 1, 1, none⟩ b).setCell ⟨w.heap.size + 1, 2, none⟩ c).cell? _ = _)
    have r1z := fun a b c => two1 (st_off c (by first | (left; decide) | (right; omega) | (right; simp; omega)) (st_off b (by first | (left; decide) | (right; omega) | (right; simp; omega)) (st_off a (by first | (left; decide) | (right; omega) | (right; simp; omega)) (e1 x) : (x.w.setCell ⟨w.heap.size + 1, 0, none⟩ a).cell? _ = _) : ((x.w.setCell ⟨w.heap.size + 1, 0, none⟩ a).setCell ⟨w.heap.size + 1, 1, none⟩ b).cell? _ = _) : (((x.w.setCell ⟨w.heap.size + 1, 0, none⟩ a).setCell ⟨w.heap.size + 1, 1, none⟩ b).setCell ⟨w.heap.size + 1, 2, none⟩ c).cell? _ = _)
    go_region_held3 (fun w' => w'.cell? ⟨w.heap.size + 1, 0, none⟩ = some (.int .i64 0) ∧ w'.cell? ⟨w.heap.size + 1, 1, none⟩ = some (.int .i64 0) ∧ w'.cell? ⟨w.heap.size + 1, 2, none⟩ = some (.slice none 0 0) ∧ w'.cell? ⟨w.heap.size + 1 + 1, 0, none⟩ = some (.slice none 0 0) ∧ w'.cell? ⟨w.heap.size + 1 + 1, 1, none⟩ = some (.slice none 0 0)) (go_keep) (fail)
    all_goals (
      clear t0 t1 t2 r0 r1 r0z r1z
      generalize hZ : World.drew _ = Z
      have q0 : Z.cell? ⟨w.heap.size + 1, 0, none⟩ = some (.int .i64 0) := by rw [← hZ, World.cell?_drew]; exact st_off _ (.inr (by omega)) (st_off _ (.inr (by omega)) (st_off _ (.inl (by decide)) (st_off _ (.inl (by decide)) (st_hit _ (p0 x)))))
      have q1 : Z.cell? ⟨w.heap.size + 1, 1, none⟩ = some (.int .i64 0) := by rw [← hZ, World.cell?_drew]; exact st_off _ (.inr (by omega)) (st_off _ (.inr (by omega)) (st_off _ (.inl (by decide)) (st_hit _ (st_off _ (.inl (by decide)) (p1 x)))))
      have q2 : Z.cell? ⟨w.heap.size + 1, 2, none⟩ = some (.slice none 0 0) := by rw [← hZ, World.cell?_drew]; exact st_off _ (.inr (by omega)) (st_off _ (.inr (by omega)) (st_hit _ (st_off _ (.inl (by decide)) (st_off _ (.inl (by decide)) (p2 x)))))
      have r0 : Z.cell? ⟨w.heap.size + 1 + 1, 0, none⟩ = some (.slice none 0 0) := by rw [← hZ, World.cell?_drew]; exact st_off _ (.inl (by decide)) (st_hit _ (st_off _ (.inr (by omega)) (st_off _ (.inr (by omega)) (st_off _ (.inr (by omega)) (e0 x)))))
      have r1 : Z.cell? ⟨w.heap.size + 1 + 1, 1, none⟩ = some (.slice none 0 0) := by rw [← hZ, World.cell?_drew]; exact st_hit _ (st_off _ (.inl (by decide)) (st_off _ (.inr (by omega)) (st_off _ (.inr (by omega)) (st_off _ (.inr (by omega)) (e1 x)))))
      have hWZ : Below w.heap.size w Z := by
        rw [← hZ]
        refine b_drew ?_
        iterate 5 (refine b_set ?_ (by omega) _)
        exact WX.out x
      clear hZ
      go_wp2_with fail
      refine bodyPost_ret (v := .tuple #[.agg #[.int .i64 0, .int .i64 0, .slice none 0 0], .agg #[.slice none 0 0, .slice none 0 0], .int .i64 (ask ps ls i)]) (by simp [results, Try.results18, go_sem, q0, q1, q2, r0, r1]) rfl ⟨_, by rw [HD.out]; rfl, ?_, hWZ⟩
      rw [show leftQ ps ls i = [] by simp [leftQ, Hk.out], show leftL ps ls i = [] by simp [leftL, Hk.out]]
      exact NetIs.zero _ _)
end Go.Proofs.Ytmikhkmdcpgkfaa
