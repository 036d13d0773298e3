/- SamePacket, Same. -/
import Derived.Test.YtmikhkmdcpgkfaaW
import Derived.Laws.IdiomStrings
import Derived.Laws.BytesArg
namespace Go.Proofs.Ytmikhkmdcpgkfaa
open Go.RowKit
open Go.Lib (hid)

/-- A packet's data. -/
def DataIs (w : World) (p : Pk) (bs : List UInt8) : Prop := p.dn = bs.length ∧ Rd w p.da (bs.map fun b => Value.int .u8 (b.toNat : Int))
theorem DataIs.below {w w' : World} {p : Pk} {bs : List UInt8} (h : DataIs w p bs) (hB : Below w.heap.size w w') : DataIs w' p bs := ⟨h.1, h.2.below hB⟩
theorem und26 : Try.prog.underlying 26 = some (.slice 5) := by kernel_rfl
theorem und5 : Try.prog.underlying 5 = some (.int .u8) := by kernel_rfl
theorem und9 : Try.prog.underlying 9 = some .string := by kernel_rfl
theorem data_conv {w : World} {p : Pk} {bs : List UInt8} (h : DataIs w p bs) : (convert 26 9 (.slice p.da p.dn p.dc)).run Try.prog w = .ok (.string ⟨bs.toArray⟩) w := by
  obtain ⟨hn, hr⟩ := h
  cases hda : p.da with
  | none =>
    rw [hda] at hr
    have h0 : bs = [] := by
      rcases hr with h | ⟨b, off, h, _⟩
      · simpa using h
      · cases h
    subst h0
    exact run_convert_bytes_nil w 26 5 und26 und5 _ _ 9 und9
  | some ad =>
    rw [hda] at hr
    rw [hn]
    refine run_convert_bytes_back w 26 9 5 ad p.dc bs und26 und5 und9 fun j hj => ?_
    exact hr.adds (Below.refl _ _) ad rfl j _ (by simp [hj])
/-- What a packet says. -/
def core (d : Pk → List UInt8) (p : Pk) : Int × Int × List UInt8 := (p.fr, p.to, d p)

set_option maxHeartbeats 1000000 in
theorem samePacket_any (d : Pk → List UInt8) (p q : Pk) (w : World) (hp : DataIs w p (d p)) (hq : DataIs w q (d q)) :
    Calls Try.prog 19 #[p.v, q.v] w fun e w' => e = .returned (.bool (decide (core d p = core d q))) ∧ Below w.heap.size w w' := by
  rw [show p.v = .agg #[.int .i64 p.fr, .int .i64 p.to, .slice p.da p.dn p.dc] from rfl, show q.v = .agg #[.int .i64 q.fr, .int .i64 q.to, .slice q.da q.dn q.dc] from rfl]
  by_cases h1 : p.fr = q.fr
  · have h1' : (p.fr == q.fr) = true := by simpa using h1
    by_cases h2 : p.to = q.to
    · have h2' : (p.to == q.to) = true := by simpa using h2
      have hsame : decide (core d p = core d q) = decide (d p = d q) := by simp [core, h1, h2]
      have HS := hid hsame; clear hsame h1 h2
      have HP := hid hp; have HQ := hid hq
      clear hp hq
      go_enter Try.func19, Try.ntmps19
      go_upto_region 1 with fail
      obtain ⟨V, hV⟩ : ∃ V, V = ((w.alloc (.cells #[.int .i64 p.fr, .int .i64 p.to, .slice p.da p.dn p.dc] 28)).alloc (.cells #[.int .i64 q.fr, .int .i64 q.to, .slice q.da q.dn q.dc] 28)) := ⟨_, rfl⟩
      have a0 : ∀ v : After V, v.w.cell? ⟨w.heap.size, 0, none⟩ = some (.int .i64 p.fr) := after_cell (by rw [hV]; first | (simp; done) | omega | (simp; omega)) (by rw [hV]; (repeat (first | with_reducible assumption | exact bn (by first | (simp; done) | omega | (simp; omega)) rfl | refine bo (by first | (simp; done) | omega | (simp; omega)) ?_)))
      have fa0 : ∀ v : After V, v.w.frozen? ⟨w.heap.size, 0, none⟩ = false := after_frozen (by rw [hV]; first | (simp; done) | omega | (simp; omega)) (by rw [hV]; (repeat (first | exact fn (by first | (simp; done) | omega | (simp; omega)) | refine fo (by first | (simp; done) | omega | (simp; omega)) ?_)))
      have a1 : ∀ v : After V, v.w.cell? ⟨w.heap.size, 1, none⟩ = some (.int .i64 p.to) := after_cell (by rw [hV]; first | (simp; done) | omega | (simp; omega)) (by rw [hV]; (repeat (first | with_reducible assumption | exact bn (by first | (simp; done) | omega | (simp; omega)) rfl | refine bo (by first | (simp; done) | omega | (simp; omega)) ?_)))
      have fa1 : ∀ v : After V, v.w.frozen? ⟨w.heap.size, 1, none⟩ = false := after_frozen (by rw [hV]; first | (simp; done) | omega | (simp; omega)) (by rw [hV]; (repeat (first | exact fn (by first | (simp; done) | omega | (simp; omega)) | refine fo (by first | (simp; done) | omega | (simp; omega)) ?_)))
      have a2 : ∀ v : After V, v.w.cell? ⟨w.heap.size, 2, none⟩ = some (.slice p.da p.dn p.dc) := after_cell (by rw [hV]; first | (simp; done) | omega | (simp; omega)) (by rw [hV]; (repeat (first | with_reducible assumption | exact bn (by first | (simp; done) | omega | (simp; omega)) rfl | refine bo (by first | (simp; done) | omega | (simp; omega)) ?_)))
      have fa2 : ∀ v : After V, v.w.frozen? ⟨w.heap.size, 2, none⟩ = false := after_frozen (by rw [hV]; first | (simp; done) | omega | (simp; omega)) (by rw [hV]; (repeat (first | exact fn (by first | (simp; done) | omega | (simp; omega)) | refine fo (by first | (simp; done) | omega | (simp; omega)) ?_)))
      have za : ∀ v : After V, w.heap.size < v.w.heap.size := after_size (by rw [hV]; first | (simp; done) | omega | (simp; omega))
      have b0 : ∀ v : After V, v.w.cell? ⟨w.heap.size + 1, 0, none⟩ = some (.int .i64 q.fr) := after_cell (by rw [hV]; first | (simp; done) | omega | (simp; omega)) (by rw [hV]; (repeat (first | with_reducible assumption | exact bn (by first | (simp; done) | omega | (simp; omega)) rfl | refine bo (by first | (simp; done) | omega | (simp; omega)) ?_)))
      have fb0 : ∀ v : After V, v.w.frozen? ⟨w.heap.size + 1, 0, none⟩ = false := after_frozen (by rw [hV]; first | (simp; done) | omega | (simp; omega)) (by rw [hV]; (repeat (first | exact fn (by first | (simp; done) | omega | (simp; omega)) | refine fo (by first | (simp; done) | omega | (simp; omega)) ?_)))
      have b1 : ∀ v : After V, v.w.cell? ⟨w.heap.size + 1, 1, none⟩ = some (.int .i64 q.to) := after_cell (by rw [hV]; first | (simp; done) | omega | (simp; omega)) (by rw [hV]; (repeat (first | with_reducible assumption | exact bn (by first | (simp; done) | omega | (simp; omega)) rfl | refine bo (by first | (simp; done) | omega | (simp; omega)) ?_)))
      have fb1 : ∀ v : After V, v.w.frozen? ⟨w.heap.size + 1, 1, none⟩ = false := after_frozen (by rw [hV]; first | (simp; done) | omega | (simp; omega)) (by rw [hV]; (repeat (first | exact fn (by first | (simp; done) | omega | (simp; omega)) | refine fo (by first | (simp; done) | omega | (simp; omega)) ?_)))
      have b2 : ∀ v : After V, v.w.cell? ⟨w.heap.size + 1, 2, none⟩ = some (.slice q.da q.dn q.dc) := after_cell (by rw [hV]; first | (simp; done) | omega | (simp; omega)) (by rw [hV]; (repeat (first | with_reducible assumption | exact bn (by first | (simp; done) | omega | (simp; omega)) rfl | refine bo (by first | (simp; done) | omega | (simp; omega)) ?_)))
      have fb2 : ∀ v : After V, v.w.frozen? ⟨w.heap.size + 1, 2, none⟩ = false := after_frozen (by rw [hV]; first | (simp; done) | omega | (simp; omega)) (by rw [hV]; (repeat (first | exact fn (by first | (simp; done) | omega | (simp; omega)) | refine fo (by first | (simp; done) | omega | (simp; omega)) ?_)))
      have zb : ∀ v : After V, w.heap.size + 1 < v.w.heap.size := after_size (by rw [hV]; first | (simp; done) | omega | (simp; omega))
      have hwV : Below w.heap.size w V := by rw [hV]; exact (by repeat (first | exact Below.refl _ _ | assumption | refine b_then ?_ (by assumption) | refine b_alloc ?_ _ | refine b_drewN ?_ _ | refine b_drew ?_ | refine b_set ?_ (by omega) _ | refine b_set ?_ (by simp) _))
      have WV := hid (after_below hwV)
      rw [← hV]
      obtain ⟨u0, hu⟩ : ∃ u : After V, u.w = V := ⟨After.here V, rfl⟩
      rw [← hu]
      clear hu hV
      have cp : ∀ v : After V, (convert 26 9 (.slice p.da p.dn p.dc)).run Try.prog v.w = .ok (.string ⟨(d p).toArray⟩) v.w := fun v => data_conv (HP.out.below (WV.out v))
      have cq : ∀ v : After V, (convert 26 9 (.slice q.da q.dn q.dc)).run Try.prog v.w = .ok (.string ⟨(d q).toArray⟩) v.w := fun v => data_conv (HQ.out.below (WV.out v))
      have W0 := WV.out
      by_cases h3 : d p = d q
      · have hs : (⟨(d p).toArray⟩ : ByteArray) = ⟨(d q).toArray⟩ := by rw [h3]
        have HS3 := hid h3
        rw [hs] at cp
        clear h3 hs
        go_wp2_with fail
        exact bodyPost_ret (v := .bool true) (by simp [results, Try.results19, go_sem]) rfl ⟨by rw [HS.out, HS3.out]; simp, W0 _⟩
      · go_wp2_with fail
        exact bodyPost_ret (v := .bool false) (by simp [results, Try.results19, go_sem, h3]) rfl ⟨by rw [HS.out, decide_eq_false h3], W0 _⟩
    · have h2' : (p.to == q.to) = false := by simpa using h2
      have hsame : decide (core d p = core d q) = false := by simp [core, h2]
      have HS := hid hsame; clear hsame h1 h2
      go_enter Try.func19, Try.ntmps19
      go_wp2_with fail
      exact bodyPost_ret (v := .bool false) (by simp [results, Try.results19, go_sem]) rfl ⟨by rw [HS.out], (by repeat (first | exact Below.refl _ _ | assumption | refine b_then ?_ (by assumption) | refine b_alloc ?_ _ | refine b_drewN ?_ _ | refine b_drew ?_ | refine b_set ?_ (by omega) _ | refine b_set ?_ (by simp) _))⟩
  · have h1' : (p.fr == q.fr) = false := by simpa using h1
    have hsame : decide (core d p = core d q) = false := by simp [core, h1]
    have HS := hid hsame; clear hsame h1
    go_enter Try.func19, Try.ntmps19
    go_wp2_with fail
    exact bodyPost_ret (v := .bool false) (by simp [results, Try.results19, go_sem]) rfl ⟨by rw [HS.out], (by repeat (first | exact Below.refl _ _ | assumption | refine b_then ?_ (by assumption) | refine b_alloc ?_ _ | refine b_drewN ?_ _ | refine b_drew ?_ | refine b_set ?_ (by omega) _ | refine b_set ?_ (by simp) _))⟩

theorem map_ne_len {α β γ : Type} {f : α → γ} {g : β → γ} {xs : List α} {ys : List β} (h : xs.length ≠ ys.length) : xs.map f ≠ ys.map g := fun e => h (by simpa using congrArg List.length e)
theorem map_eq_of {α γ : Type} {f : α → γ} {xs ys : List α} (hl : xs.length = ys.length) (h : ∀ i (h1 : i < xs.length) (h2 : i < ys.length), f xs[i] = f ys[i]) : xs.map f = ys.map f :=
  List.ext_getElem (by simpa using hl) fun i h1 h2 => by simpa using h i (by simpa using h1) (by simpa using h2)
theorem map_ne_at {α γ : Type} {f : α → γ} {xs ys : List α} {j : Nat} (h1 : j < xs.length) (h2 : j < ys.length) (h : f xs[j] ≠ f ys[j]) : xs.map f ≠ ys.map f := fun e => h (by
  have : (xs.map f)[j]'(by simpa using h1) = (ys.map f)[j]'(by simpa using h2) := by simp only [e]
  simpa using this)
theorem ext_all {P : Nat → Prop} {j : Nat} (h : Hid (∀ i, i < j → P i)) (hj : P j) : Hid (∀ i, i < j + 1 → P i) := hid fun i hi => by
  by_cases he : i = j
  · subst he; exact hj
  · exact h.out i (by omega)

set_option maxRecDepth 100000 in
set_option maxHeartbeats 4000000 in
theorem same_any (d : Pk → List UInt8) (ps qs : List Pk) (ls ms : List (Int × Int)) (v v2 : Value) (ok ok2 : Nat → Prop) (w : World) (hp : ps.length ≤ 1000) (hl : ls.length ≤ 1000) (hv : NetIs ok w v ps ls) (hv2 : NetIs ok2 w v2 qs ms)
    (hd : ∀ p, p ∈ ps ∨ p ∈ qs → DataIs w p (d p)) :
    Calls Try.prog 15 #[v, v2] w fun e w' => e = .returned (.bool (decide (ps.map (core d) = qs.map (core d) ∧ ls = ms))) ∧ Below w.heap.size w w' := by
  obtain ⟨qa, aa, qc, ac, rfl, hq, ha, -⟩ := hv
  obtain ⟨qb, ab, qd, ad, rfl, hq2, ha2, -⟩ := hv2
  have HQ := hid hq; have HA := hid ha; have HQ2 := hid hq2; have HA2 := hid ha2
  have HD := hid hd
  clear hq ha hq2 ha2 hd
  unfold netV
  have q0 := mix55
  have q1 := eq55
  by_cases h1 : ps.length = qs.length
  · have h1' : ((ps.length : Int) != qs.length) = false := by simp [h1]
    by_cases h2 : ls.length = ms.length
    · have h2' : ((ls.length : Int) != ms.length) = false := by simp [h2]
      have H1 := hid h1; have H2 := hid h2
      have h1a : qs.length ≤ ps.length := by omega
      have h1b : ps.length ≤ qs.length := by omega
      have h2a : ms.length ≤ ls.length := by omega
      have h2b : ls.length ≤ ms.length := by omega
      clear h1 h2
      go_enter Try.func15, Try.ntmps15
      go_upto_region 3 with fail
      obtain ⟨V, hV⟩ : ∃ V, V = ((w.alloc (.cells #[.slice qa ps.length qc, .slice aa ls.length ac] 25)).alloc (.cells #[.slice qb qs.length qd, .slice ab ms.length ad] 25)) := ⟨_, rfl⟩
      have a0 : ∀ v : After V, v.w.cell? ⟨w.heap.size, 0, none⟩ = some (.slice qa ps.length qc) := after_cell (by rw [hV]; first | (simp; done) | omega | (simp; omega)) (by rw [hV]; (repeat (first | with_reducible assumption | exact bn (by first | (simp; done) | omega | (simp; omega)) rfl | refine bo (by first | (simp; done) | omega | (simp; omega)) ?_)))
      have fa0 : ∀ v : After V, v.w.frozen? ⟨w.heap.size, 0, none⟩ = false := after_frozen (by rw [hV]; first | (simp; done) | omega | (simp; omega)) (by rw [hV]; (repeat (first | exact fn (by first | (simp; done) | omega | (simp; omega)) | refine fo (by first | (simp; done) | omega | (simp; omega)) ?_)))
      have a1 : ∀ v : After V, v.w.cell? ⟨w.heap.size, 1, none⟩ = some (.slice aa ls.length ac) := after_cell (by rw [hV]; first | (simp; done) | omega | (simp; omega)) (by rw [hV]; (repeat (first | with_reducible assumption | exact bn (by first | (simp; done) | omega | (simp; omega)) rfl | refine bo (by first | (simp; done) | omega | (simp; omega)) ?_)))
      have fa1 : ∀ v : After V, v.w.frozen? ⟨w.heap.size, 1, none⟩ = false := after_frozen (by rw [hV]; first | (simp; done) | omega | (simp; omega)) (by rw [hV]; (repeat (first | exact fn (by first | (simp; done) | omega | (simp; omega)) | refine fo (by first | (simp; done) | omega | (simp; omega)) ?_)))
      have za : ∀ v : After V, w.heap.size < v.w.heap.size := after_size (by rw [hV]; first | (simp; done) | omega | (simp; omega))
      have b0 : ∀ v : After V, v.w.cell? ⟨w.heap.size + 1, 0, none⟩ = some (.slice qb qs.length qd) := after_cell (by rw [hV]; first | (simp; done) | omega | (simp; omega)) (by rw [hV]; (repeat (first | with_reducible assumption | exact bn (by first | (simp; done) | omega | (simp; omega)) rfl | refine bo (by first | (simp; done) | omega | (simp; omega)) ?_)))
      have fb0 : ∀ v : After V, v.w.frozen? ⟨w.heap.size + 1, 0, none⟩ = false := after_frozen (by rw [hV]; first | (simp; done) | omega | (simp; omega)) (by rw [hV]; (repeat (first | exact fn (by first | (simp; done) | omega | (simp; omega)) | refine fo (by first | (simp; done) | omega | (simp; omega)) ?_)))
      have b1 : ∀ v : After V, v.w.cell? ⟨w.heap.size + 1, 1, none⟩ = some (.slice ab ms.length ad) := after_cell (by rw [hV]; first | (simp; done) | omega | (simp; omega)) (by rw [hV]; (repeat (first | with_reducible assumption | exact bn (by first | (simp; done) | omega | (simp; omega)) rfl | refine bo (by first | (simp; done) | omega | (simp; omega)) ?_)))
      have fb1 : ∀ v : After V, v.w.frozen? ⟨w.heap.size + 1, 1, none⟩ = false := after_frozen (by rw [hV]; first | (simp; done) | omega | (simp; omega)) (by rw [hV]; (repeat (first | exact fn (by first | (simp; done) | omega | (simp; omega)) | refine fo (by first | (simp; done) | omega | (simp; omega)) ?_)))
      have zb : ∀ v : After V, w.heap.size + 1 < v.w.heap.size := after_size (by rw [hV]; first | (simp; done) | omega | (simp; omega))
      have hwV : Below w.heap.size w V := by rw [hV]; exact (by repeat (first | exact Below.refl _ _ | assumption | refine b_then ?_ (by assumption) | refine b_alloc ?_ _ | refine b_drewN ?_ _ | refine b_drew ?_ | refine b_set ?_ (by omega) _ | refine b_set ?_ (by simp) _))
      have WV := hid (after_below hwV)
      rw [← hV]
      obtain ⟨u0, hu⟩ : ∃ u : After V, u.w = V := ⟨After.here V, rfl⟩
      rw [← hu]
      clear hu hV
      have RQ := hid (fun v : After V => HQ.out.below (WV.out v))
      have RQ2 := hid (fun v : After V => HQ2.out.below (WV.out v))
      have RA := hid (fun v : After V => HA.out.below (WV.out v))
      have RA2 := hid (fun v : After V => HA2.out.below (WV.out v))
      go_wp2_with fail
      go_loopw [5] (fun i wr => ∃ (j : Nat) (u : After V), j ≤ ps.length ∧ i = .int .i64 j ∧ wr = u.w ∧ Hid (∀ i, i < j → ∀ (h1 : i < ps.length) (h2 : i < qs.length), core d ps[i] = core d qs[i])) (fun i _ => ps.length - (intOf i).toNat)
      case atStart => exact ⟨0, u0, by omega, rfl, rfl, hid fun i h => absurd h (by omega)⟩
      case round =>
        obtain ⟨j, u, hj, rfl, rfl, hX⟩ := hrel
        by_cases hlt : j < ps.length
        · have hlt2 : j < qs.length := by omega
          have i0 : (0 : Int) ≤ (j : Int) := by omega
          have i1 : (j : Int) < ps.length := by omega
          have i2 : (j : Int) < qs.length := by omega
          obtain ⟨b, off, rfl, hb⟩ := (RQ.out u).addr (by rw [flat_len Pk.c 3 Pk.c3]; omega)
          obtain ⟨b', off', rfl, hb'⟩ := (RQ2.out u).addr (by rw [flat_len Pk.c 3 Pk.c3]; omega)
          have k0 : ∀ v : After V, v.w.cell? ⟨b, off + j * 3, none⟩ = some (.int .i64 ps[j].fr) := row_cell Pk.c3 RQ.out hlt 0 (by decide) rfl rfl
          have k1 : ∀ v : After V, v.w.cell? ⟨b, off + j * 3 + 1, none⟩ = some (.int .i64 ps[j].to) := row_cell Pk.c3 RQ.out hlt 1 (by decide) rfl rfl
          have k2 : ∀ v : After V, v.w.cell? ⟨b, off + j * 3 + 2, none⟩ = some (.slice ps[j].da ps[j].dn ps[j].dc) := row_cell Pk.c3 RQ.out hlt 2 (by decide) rfl rfl
          have l0 : ∀ v : After V, v.w.cell? ⟨b', off' + j * 3, none⟩ = some (.int .i64 qs[j].fr) := row_cell Pk.c3 RQ2.out hlt2 0 (by decide) rfl rfl
          have l1 : ∀ v : After V, v.w.cell? ⟨b', off' + j * 3 + 1, none⟩ = some (.int .i64 qs[j].to) := row_cell Pk.c3 RQ2.out hlt2 1 (by decide) rfl rfl
          have l2 : ∀ v : After V, v.w.cell? ⟨b', off' + j * 3 + 2, none⟩ = some (.slice qs[j].da qs[j].dn qs[j].dc) := row_cell Pk.c3 RQ2.out hlt2 2 (by decide) rfl rfl
          have hcall : ∀ v : After V, Calls Try.prog 19 #[.agg #[.int .i64 ps[j].fr, .int .i64 ps[j].to, .slice ps[j].da ps[j].dn ps[j].dc], .agg #[.int .i64 qs[j].fr, .int .i64 qs[j].to, .slice qs[j].da qs[j].dn qs[j].dc]] v.w fun e w'' => e = .returned (.bool (decide (core d ps[j] = core d qs[j]))) ∧ ∃ u : After V, w'' = u.w := fun v => met (samePacket_any d ps[j] qs[j] v.w ((HD.out _ (.inl (List.getElem_mem _))).below (WV.out v)) ((HD.out _ (.inr (List.getElem_mem _))).below (WV.out v)))
          go_upto_region 6 with fail
          refine wp_region_since (by kernel_rfl) (by kernel_rfl) ?_
          repeat (go_big_quiet_step ((go_at_call 19; exact hcall _)))
          refine wpQuiet_nil ?_
          intro u2
          by_cases hc : core d ps[j] = core d qs[j]
          · have hc' : decide (core d ps[j] = core d qs[j]) = true := by simpa using hc
            have Hc := hid hc
            rw [hc']
            clear hc hc'
            go_wp2_with fail
            go_roundw
            case rel => exact ⟨j + 1, u2, by omega, by go_num, rfl, ext_all hX (fun _ _ => Hc.out)⟩
            case measure => simp [intOf]; omega
          · have hc' : decide (core d ps[j] = core d qs[j]) = false := by simpa using hc
            have Hc := hid hc
            rw [hc']
            clear hc hc'
            go_wp2_with fail
            exact bodyPost_ret (v := .bool false) (by simp [results, Try.results15, go_sem]) rfl ⟨by rw [decide_eq_false (fun h => map_ne_at hlt hlt2 Hc.out h.1)], WV.out _⟩
        · go_wp2_with fail
          have HX := hid (fun i (h1 : i < ps.length) (h2 : i < qs.length) => hX.out i (by omega) h1 h2)
          obtain ⟨X, hXw⟩ : ∃ X, X = u.w := ⟨_, rfl⟩
          rw [← hXw]
          have hVX : Below V.heap.size V X := by rw [hXw]; exact u.w_below
          have a1 := upc hVX a1
          have b1 := upc hVX b1
          have RA := hid (upr hVX RA.out)
          have RA2 := hid (upr hVX RA2.out)
          have WX := hid (upb hVX WV.out)
          clear hXw hX
          go_loopw [6] (fun i wr => ∃ (j : Nat) (u : After X), j ≤ ls.length ∧ i = .int .i64 j ∧ wr = u.w ∧ Hid (∀ i, i < j → ∀ (h1 : i < ls.length) (h2 : i < ms.length), ls[i] = ms[i])) (fun i _ => ls.length - (intOf i).toNat)
          case atStart => exact ⟨0, After.here X, by omega, rfl, rfl, hid fun i h => absurd h (by omega)⟩
          case round =>
            obtain ⟨j, u, hj, rfl, rfl, hX⟩ := hrel
            by_cases hlt : j < ls.length
            · have hlt2 : j < ms.length := by omega
              have i0 : (0 : Int) ≤ (j : Int) := by omega
              have i1 : (j : Int) < ls.length := by omega
              have i2 : (j : Int) < ms.length := by omega
              obtain ⟨b, off, rfl, hb⟩ := (RA.out u).addr (by rw [flat_len lkc 2 lkc2]; omega)
              obtain ⟨b', off', rfl, hb'⟩ := (RA2.out u).addr (by rw [flat_len lkc 2 lkc2]; omega)
              have k0 : ∀ v : After X, v.w.cell? ⟨b, off + j * 2, none⟩ = some (.int .i64 ls[j].1) := row_cell lkc2 RA.out hlt 0 (by decide) rfl rfl
              have k1 : ∀ v : After X, v.w.cell? ⟨b, off + j * 2 + 1, none⟩ = some (.int .i64 ls[j].2) := row_cell lkc2 RA.out hlt 1 (by decide) rfl rfl
              have l0 : ∀ v : After X, v.w.cell? ⟨b', off' + j * 2, none⟩ = some (.int .i64 ms[j].1) := row_cell lkc2 RA2.out hlt2 0 (by decide) rfl rfl
              have l1 : ∀ v : After X, v.w.cell? ⟨b', off' + j * 2 + 1, none⟩ = some (.int .i64 ms[j].2) := row_cell lkc2 RA2.out hlt2 1 (by decide) rfl rfl
              go_upto_region 11 with fail
              refine wp_region_since (by kernel_rfl) (by kernel_rfl) ?_
              repeat (go_big_quiet_step (fail))
              refine wpQuiet_nil ?_
              intro u2
              by_cases hc : ls[j] = ms[j]
              · have hf : (!decide (ls[j].1 = ms[j].1) || !decide (ls[j].2 = ms[j].2)) = false := by rw [hc]; simp
                have Hc := hid hc
                clear hc
                rw [hf]
                clear hf
                go_wp2_with fail
                go_roundw
                case rel => exact ⟨j + 1, u2, by omega, by go_num, rfl, ext_all hX (fun _ _ => Hc.out)⟩
                case measure => simp [intOf]; omega
              · have hf : (!decide (ls[j].1 = ms[j].1) || !decide (ls[j].2 = ms[j].2)) = true := by
                  rw [← Bool.not_eq_false]
                  intro h
                  simp at h
                  exact hc (Prod.ext h.1 h.2)
                have Hc := hid hc
                clear hc
                rw [hf]
                clear hf
                go_wp2_with fail
                exact bodyPost_ret (v := .bool false) (by simp [results, Try.results15, go_sem]) rfl ⟨by rw [decide_eq_false (fun h => Hc.out (by simp only [h.2]))], WX.out _⟩
            · have HY := hid (fun i (h1 : i < ls.length) (h2 : i < ms.length) => hX.out i (by omega) h1 h2)
              go_wp2_with fail
              exact bodyPost_ret (v := .bool true) (by simp [results, Try.results15, go_sem]) rfl ⟨by rw [decide_eq_true ⟨map_eq_of H1.out HX.out, List.ext_getElem H2.out HY.out⟩], WX.out _⟩
    · have h2' : ((ls.length : Int) != ms.length) = true := by simp; omega
      have H2 := hid h2
      clear h1 h2
      go_enter Try.func15, Try.ntmps15
      go_wp2_with fail
      exact bodyPost_ret (v := .bool false) (by simp [results, Try.results15, go_sem]) rfl ⟨by rw [decide_eq_false (fun h => H2.out (by rw [h.2]))], (by repeat (first | exact Below.refl _ _ | assumption | refine b_then ?_ (by assumption) | refine b_alloc ?_ _ | refine b_drewN ?_ _ | refine b_drew ?_ | refine b_set ?_ (by omega) _ | refine b_set ?_ (by simp) _))⟩
  · have h1' : ((ps.length : Int) != qs.length) = true := by simp; omega
    have H1 := hid h1
    clear h1
    go_enter Try.func15, Try.ntmps15
    go_wp2_with fail
    exact bodyPost_ret (v := .bool false) (by simp [results, Try.results15, go_sem]) rfl ⟨by rw [decide_eq_false (fun h => map_ne_len H1.out h.1)], (by repeat (first | exact Below.refl _ _ | assumption | refine b_then ?_ (by assumption) | refine b_alloc ?_ _ | refine b_drewN ?_ _ | refine b_drew ?_ | refine b_set ?_ (by omega) _ | refine b_set ?_ (by simp) _))⟩
end Go.Proofs.Ytmikhkmdcpgkfaa
