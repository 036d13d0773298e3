/- NetworkOnlySent: what is delivered has been sent. No condition. -/
import Derived.Test.YtmikhkmdcpgkfaaSR
import Derived.Test.YtmikhkmdcpgkfaaSW

import Derived.Deep.DeepCutAuto
import Derived.Deep.CutBlock
namespace Go.Proofs.Ytmikhkmdcpgkfaa
open Go.RowKit
open Go.Lib (hid)

theorem whole_region7 {P : Program} {Q : Exit → Act → World → Prop} {id : Nat} {a : Act} {V : World} {u : After V} {l : List Oper} (n : Nat) (hn : l.length = n) (hm : P.follows .mixedOrders = true)
    (h : ∀ u : After V, wpAnyH P .any l.toArray (NoPanic Q) (Since V) n (Array.replicate n false) a u.w) : (Code.region id l.toArray true).wp P Q a u.w := by
  subst hn
  exact wp_region_noPanic (wp_region_held_drew hm (S := Since V) ⟨⟨u.w.drew, b_drew u.2⟩, rfl⟩ (fun _ => h ⟨u.w.drew, b_drew u.2⟩))
section
variable {P : Program} {Q : Exit → Act → World → Prop} {ops : Array Oper} {md : Region.Mode}
theorem h_three {lo : List Oper} {V : World} {u : After V} {a : Act} {fuel : Nat} {listed : Array Bool} (i j l : Nat) {o p q : Oper} (hr : Region.ready md lo.toArray listed = [i, j, l]) (ho : lo[i]? = some o) (hp : lo[j]? = some p) (hq : lo[l]? = some q)
    (h : ∀ K : Act → World → Prop, (∀ a' (v : After V), wpAnyH P md lo.toArray Q (Since V) fuel (listed.setIfInBounds i true) a' v.w → K a' v.w) → if Region.wanted o (yielded lo.toArray a.tmps) = true then o.wp P a u.w K Q else K (a.put o.dst undef) u.w)
    (h2 : ∀ K : Act → World → Prop, (∀ a' (v : After V), wpAnyH P md lo.toArray Q (Since V) fuel (listed.setIfInBounds j true) a' v.w → K a' v.w) → if Region.wanted p (yielded lo.toArray a.tmps) = true then p.wp P a u.w K Q else K (a.put p.dst undef) u.w)
    (h3 : ∀ K : Act → World → Prop, (∀ a' (v : After V), wpAnyH P md lo.toArray Q (Since V) fuel (listed.setIfInBounds l true) a' v.w → K a' v.w) → if Region.wanted q (yielded lo.toArray a.tmps) = true then q.wp P a u.w K Q else K (a.put q.dst undef) u.w) : wpAnyH P md lo.toArray Q (Since V) (fuel + 1) listed a u.w := by
  have key : ∀ (i : Nat) (o : Oper), lo[i]? = some o → (∀ K : Act → World → Prop, (∀ a' (v : After V), wpAnyH P md lo.toArray Q (Since V) fuel (listed.setIfInBounds i true) a' v.w → K a' v.w) → if Region.wanted o (yielded lo.toArray a.tmps) = true then o.wp P a u.w K Q else K (a.put o.dst undef) u.w) →
      wpOp P lo.toArray Q i (fun a' w' => Since V w' ∧ wpAnyH P md lo.toArray Q (Since V) fuel (listed.setIfInBounds i true) a' w') a u.w := by
    intro i o ho h
    have := h (fun a' w' => Since V w' ∧ wpAnyH P md lo.toArray Q (Since V) fuel (listed.setIfInBounds i true) a' w') fun a' v hv => ⟨⟨v, rfl⟩, hv⟩
    unfold wpOp
    rw [show lo.toArray[i]? = some o by simpa using ho]
    dsimp only
    split
    · rename_i hw
      rw [if_pos hw] at this
      exact .inl this
    · rename_i hw
      rw [if_neg hw] at this
      exact this
  refine wpAnyH_all hr (by simp) fun k hk => ?_
  have : k = i ∨ k = j ∨ k = l := by simpa using hk
  rcases this with rfl | rfl | rfl
  · exact key k o ho h
  · exact key k p hp h2
  · exact key k q hq h3
end
/-- Behind the event: its net and its packet lie in two new boxes. -/
@[irreducible] def FC (okw : Nat → Prop) (k : Int) (ps : List Pk) (ls : List (Int × Int)) (wr : World) (q7 q8 q9 : Value) (wx : World) : Prop := ∃ (bx bp : Nat) (Q : List Pk) (L : List (Int × Int)) (P : Pk) (E : Int) (np : Pk) (bs : List UInt8) (nq nl : Nat) (qa aa : Option Addr) (qc ac : Nat) (z : After wr), q7 = .pointer (some ⟨bx, 0, none⟩) ∧ q8 = .pointer (some ⟨bp, 0, none⟩) ∧ q9 = .int .i64 E ∧ wx = z.w ∧ Q.length = nq ∧ L.length = nl ∧ XBox z.w bx bp (.slice qa nq qc) (.slice aa nl ac) P ∧ NetIs (fun g => (okw g ∨ wr.heap.size ≤ g) ∧ g ≠ bx ∧ g ≠ bp ∧ g < z.w.heap.size) z.w (.agg #[.slice qa nq qc, .slice aa nl ac]) Q L ∧ DatOk (fun g => wr.heap.size ≤ g ∧ g ≠ bx ∧ g ≠ bp ∧ g < z.w.heap.size) z.w np bs ∧ HapOk k ps ls np Q L P E ∧ wr.heap.size ≤ bx ∧ wr.heap.size ≤ bp ∧ bx ≠ bp
theorem FC.of {okw : Nat → Prop} {k : Int} {ps : List Pk} {ls : List (Int × Int)} {wr wx : World} {q7 q8 q9 : Value} (h : FC okw k ps ls wr q7 q8 q9 wx) : ∃ (bx bp : Nat) (Q : List Pk) (L : List (Int × Int)) (P : Pk) (E : Int) (np : Pk) (bs : List UInt8) (nq nl : Nat) (qa aa : Option Addr) (qc ac : Nat) (z : After wr), q7 = .pointer (some ⟨bx, 0, none⟩) ∧ q8 = .pointer (some ⟨bp, 0, none⟩) ∧ q9 = .int .i64 E ∧ wx = z.w ∧ Q.length = nq ∧ L.length = nl ∧ XBox z.w bx bp (.slice qa nq qc) (.slice aa nl ac) P ∧ NetIs (fun g => (okw g ∨ wr.heap.size ≤ g) ∧ g ≠ bx ∧ g ≠ bp ∧ g < z.w.heap.size) z.w (.agg #[.slice qa nq qc, .slice aa nl ac]) Q L ∧ DatOk (fun g => wr.heap.size ≤ g ∧ g ≠ bx ∧ g ≠ bp ∧ g < z.w.heap.size) z.w np bs ∧ HapOk k ps ls np Q L P E ∧ wr.heap.size ≤ bx ∧ wr.heap.size ≤ bp ∧ bx ≠ bp := by
  unfold FC at h
  exact h
theorem FC.mk {okw : Nat → Prop} {k : Int} {ps : List Pk} {ls : List (Int × Int)} {wr y : World} {bx bp c d : Nat} {Q : List Pk} {L : List (Int × Int)} {P : Pk} {E : Int} {np : Pk} {bs : List UInt8} {nq nl : Nat} {qa aa : Option Addr} {qc ac : Nat} {c0 c1 d0 d1 d2 : Value} (hq : Q.length = nq) (hl : L.length = nl)
    (hnet : NetIs (fun g => (okw g ∨ c ≤ g) ∧ g < d) y (.agg #[.slice qa nq qc, .slice aa nl ac]) Q L) (hdat : DatOk (fun g => c ≤ g ∧ g < d) y np bs) (H : HapOk k ps ls np Q L P E) (_hB : Below wr.heap.size wr y) (hx : bx < c ∨ d ≤ bx) (hp : bp < c ∨ d ≤ bp) (hwc : wr.heap.size ≤ c ∧ d ≤ y.heap.size) (hwx : wr.heap.size ≤ bx) (hwp : wr.heap.size ≤ bp) (hne : bx ≠ bp) (hok : ∀ g, okw g → g < wr.heap.size)
    (x0 : y.cell? ⟨bx, 0, none⟩ = some c0) (x1 : y.cell? ⟨bx, 1, none⟩ = some c1) (p0 : y.cell? ⟨bp, 0, none⟩ = some d0) (p1 : y.cell? ⟨bp, 1, none⟩ = some d1) (p2 : y.cell? ⟨bp, 2, none⟩ = some d2) (sx : bx < y.heap.size) (sp : bp < y.heap.size) {z2 : After wr}
    (hZ : z2.w = ((((y.setCell ⟨bx, 0, none⟩ (.slice qa nq qc)).setCell ⟨bx, 1, none⟩ (.slice aa nl ac)).setCell ⟨bp, 0, none⟩ (.int .i64 P.fr)).setCell ⟨bp, 1, none⟩ (.int .i64 P.to)).setCell ⟨bp, 2, none⟩ (.slice P.da P.dn P.dc)) :
    FC okw k ps ls wr (.pointer (some ⟨bx, 0, none⟩)) (.pointer (some ⟨bp, 0, none⟩)) (.int .i64 E) z2.w := by
  unfold FC
  have hs : z2.w.heap.size = y.heap.size := by rw [hZ]; simp
  have n1 : ¬ ((okw bx ∨ c ≤ bx) ∧ bx < d) := fun ⟨h, h'⟩ => h.elim (fun h => by have := hok _ h; omega) (fun h => by omega)
  have n2 : ¬ ((okw bp ∨ c ≤ bp) ∧ bp < d) := fun ⟨h, h'⟩ => h.elim (fun h => by have := hok _ h; omega) (fun h => by omega)
  have m1 : ¬ (c ≤ bx ∧ bx < d) := by omega
  have m2 : ¬ (c ≤ bp ∧ bp < d) := by omega
  refine ⟨bx, bp, Q, L, P, E, np, bs, nq, nl, qa, aa, qc, ac, z2, rfl, rfl, rfl, rfl, hq, hl, ?_, ?_, ?_, H, hwx, hwp, hne⟩
  · rw [hZ]
    have hne' := hne.symm
    exact ⟨st_off _ (.inr hne') (st_off _ (.inr hne') (st_off _ (.inr hne') (st_off _ (.inl (by decide)) (st_hit _ x0)))), st_off _ (.inr hne') (st_off _ (.inr hne') (st_off _ (.inr hne') (st_hit _ (st_off _ (.inl (by decide)) x1)))), st_off _ (.inl (by decide)) (st_off _ (.inl (by decide)) (st_hit _ (st_off _ (.inr hne) (st_off _ (.inr hne) p0)))), st_off _ (.inl (by decide)) (st_hit _ (st_off _ (.inl (by decide)) (st_off _ (.inr hne) (st_off _ (.inr hne) p1)))), st_hit _ (st_off _ (.inl (by decide)) (st_off _ (.inl (by decide)) (st_off _ (.inr hne) (st_off _ (.inr hne) p2)))), by simpa using sx, by simpa using sp⟩
  · rw [hs, hZ]
    exact (((((hnet.set n1 _).set n1 _).set n2 _).set n2 _).set n2 _).mono fun g h => ⟨h.1.imp id (fun h => by omega), fun e => n1 (e ▸ h), fun e => n2 (e ▸ h), by omega⟩
  · rw [hs, hZ]
    exact (((((hdat.set m1 _).set m1 _).set m2 _).set m2 _).set m2 _).mono fun g h => ⟨by omega, fun e => m1 (e ▸ h), fun e => m2 (e ▸ h), by omega⟩
@[irreducible] def OS (W : World) (B N : Nat) (sl c i : Value) (wr : World) : Prop := ∃ (j cu : Nat) (S ps : List Pk) (ls : List (Int × Int)) (n m : Nat) (qa aa : Option Addr) (qc ac : Nat), j ≤ N ∧ i = .int .i64 j ∧ c = .int .i64 cu ∧ cu ≤ j ∧ n ≤ j ∧ m ≤ 256 ∧ S.length ≤ j ∧ (ls = [] ∨ 0 < cu) ∧ chk ps ls = 0 ∧ (∀ q, q ∈ ps → q ∈ S) ∧ SentRel W B sl S ps ls n m qa aa qc ac wr
theorem OS.of {W : World} {B N : Nat} {sl c i : Value} {wr : World} (h : OS W B N sl c i wr) : ∃ (j cu : Nat) (S ps : List Pk) (ls : List (Int × Int)) (n m : Nat) (qa aa : Option Addr) (qc ac : Nat), j ≤ N ∧ i = .int .i64 j ∧ c = .int .i64 cu ∧ cu ≤ j ∧ n ≤ j ∧ m ≤ 256 ∧ S.length ≤ j ∧ (ls = [] ∨ 0 < cu) ∧ chk ps ls = 0 ∧ (∀ q, q ∈ ps → q ∈ S) ∧ SentRel W B sl S ps ls n m qa aa qc ac wr := by
  unfold OS at h
  exact h
theorem OS.mk {W : World} {B N : Nat} {sl i : Value} {wr : World} {S ps : List Pk} {ls : List (Int × Int)} {n m : Nat} {qa aa : Option Addr} {qc ac : Nat} (j cu : Nat) (h1 : j ≤ N) (h2 : i = .int .i64 j) (h3 : cu ≤ j) (h4 : n ≤ j) (h5 : m ≤ 256) (h6 : S.length ≤ j) (h7 : ls = [] ∨ 0 < cu) (h8 : chk ps ls = 0) (h9 : ∀ q, q ∈ ps → q ∈ S) (h : SentRel W B sl S ps ls n m qa aa qc ac wr) : OS W B N sl (.int .i64 cu) i wr := by
  unfold OS
  exact ⟨j, cu, S, ps, ls, n, m, qa, aa, qc, ac, h1, h2, rfl, h3, h4, h5, h6, h7, h8, h9, h⟩
set_option maxRecDepth 100000 in
set_option maxHeartbeats 16000000 in
theorem sent_walk (xs : List { p : Mv // p.Ok }) (N : Nat) (hxn : xs.length = N) (la : Option Addr) (lc : Nat) (W : World) (hr : Rd W la (xs.flatMap fun p => p.1.cs)) :
    Calls Try.prog 7 #[.slice la N lc] W fun e w' => e = .returned (.bool true) ∧ Below W.heap.size W w' := by
  have HX := hid hr; have HXN := hid hxn
  clear hr hxn
  go_enter Try.func7, Try.ntmps7
  go_wp2_with fail
  refine (met0 (sane_any _)).mono ?_
  rintro e _ ⟨rfl, u1, rfl⟩
  by_cases h60 : N ≤ 60
  case neg =>
    have hd : decide ((60 : Int) < (N : Int)) = true := decide_eq_true (by omega)
    have hd' : decide (60 < N) = true := decide_eq_true (by omega)
    go_wp2_with fail
    exact bodyPost_ret (v := .bool true) (by simp [results, Try.results7, go_sem]) rfl ⟨rfl, u1.2⟩
  have hd : decide ((60 : Int) < (N : Int)) = false := decide_eq_false (by omega)
  have hd' : decide (60 < N) = false := decide_eq_false (by omega)
  go_wp2_with fail
  refine (met (new_any _)).mono ?_
  rintro e _ ⟨rfl, u2, rfl⟩
  go_wp2_with fail
  clear hd hd'
  have hr0 : SentRel W u2.w.heap.size (.slice none 0 0) [] [] [] 0 0 none none 0 0 (u2.w.alloc (.cells #[.slice none 0 0, .slice none 0 0] 25)) :=
    ⟨b_alloc u2.2 _, bn rfl rfl, bn rfl rfl, fn rfl, fn rfl, by simp, rfl, rfl, NetIs.zero _ _, World.ownsRow_nil _ _ _ _, fun q hq => by cases hq⟩
  have hWB : W.heap.size ≤ u2.w.heap.size := u2.2.size
  obtain ⟨B, hB⟩ : ∃ b, b = u2.w.heap.size := ⟨_, rfl⟩
  rw [← hB] at hr0 hWB ⊢
  clear hB
  obtain ⟨i0, hi, hz0, hz1, hz2⟩ := info_parts info28
  go_loopw [4, 5, 6] (fun sl c i wr => OS W B N sl c i wr) (fun _ _ i _ => N - (intOf i).toNat)
  case atStart => exact OS.mk 0 0 (Nat.zero_le _) rfl (Nat.le_refl _) (Nat.le_refl _) (by decide) (by simp) (.inl rfl) chk00 (fun q hq => by cases hq) hr0
  case round =>
    clear hr0
    obtain ⟨j, cu, S, ps, ls, n, m, qa, aa, qc, ac, hj, rfl, rfl, hcj, hnj, hm6, hSj, hls, hck, hsub, hR⟩ := hrel.of
    clear hrel
    have HR := hid hR
    by_cases hlt : j < N
    case neg =>
      have d1 : decide ((j : Int) < (N : Int)) = false := decide_eq_false (by omega)
      have d1' : decide (j < N) = false := decide_eq_false hlt
      have hWr := hR.below
      clear hR
      go_wp2_with fail
      exact bodyPost_ret (v := .bool true) (by simp [results, Try.results7, go_sem]) rfl ⟨rfl, hWr⟩
    have d1 : decide ((j : Int) < (N : Int)) = true := decide_eq_true (by omega)
    have d1' : decide (j < N) = true := decide_eq_true hlt
    have hlx : j < xs.length := by rw [HXN.out]; exact hlt
    obtain ⟨sl, rfl⟩ : ∃ q, q = u4 := ⟨_, rfl⟩
    have hps : ps.length ≤ 60 := by rw [hR.hn]; omega
    have hl6 : ls.length ≤ 256 := by rw [hR.hm]; exact hm6
    have n0 : ∀ v : After wr, v.w.cell? ⟨B, 0, none⟩ = some (.slice qa n qc) := after_cell hR.size hR.c0
    have n1 : ∀ v : After wr, v.w.cell? ⟨B, 1, none⟩ = some (.slice aa m ac) := after_cell hR.size hR.c1
    have HN := hid (fun v : After wr => (hR.net.below v.2 : NetIs (fun g => g ≠ B ∧ sl.ownBlock ≠ some g ∧ g < wr.heap.size) v.w (.agg #[.slice qa n qc, .slice aa m ac]) ps ls))
    have RX := hid (fun v : After wr => (HX.out.below (b_then hR.below v.2) : Rd v.w la (xs.flatMap fun p => p.1.cs)))
    have hCK := hid hck; have HSUB := hid hsub; have HLS := hid hls
    clear hck hsub hls
    obtain ⟨blk, off, rfl, hblk⟩ := (RX.out (After.here wr)).addr (by rw [flat_len (fun p : { p : Mv // p.Ok } => p.1.cs) 5 (fun _ => rfl)]; omega)
    obtain ⟨⟨⟨kd, t, a, b, dt⟩, hok⟩, hx⟩ : ∃ q, xs[j] = q := ⟨_, rfl⟩
    obtain ⟨ok0, ok1, ok2, ok3, ok4, ok5, ok6, ok7, ok8, ok9⟩ := hok
    dsimp only at ok0 ok1 ok2 ok3 ok4 ok5 ok6 ok7 ok8 ok9
    have hc5 : ∀ p : { p : Mv // p.Ok }, ((fun p : { p : Mv // p.Ok } => p.1.cs) p).length = 5 := fun _ => rfl
    have k0 : ∀ v : After wr, v.w.cell? ⟨blk, off + j * 5, none⟩ = some (.int .u8 kd) := row_cell hc5 RX.out hlx 0 (by decide) (by rw [hx]; rfl) rfl
    have k1 : ∀ v : After wr, v.w.cell? ⟨blk, off + j * 5 + 1, none⟩ = some (.int .u8 t) := row_cell hc5 RX.out hlx 1 (by decide) (by rw [hx]; rfl) rfl
    have k2 : ∀ v : After wr, v.w.cell? ⟨blk, off + j * 5 + 2, none⟩ = some (.int .u8 a) := row_cell hc5 RX.out hlx 2 (by decide) (by rw [hx]; rfl) rfl
    have k3 : ∀ v : After wr, v.w.cell? ⟨blk, off + j * 5 + 3, none⟩ = some (.int .u8 b) := row_cell hc5 RX.out hlx 3 (by decide) (by rw [hx]; rfl) rfl
    have k4 : ∀ v : After wr, v.w.cell? ⟨blk, off + j * 5 + 4, none⟩ = some (.int .u8 dt) := row_cell hc5 RX.out hlx 4 (by decide) (by rw [hx]; rfl) rfl
    clear hx hR hc5
    have hjN : (j : Int) < (N : Int) := by omega
    go_upto_region 11 with (fail)
    obtain ⟨u0, hu⟩ : ∃ u : After wr, u.w = wr := ⟨After.here wr, rfl⟩
    rw [← hu]
    go_cut [7, 8, 9] (fun q7 q8 q9 wx => FC (fun g => g ≠ B ∧ sl.ownBlock ≠ some g ∧ g < wr.heap.size) (kd % 6) ps ls wr q7 q8 q9 wx)
    case first =>
      clear hu
      refine whole_region7 15 rfl (by kernel_rfl) ?_
      intro u0
      refine h_take 0 (x := ?_) rfl (by kernel_rfl) (by kernel_rfl) (by kernel_rfl) (fun _ _ _ h => h) (by rfl) (fun v => ?_) ?_
      rotate_left
      · (go_simp; try with_reducible rfl)
      try simp only [Act.put, List.setIfInBounds_toArray, List.set_cons_zero, List.set_cons_succ]
      refine h_take 1 (x := ?_) rfl (by kernel_rfl) (by kernel_rfl) (by kernel_rfl) (fun _ _ _ h => h) (by rfl) (fun v => ?_) ?_
      rotate_left
      · (go_simp; try with_reducible rfl)
      try simp only [Act.put, List.setIfInBounds_toArray, List.set_cons_zero, List.set_cons_succ]
      refine h_take 2 (x := ?_) rfl (by kernel_rfl) (by kernel_rfl) (by kernel_rfl) (fun _ _ _ h => h) (by rfl) (fun v => ?_) ?_
      rotate_left
      · (go_simp; try with_reducible rfl)
      try simp only [Act.put, List.setIfInBounds_toArray, List.set_cons_zero, List.set_cons_succ]
      refine h_take 3 (x := ?_) rfl (by kernel_rfl) (by kernel_rfl) (by kernel_rfl) (fun _ _ _ h => h) (by rfl) (fun v => ?_) ?_
      rotate_left
      · (go_simp; try with_reducible rfl)
      try simp only [Act.put, List.setIfInBounds_toArray, List.set_cons_zero, List.set_cons_succ]
      refine h_take 4 (x := ?_) rfl (by kernel_rfl) (by kernel_rfl) (by kernel_rfl) (fun _ _ _ h => h) (by rfl) (fun v => ?_) ?_
      rotate_left
      · (go_simp; try with_reducible rfl)
      try simp only [Act.put, List.setIfInBounds_toArray, List.set_cons_zero, List.set_cons_succ]
      refine h_three 5 10 11 (by kernel_rfl) rfl rfl rfl (fun K hK => ?_) (fun K hK => ?_) (fun K hK => ?_)
      · go_simp
        have hcw := u0.w_below.size
        refine (happens_any (fun g => g ≠ B ∧ sl.ownBlock ≠ some g ∧ g < wr.heap.size) ps ls _ kd t a b dt u0.w (by omega) hl6 (fun g h => Nat.lt_of_lt_of_le h.2.2 hcw) (HN.out u0) ok0 ok1 ok2 ok3 ok4 ok5 ok6 ok7 ok8 ok9).mono ?_
        rintro e w7 ⟨v7, Q, L, ⟨pf, pt, pa, pn, pc⟩, E, np, bs, rfl, hn7, hd7, hl7, HH7, hB7⟩
        obtain ⟨nq, hnq⟩ : ∃ q, Q.length = q := ⟨_, rfl⟩
        obtain ⟨nl, hnl⟩ : ∃ q, L.length = q := ⟨_, rfl⟩
        obtain ⟨qa7, aa7, qc7, ac7, rfl⟩ := hn7.form' hnq hnl
        obtain ⟨c, hc1, hc2⟩ : ∃ c, c ≤ u0.w.heap.size ∧ u0.w.heap.size ≤ c := ⟨_, Nat.le_refl _, Nat.le_refl _⟩
        obtain ⟨d, hd1, hd2⟩ : ∃ d, d ≤ w7.heap.size ∧ w7.heap.size ≤ d := ⟨_, Nat.le_refl _, Nat.le_refl _⟩
        have hs7 := hB7.size
        have HN9 := hid (hn7.here.mono (ok' := fun g => ((fun g => g ≠ B ∧ sl.ownBlock ≠ some g ∧ g < wr.heap.size) g ∨ c ≤ g) ∧ g < d) (fun g h => ⟨h.1.imp id (fun h => by omega), by omega⟩))
        have HD9 := hid ((show DatOk (fun g => c ≤ g) w7 np bs from ⟨hd7, .inr fun g off f e => by have := hl7 g off f e; omega⟩).here.mono (ok' := fun g => c ≤ g ∧ g < d) (fun g h => ⟨h.1, by omega⟩))
        have HQ7 := hid hnq; have HL7 := hid hnl; have HHH := hid HH7
        obtain ⟨v1, rfl⟩ : ∃ v1 : After wr, w7 = v1.w := ⟨u0.on hB7, rfl⟩
        clear hn7 hd7 hl7 HH7 hnq hnl hB7
        dsimp only [Pk.v]
        go_simp
        refine hK _ v1 ?_
        clear hK K
        try simp only [Act.put, List.setIfInBounds_toArray, List.set_cons_zero, List.set_cons_succ]
        refine h_take 6 (x := ?_) rfl (by kernel_rfl) (by kernel_rfl) (by kernel_rfl) (fun _ _ _ h => h) (by rfl) (fun v => ?_) ?_
        rotate_left
        · (go_simp; try with_reducible rfl)
        try simp only [Act.put, List.setIfInBounds_toArray, List.set_cons_zero, List.set_cons_succ]
        refine h_take 7 (x := ?_) rfl (by kernel_rfl) (by kernel_rfl) (by kernel_rfl) (fun _ _ _ h => h) (by rfl) (fun v => ?_) ?_
        rotate_left
        · (go_simp; try with_reducible rfl)
        try simp only [Act.put, List.setIfInBounds_toArray, List.set_cons_zero, List.set_cons_succ]
        refine h_take 8 (x := ?_) rfl (by kernel_rfl) (by kernel_rfl) (by kernel_rfl) (fun _ _ _ h => h) (by rfl) (fun v => ?_) ?_
        rotate_left
        · (go_simp; try with_reducible rfl)
        try simp only [Act.put, List.setIfInBounds_toArray, List.set_cons_zero, List.set_cons_succ]
        refine h_take 9 (x := ?_) rfl (by kernel_rfl) (by kernel_rfl) (by kernel_rfl) (fun _ _ _ h => h) (by rfl) (fun v => ?_) ?_
        rotate_left
        · (go_simp; try with_reducible rfl)
        try simp only [Act.put, List.setIfInBounds_toArray, List.set_cons_zero, List.set_cons_succ]
        refine h_two 10 11 (by kernel_rfl) rfl rfl (fun K hK => ?_) (fun K hK => ?_)
        · go_simp
          have hwx : wr.heap.size ≤ v1.w.heap.size := v1.w_below.size
          have hva : Below v1.w.heap.size v1.w (v1.w.alloc (.cells #[.slice none 0 0, .slice none 0 0] 25)) := b_alloc (Below.refl _ _) _
          obtain ⟨va, hv⟩ : ∃ y : After wr, y.w = v1.w.alloc (.cells #[.slice none 0 0, .slice none 0 0] 25) := ⟨v1.on hva, rfl⟩
          rw [← hv] at hva
          rw [← hv]
          have HN9 := hid (HN9.out.below hva)
          have HD9 := hid (HD9.out.below hva)
          have x0 : va.w.cell? ⟨v1.w.heap.size, 0, none⟩ = some (.slice none 0 0) := by rw [hv]; exact bn rfl rfl
          have x1 : va.w.cell? ⟨v1.w.heap.size, 1, none⟩ = some (.slice none 0 0) := by rw [hv]; exact bn rfl rfl
          have fx0 : va.w.frozen? ⟨v1.w.heap.size, 0, none⟩ = false := by rw [hv]; exact fn rfl
          have fx1 : va.w.frozen? ⟨v1.w.heap.size, 1, none⟩ = false := by rw [hv]; exact fn rfl
          have zx : v1.w.heap.size < va.w.heap.size := by rw [hv]; simp
          have hax1 : va.w.heap.size ≤ v1.w.heap.size + 1 := by rw [hv]; simp
          clear hv hva
          refine hK _ va ?_
          clear hK K
          try simp only [Act.put, List.setIfInBounds_toArray, List.set_cons_zero, List.set_cons_succ]
          refine h_step 11 (by kernel_rfl) rfl (fun K hK => ?_)
          go_simp
          have hwp : wr.heap.size ≤ va.w.heap.size := va.w_below.size
          have hvb : Below va.w.heap.size va.w (va.w.alloc (.cells #[.int .i64 0, .int .i64 0, .slice none 0 0] 28)) := b_alloc (Below.refl _ _) _
          obtain ⟨vp, hv⟩ : ∃ y : After wr, y.w = va.w.alloc (.cells #[.int .i64 0, .int .i64 0, .slice none 0 0] 28) := ⟨va.on hvb, rfl⟩
          rw [← hv] at hvb
          rw [← hv]
          have x0 := bb hvb zx x0
          have x1 := bb hvb zx x1
          have fx0 := fb hvb zx fx0
          have fx1 := fb hvb zx fx1
          have zx := Nat.lt_of_lt_of_le zx (hvb).size
          have HN9 := hid (HN9.out.below hvb)
          have HD9 := hid (HD9.out.below hvb)
          have p0 : vp.w.cell? ⟨va.w.heap.size, 0, none⟩ = some (.int .i64 0) := by rw [hv]; exact bn rfl rfl
          have p1 : vp.w.cell? ⟨va.w.heap.size, 1, none⟩ = some (.int .i64 0) := by rw [hv]; exact bn rfl rfl
          have p2 : vp.w.cell? ⟨va.w.heap.size, 2, none⟩ = some (.slice none 0 0) := by rw [hv]; exact bn rfl rfl
          have fp0 : vp.w.frozen? ⟨va.w.heap.size, 0, none⟩ = false := by rw [hv]; exact fn rfl
          have fp1 : vp.w.frozen? ⟨va.w.heap.size, 1, none⟩ = false := by rw [hv]; exact fn rfl
          have fp2 : vp.w.frozen? ⟨va.w.heap.size, 2, none⟩ = false := by rw [hv]; exact fn rfl
          have zp : va.w.heap.size < vp.w.heap.size := by rw [hv]; simp
          have hap1 : vp.w.heap.size ≤ va.w.heap.size + 1 := by rw [hv]; simp
          clear hv hvb
          refine hK _ vp ?_
          clear hK K
          try simp only [Act.put, List.setIfInBounds_toArray, List.set_cons_zero, List.set_cons_succ]
          refine h_step 12 (by kernel_rfl) rfl (fun K hK => ?_)
          have hne : v1.w.heap.size ≠ va.w.heap.size := by omega
          go_simp
          generalize hZ : World.setCell _ _ _ = Z
          have r0 : Z.cell? ⟨va.w.heap.size, 0, none⟩ = some (.int .i64 0) := by rw [← hZ]; exact st_off _ (.inr hne) (st_off _ (.inr hne) p0)
          have r1 : Z.cell? ⟨va.w.heap.size, 1, none⟩ = some (.int .i64 0) := by rw [← hZ]; exact st_off _ (.inr hne) (st_off _ (.inr hne) p1)
          have r2 : Z.cell? ⟨va.w.heap.size, 2, none⟩ = some (.slice none 0 0) := by rw [← hZ]; exact st_off _ (.inr hne) (st_off _ (.inr hne) p2)
          have fr0 : Z.frozen? ⟨va.w.heap.size, 0, none⟩ = false := by rw [← hZ]; exact sf _ (sf _ fp0)
          have fr1 : Z.frozen? ⟨va.w.heap.size, 1, none⟩ = false := by rw [← hZ]; exact sf _ (sf _ fp1)
          have fr2 : Z.frozen? ⟨va.w.heap.size, 2, none⟩ = false := by rw [← hZ]; exact sf _ (sf _ fp2)
          obtain ⟨z1, rfl⟩ : ∃ z : After wr, Z = z.w := ⟨After.to (by rw [← hZ]; exact b_set (b_set vp.w_below (by omega) _) (by omega) _), rfl⟩
          have HZ1 := hid hZ; clear hZ
          refine hK _ z1 ?_
          clear hK K
          try simp only [Act.put, List.setIfInBounds_toArray, List.set_cons_zero, List.set_cons_succ]
          refine h_step 13 (by kernel_rfl) rfl (fun K hK => ?_)
          go_simp
          generalize hZ : World.setCell _ _ _ = Z
          obtain ⟨z2, rfl⟩ : ∃ z : After wr, Z = z.w := ⟨After.to (by rw [← hZ]; exact b_set (b_set (b_set z1.w_below (by omega) _) (by omega) _) (by omega) _), rfl⟩
          have HZ2 := hid hZ; clear hZ
          refine hK _ z2 ?_
          clear hK K
          try simp only [Act.put, List.setIfInBounds_toArray, List.set_cons_zero, List.set_cons_succ]
          refine h_take 14 (x := ?_) rfl (by kernel_rfl) (by kernel_rfl) (by kernel_rfl) (fun _ _ _ h => h) (by rfl) (fun v => ?_) ?_
          rotate_left
          · (go_simp; try with_reducible rfl)
          try simp only [Act.put, List.setIfInBounds_toArray, List.set_cons_zero, List.set_cons_succ]
          refine wpAnyH_done (by kernel_rfl) ?_ _
          refine NoPanic.normal ?_
          have R := FC.mk (okw := (fun g => g ≠ B ∧ sl.ownBlock ≠ some g ∧ g < wr.heap.size)) (k := kd % 6) (ps := ps) (ls := ls) (y := vp.w) (bx := v1.w.heap.size) (bp := va.w.heap.size) (P := ⟨pf, pt, pa, pn, pc⟩) HQ7.out HL7.out HN9.out HD9.out HHH.out vp.w_below (by omega) (by omega) (by omega) hwx hwp hne (fun g h => h.2.2) x0 x1 p0 p1 p2 zx zp (z2 := z2) (by rw [← HZ2.out, ← HZ1.out])
          first | go_meet | (go_wp2_with fail; go_meet)
          case rel => first | exact R | ((repeat apply Exists.intro); exact ⟨R, rfl⟩)
        · go_simp
          have hwp : wr.heap.size ≤ v1.w.heap.size := v1.w_below.size
          have hvb : Below v1.w.heap.size v1.w (v1.w.alloc (.cells #[.int .i64 0, .int .i64 0, .slice none 0 0] 28)) := b_alloc (Below.refl _ _) _
          obtain ⟨vp, hv⟩ : ∃ y : After wr, y.w = v1.w.alloc (.cells #[.int .i64 0, .int .i64 0, .slice none 0 0] 28) := ⟨v1.on hvb, rfl⟩
          rw [← hv] at hvb
          rw [← hv]
          have HN9 := hid (HN9.out.below hvb)
          have HD9 := hid (HD9.out.below hvb)
          have p0 : vp.w.cell? ⟨v1.w.heap.size, 0, none⟩ = some (.int .i64 0) := by rw [hv]; exact bn rfl rfl
          have p1 : vp.w.cell? ⟨v1.w.heap.size, 1, none⟩ = some (.int .i64 0) := by rw [hv]; exact bn rfl rfl
          have p2 : vp.w.cell? ⟨v1.w.heap.size, 2, none⟩ = some (.slice none 0 0) := by rw [hv]; exact bn rfl rfl
          have fp0 : vp.w.frozen? ⟨v1.w.heap.size, 0, none⟩ = false := by rw [hv]; exact fn rfl
          have fp1 : vp.w.frozen? ⟨v1.w.heap.size, 1, none⟩ = false := by rw [hv]; exact fn rfl
          have fp2 : vp.w.frozen? ⟨v1.w.heap.size, 2, none⟩ = false := by rw [hv]; exact fn rfl
          have zp : v1.w.heap.size < vp.w.heap.size := by rw [hv]; simp
          have hap1 : vp.w.heap.size ≤ v1.w.heap.size + 1 := by rw [hv]; simp
          clear hv hvb
          refine hK _ vp ?_
          clear hK K
          try simp only [Act.put, List.setIfInBounds_toArray, List.set_cons_zero, List.set_cons_succ]
          refine h_step 10 (by kernel_rfl) rfl (fun K hK => ?_)
          go_simp
          have hwx : wr.heap.size ≤ vp.w.heap.size := vp.w_below.size
          have hva : Below vp.w.heap.size vp.w (vp.w.alloc (.cells #[.slice none 0 0, .slice none 0 0] 25)) := b_alloc (Below.refl _ _) _
          obtain ⟨va, hv⟩ : ∃ y : After wr, y.w = vp.w.alloc (.cells #[.slice none 0 0, .slice none 0 0] 25) := ⟨vp.on hva, rfl⟩
          rw [← hv] at hva
          rw [← hv]
          have p0 := bb hva zp p0
          have p1 := bb hva zp p1
          have p2 := bb hva zp p2
          have fp0 := fb hva zp fp0
          have fp1 := fb hva zp fp1
          have fp2 := fb hva zp fp2
          have zp := Nat.lt_of_lt_of_le zp (hva).size
          have HN9 := hid (HN9.out.below hva)
          have HD9 := hid (HD9.out.below hva)
          have x0 : va.w.cell? ⟨vp.w.heap.size, 0, none⟩ = some (.slice none 0 0) := by rw [hv]; exact bn rfl rfl
          have x1 : va.w.cell? ⟨vp.w.heap.size, 1, none⟩ = some (.slice none 0 0) := by rw [hv]; exact bn rfl rfl
          have fx0 : va.w.frozen? ⟨vp.w.heap.size, 0, none⟩ = false := by rw [hv]; exact fn rfl
          have fx1 : va.w.frozen? ⟨vp.w.heap.size, 1, none⟩ = false := by rw [hv]; exact fn rfl
          have zx : vp.w.heap.size < va.w.heap.size := by rw [hv]; simp
          have hax1 : va.w.heap.size ≤ vp.w.heap.size + 1 := by rw [hv]; simp
          clear hv hva
          refine hK _ va ?_
          clear hK K
          try simp only [Act.put, List.setIfInBounds_toArray, List.set_cons_zero, List.set_cons_succ]
          refine h_step 12 (by kernel_rfl) rfl (fun K hK => ?_)
          have hne : vp.w.heap.size ≠ v1.w.heap.size := by omega
          go_simp
          generalize hZ : World.setCell _ _ _ = Z
          have r0 : Z.cell? ⟨v1.w.heap.size, 0, none⟩ = some (.int .i64 0) := by rw [← hZ]; exact st_off _ (.inr hne) (st_off _ (.inr hne) p0)
          have r1 : Z.cell? ⟨v1.w.heap.size, 1, none⟩ = some (.int .i64 0) := by rw [← hZ]; exact st_off _ (.inr hne) (st_off _ (.inr hne) p1)
          have r2 : Z.cell? ⟨v1.w.heap.size, 2, none⟩ = some (.slice none 0 0) := by rw [← hZ]; exact st_off _ (.inr hne) (st_off _ (.inr hne) p2)
          have fr0 : Z.frozen? ⟨v1.w.heap.size, 0, none⟩ = false := by rw [← hZ]; exact sf _ (sf _ fp0)
          have fr1 : Z.frozen? ⟨v1.w.heap.size, 1, none⟩ = false := by rw [← hZ]; exact sf _ (sf _ fp1)
          have fr2 : Z.frozen? ⟨v1.w.heap.size, 2, none⟩ = false := by rw [← hZ]; exact sf _ (sf _ fp2)
          obtain ⟨z1, rfl⟩ : ∃ z : After wr, Z = z.w := ⟨After.to (by rw [← hZ]; exact b_set (b_set va.w_below (by omega) _) (by omega) _), rfl⟩
          have HZ1 := hid hZ; clear hZ
          refine hK _ z1 ?_
          clear hK K
          try simp only [Act.put, List.setIfInBounds_toArray, List.set_cons_zero, List.set_cons_succ]
          refine h_step 13 (by kernel_rfl) rfl (fun K hK => ?_)
          go_simp
          generalize hZ : World.setCell _ _ _ = Z
          obtain ⟨z2, rfl⟩ : ∃ z : After wr, Z = z.w := ⟨After.to (by rw [← hZ]; exact b_set (b_set (b_set z1.w_below (by omega) _) (by omega) _) (by omega) _), rfl⟩
          have HZ2 := hid hZ; clear hZ
          refine hK _ z2 ?_
          clear hK K
          try simp only [Act.put, List.setIfInBounds_toArray, List.set_cons_zero, List.set_cons_succ]
          refine h_take 14 (x := ?_) rfl (by kernel_rfl) (by kernel_rfl) (by kernel_rfl) (fun _ _ _ h => h) (by rfl) (fun v => ?_) ?_
          rotate_left
          · (go_simp; try with_reducible rfl)
          try simp only [Act.put, List.setIfInBounds_toArray, List.set_cons_zero, List.set_cons_succ]
          refine wpAnyH_done (by kernel_rfl) ?_ _
          refine NoPanic.normal ?_
          have R := FC.mk (okw := (fun g => g ≠ B ∧ sl.ownBlock ≠ some g ∧ g < wr.heap.size)) (k := kd % 6) (ps := ps) (ls := ls) (y := va.w) (bx := vp.w.heap.size) (bp := v1.w.heap.size) (P := ⟨pf, pt, pa, pn, pc⟩) HQ7.out HL7.out HN9.out HD9.out HHH.out va.w_below (by omega) (by omega) (by omega) hwx hwp hne (fun g h => h.2.2) x0 x1 p0 p1 p2 zx zp (z2 := z2) (by rw [← HZ2.out, ← HZ1.out])
          first | go_meet | (go_wp2_with fail; go_meet)
          case rel => first | exact R | ((repeat apply Exists.intro); exact ⟨R, rfl⟩)
      · go_simp
        have hwx : wr.heap.size ≤ u0.w.heap.size := u0.w_below.size
        have hva : Below u0.w.heap.size u0.w (u0.w.alloc (.cells #[.slice none 0 0, .slice none 0 0] 25)) := b_alloc (Below.refl _ _) _
        obtain ⟨va, hv⟩ : ∃ y : After wr, y.w = u0.w.alloc (.cells #[.slice none 0 0, .slice none 0 0] 25) := ⟨u0.on hva, rfl⟩
        rw [← hv] at hva
        rw [← hv]
        have x0 : va.w.cell? ⟨u0.w.heap.size, 0, none⟩ = some (.slice none 0 0) := by rw [hv]; exact bn rfl rfl
        have x1 : va.w.cell? ⟨u0.w.heap.size, 1, none⟩ = some (.slice none 0 0) := by rw [hv]; exact bn rfl rfl
        have fx0 : va.w.frozen? ⟨u0.w.heap.size, 0, none⟩ = false := by rw [hv]; exact fn rfl
        have fx1 : va.w.frozen? ⟨u0.w.heap.size, 1, none⟩ = false := by rw [hv]; exact fn rfl
        have zx : u0.w.heap.size < va.w.heap.size := by rw [hv]; simp
        have hax1 : va.w.heap.size ≤ u0.w.heap.size + 1 := by rw [hv]; simp
        clear hv hva
        refine hK _ va ?_
        clear hK K
        try simp only [Act.put, List.setIfInBounds_toArray, List.set_cons_zero, List.set_cons_succ]
        refine h_two 5 11 (by kernel_rfl) rfl rfl (fun K hK => ?_) (fun K hK => ?_)
        · go_simp
          have hcw := va.w_below.size
          refine (happens_any (fun g => g ≠ B ∧ sl.ownBlock ≠ some g ∧ g < wr.heap.size) ps ls _ kd t a b dt va.w (by omega) hl6 (fun g h => Nat.lt_of_lt_of_le h.2.2 hcw) (HN.out va) ok0 ok1 ok2 ok3 ok4 ok5 ok6 ok7 ok8 ok9).mono ?_
          rintro e w7 ⟨v7, Q, L, ⟨pf, pt, pa, pn, pc⟩, E, np, bs, rfl, hn7, hd7, hl7, HH7, hB7⟩
          obtain ⟨nq, hnq⟩ : ∃ q, Q.length = q := ⟨_, rfl⟩
          obtain ⟨nl, hnl⟩ : ∃ q, L.length = q := ⟨_, rfl⟩
          obtain ⟨qa7, aa7, qc7, ac7, rfl⟩ := hn7.form' hnq hnl
          obtain ⟨c, hc1, hc2⟩ : ∃ c, c ≤ va.w.heap.size ∧ va.w.heap.size ≤ c := ⟨_, Nat.le_refl _, Nat.le_refl _⟩
          obtain ⟨d, hd1, hd2⟩ : ∃ d, d ≤ w7.heap.size ∧ w7.heap.size ≤ d := ⟨_, Nat.le_refl _, Nat.le_refl _⟩
          have hs7 := hB7.size
          have HN9 := hid (hn7.here.mono (ok' := fun g => ((fun g => g ≠ B ∧ sl.ownBlock ≠ some g ∧ g < wr.heap.size) g ∨ c ≤ g) ∧ g < d) (fun g h => ⟨h.1.imp id (fun h => by omega), by omega⟩))
          have HD9 := hid ((show DatOk (fun g => c ≤ g) w7 np bs from ⟨hd7, .inr fun g off f e => by have := hl7 g off f e; omega⟩).here.mono (ok' := fun g => c ≤ g ∧ g < d) (fun g h => ⟨h.1, by omega⟩))
          have HQ7 := hid hnq; have HL7 := hid hnl; have HHH := hid HH7
          have x0 := bb hB7 zx x0
          have x1 := bb hB7 zx x1
          have fx0 := fb hB7 zx fx0
          have fx1 := fb hB7 zx fx1
          have zx := Nat.lt_of_lt_of_le zx (hB7).size
          obtain ⟨v1, rfl⟩ : ∃ v1 : After wr, w7 = v1.w := ⟨va.on hB7, rfl⟩
          clear hn7 hd7 hl7 HH7 hnq hnl hB7
          dsimp only [Pk.v]
          go_simp
          refine hK _ v1 ?_
          clear hK K
          try simp only [Act.put, List.setIfInBounds_toArray, List.set_cons_zero, List.set_cons_succ]
          refine h_take 6 (x := ?_) rfl (by kernel_rfl) (by kernel_rfl) (by kernel_rfl) (fun _ _ _ h => h) (by rfl) (fun v => ?_) ?_
          rotate_left
          · (go_simp; try with_reducible rfl)
          try simp only [Act.put, List.setIfInBounds_toArray, List.set_cons_zero, List.set_cons_succ]
          refine h_take 7 (x := ?_) rfl (by kernel_rfl) (by kernel_rfl) (by kernel_rfl) (fun _ _ _ h => h) (by rfl) (fun v => ?_) ?_
          rotate_left
          · (go_simp; try with_reducible rfl)
          try simp only [Act.put, List.setIfInBounds_toArray, List.set_cons_zero, List.set_cons_succ]
          refine h_take 8 (x := ?_) rfl (by kernel_rfl) (by kernel_rfl) (by kernel_rfl) (fun _ _ _ h => h) (by rfl) (fun v => ?_) ?_
          rotate_left
          · (go_simp; try with_reducible rfl)
          try simp only [Act.put, List.setIfInBounds_toArray, List.set_cons_zero, List.set_cons_succ]
          refine h_take 9 (x := ?_) rfl (by kernel_rfl) (by kernel_rfl) (by kernel_rfl) (fun _ _ _ h => h) (by rfl) (fun v => ?_) ?_
          rotate_left
          · (go_simp; try with_reducible rfl)
          try simp only [Act.put, List.setIfInBounds_toArray, List.set_cons_zero, List.set_cons_succ]
          refine h_step 11 (by kernel_rfl) rfl (fun K hK => ?_)
          go_simp
          have hwp : wr.heap.size ≤ v1.w.heap.size := v1.w_below.size
          have hvb : Below v1.w.heap.size v1.w (v1.w.alloc (.cells #[.int .i64 0, .int .i64 0, .slice none 0 0] 28)) := b_alloc (Below.refl _ _) _
          obtain ⟨vp, hv⟩ : ∃ y : After wr, y.w = v1.w.alloc (.cells #[.int .i64 0, .int .i64 0, .slice none 0 0] 28) := ⟨v1.on hvb, rfl⟩
          rw [← hv] at hvb
          rw [← hv]
          have x0 := bb hvb zx x0
          have x1 := bb hvb zx x1
          have fx0 := fb hvb zx fx0
          have fx1 := fb hvb zx fx1
          have zx := Nat.lt_of_lt_of_le zx (hvb).size
          have HN9 := hid (HN9.out.below hvb)
          have HD9 := hid (HD9.out.below hvb)
          have p0 : vp.w.cell? ⟨v1.w.heap.size, 0, none⟩ = some (.int .i64 0) := by rw [hv]; exact bn rfl rfl
          have p1 : vp.w.cell? ⟨v1.w.heap.size, 1, none⟩ = some (.int .i64 0) := by rw [hv]; exact bn rfl rfl
          have p2 : vp.w.cell? ⟨v1.w.heap.size, 2, none⟩ = some (.slice none 0 0) := by rw [hv]; exact bn rfl rfl
          have fp0 : vp.w.frozen? ⟨v1.w.heap.size, 0, none⟩ = false := by rw [hv]; exact fn rfl
          have fp1 : vp.w.frozen? ⟨v1.w.heap.size, 1, none⟩ = false := by rw [hv]; exact fn rfl
          have fp2 : vp.w.frozen? ⟨v1.w.heap.size, 2, none⟩ = false := by rw [hv]; exact fn rfl
          have zp : v1.w.heap.size < vp.w.heap.size := by rw [hv]; simp
          have hap1 : vp.w.heap.size ≤ v1.w.heap.size + 1 := by rw [hv]; simp
          clear hv hvb
          refine hK _ vp ?_
          clear hK K
          try simp only [Act.put, List.setIfInBounds_toArray, List.set_cons_zero, List.set_cons_succ]
          refine h_step 12 (by kernel_rfl) rfl (fun K hK => ?_)
          have hne : u0.w.heap.size ≠ v1.w.heap.size := by omega
          go_simp
          generalize hZ : World.setCell _ _ _ = Z
          have r0 : Z.cell? ⟨v1.w.heap.size, 0, none⟩ = some (.int .i64 0) := by rw [← hZ]; exact st_off _ (.inr hne) (st_off _ (.inr hne) p0)
          have r1 : Z.cell? ⟨v1.w.heap.size, 1, none⟩ = some (.int .i64 0) := by rw [← hZ]; exact st_off _ (.inr hne) (st_off _ (.inr hne) p1)
          have r2 : Z.cell? ⟨v1.w.heap.size, 2, none⟩ = some (.slice none 0 0) := by rw [← hZ]; exact st_off _ (.inr hne) (st_off _ (.inr hne) p2)
          have fr0 : Z.frozen? ⟨v1.w.heap.size, 0, none⟩ = false := by rw [← hZ]; exact sf _ (sf _ fp0)
          have fr1 : Z.frozen? ⟨v1.w.heap.size, 1, none⟩ = false := by rw [← hZ]; exact sf _ (sf _ fp1)
          have fr2 : Z.frozen? ⟨v1.w.heap.size, 2, none⟩ = false := by rw [← hZ]; exact sf _ (sf _ fp2)
          obtain ⟨z1, rfl⟩ : ∃ z : After wr, Z = z.w := ⟨After.to (by rw [← hZ]; exact b_set (b_set vp.w_below (by omega) _) (by omega) _), rfl⟩
          have HZ1 := hid hZ; clear hZ
          refine hK _ z1 ?_
          clear hK K
          try simp only [Act.put, List.setIfInBounds_toArray, List.set_cons_zero, List.set_cons_succ]
          refine h_step 13 (by kernel_rfl) rfl (fun K hK => ?_)
          go_simp
          generalize hZ : World.setCell _ _ _ = Z
          obtain ⟨z2, rfl⟩ : ∃ z : After wr, Z = z.w := ⟨After.to (by rw [← hZ]; exact b_set (b_set (b_set z1.w_below (by omega) _) (by omega) _) (by omega) _), rfl⟩
          have HZ2 := hid hZ; clear hZ
          refine hK _ z2 ?_
          clear hK K
          try simp only [Act.put, List.setIfInBounds_toArray, List.set_cons_zero, List.set_cons_succ]
          refine h_take 14 (x := ?_) rfl (by kernel_rfl) (by kernel_rfl) (by kernel_rfl) (fun _ _ _ h => h) (by rfl) (fun v => ?_) ?_
          rotate_left
          · (go_simp; try with_reducible rfl)
          try simp only [Act.put, List.setIfInBounds_toArray, List.set_cons_zero, List.set_cons_succ]
          refine wpAnyH_done (by kernel_rfl) ?_ _
          refine NoPanic.normal ?_
          have R := FC.mk (okw := (fun g => g ≠ B ∧ sl.ownBlock ≠ some g ∧ g < wr.heap.size)) (k := kd % 6) (ps := ps) (ls := ls) (y := vp.w) (bx := u0.w.heap.size) (bp := v1.w.heap.size) (P := ⟨pf, pt, pa, pn, pc⟩) HQ7.out HL7.out HN9.out HD9.out HHH.out vp.w_below (by omega) (by omega) (by omega) hwx hwp hne (fun g h => h.2.2) x0 x1 p0 p1 p2 zx zp (z2 := z2) (by rw [← HZ2.out, ← HZ1.out])
          first | go_meet | (go_wp2_with fail; go_meet)
          case rel => first | exact R | ((repeat apply Exists.intro); exact ⟨R, rfl⟩)
        · go_simp
          have hwp : wr.heap.size ≤ va.w.heap.size := va.w_below.size
          have hvb : Below va.w.heap.size va.w (va.w.alloc (.cells #[.int .i64 0, .int .i64 0, .slice none 0 0] 28)) := b_alloc (Below.refl _ _) _
          obtain ⟨vp, hv⟩ : ∃ y : After wr, y.w = va.w.alloc (.cells #[.int .i64 0, .int .i64 0, .slice none 0 0] 28) := ⟨va.on hvb, rfl⟩
          rw [← hv] at hvb
          rw [← hv]
          have x0 := bb hvb zx x0
          have x1 := bb hvb zx x1
          have fx0 := fb hvb zx fx0
          have fx1 := fb hvb zx fx1
          have zx := Nat.lt_of_lt_of_le zx (hvb).size
          have p0 : vp.w.cell? ⟨va.w.heap.size, 0, none⟩ = some (.int .i64 0) := by rw [hv]; exact bn rfl rfl
          have p1 : vp.w.cell? ⟨va.w.heap.size, 1, none⟩ = some (.int .i64 0) := by rw [hv]; exact bn rfl rfl
          have p2 : vp.w.cell? ⟨va.w.heap.size, 2, none⟩ = some (.slice none 0 0) := by rw [hv]; exact bn rfl rfl
          have fp0 : vp.w.frozen? ⟨va.w.heap.size, 0, none⟩ = false := by rw [hv]; exact fn rfl
          have fp1 : vp.w.frozen? ⟨va.w.heap.size, 1, none⟩ = false := by rw [hv]; exact fn rfl
          have fp2 : vp.w.frozen? ⟨va.w.heap.size, 2, none⟩ = false := by rw [hv]; exact fn rfl
          have zp : va.w.heap.size < vp.w.heap.size := by rw [hv]; simp
          have hap1 : vp.w.heap.size ≤ va.w.heap.size + 1 := by rw [hv]; simp
          clear hv hvb
          refine hK _ vp ?_
          clear hK K
          try simp only [Act.put, List.setIfInBounds_toArray, List.set_cons_zero, List.set_cons_succ]
          refine h_step 5 (by kernel_rfl) rfl (fun K hK => ?_)
          go_simp
          have hcw := vp.w_below.size
          refine (happens_any (fun g => g ≠ B ∧ sl.ownBlock ≠ some g ∧ g < wr.heap.size) ps ls _ kd t a b dt vp.w (by omega) hl6 (fun g h => Nat.lt_of_lt_of_le h.2.2 hcw) (HN.out vp) ok0 ok1 ok2 ok3 ok4 ok5 ok6 ok7 ok8 ok9).mono ?_
          rintro e w7 ⟨v7, Q, L, ⟨pf, pt, pa, pn, pc⟩, E, np, bs, rfl, hn7, hd7, hl7, HH7, hB7⟩
          obtain ⟨nq, hnq⟩ : ∃ q, Q.length = q := ⟨_, rfl⟩
          obtain ⟨nl, hnl⟩ : ∃ q, L.length = q := ⟨_, rfl⟩
          obtain ⟨qa7, aa7, qc7, ac7, rfl⟩ := hn7.form' hnq hnl
          obtain ⟨c, hc1, hc2⟩ : ∃ c, c ≤ vp.w.heap.size ∧ vp.w.heap.size ≤ c := ⟨_, Nat.le_refl _, Nat.le_refl _⟩
          obtain ⟨d, hd1, hd2⟩ : ∃ d, d ≤ w7.heap.size ∧ w7.heap.size ≤ d := ⟨_, Nat.le_refl _, Nat.le_refl _⟩
          have hs7 := hB7.size
          have HN9 := hid (hn7.here.mono (ok' := fun g => ((fun g => g ≠ B ∧ sl.ownBlock ≠ some g ∧ g < wr.heap.size) g ∨ c ≤ g) ∧ g < d) (fun g h => ⟨h.1.imp id (fun h => by omega), by omega⟩))
          have HD9 := hid ((show DatOk (fun g => c ≤ g) w7 np bs from ⟨hd7, .inr fun g off f e => by have := hl7 g off f e; omega⟩).here.mono (ok' := fun g => c ≤ g ∧ g < d) (fun g h => ⟨h.1, by omega⟩))
          have HQ7 := hid hnq; have HL7 := hid hnl; have HHH := hid HH7
          have x0 := bb hB7 zx x0
          have x1 := bb hB7 zx x1
          have fx0 := fb hB7 zx fx0
          have fx1 := fb hB7 zx fx1
          have zx := Nat.lt_of_lt_of_le zx (hB7).size
          have p0 := bb hB7 zp p0
          have p1 := bb hB7 zp p1
          have p2 := bb hB7 zp p2
          have fp0 := fb hB7 zp fp0
          have fp1 := fb hB7 zp fp1
          have fp2 := fb hB7 zp fp2
          have zp := Nat.lt_of_lt_of_le zp (hB7).size
          obtain ⟨v1, rfl⟩ : ∃ v1 : After wr, w7 = v1.w := ⟨vp.on hB7, rfl⟩
          clear hn7 hd7 hl7 HH7 hnq hnl hB7
          dsimp only [Pk.v]
          go_simp
          refine hK _ v1 ?_
          clear hK K
          try simp only [Act.put, List.setIfInBounds_toArray, List.set_cons_zero, List.set_cons_succ]
          refine h_take 6 (x := ?_) rfl (by kernel_rfl) (by kernel_rfl) (by kernel_rfl) (fun _ _ _ h => h) (by rfl) (fun v => ?_) ?_
          rotate_left
          · (go_simp; try with_reducible rfl)
          try simp only [Act.put, List.setIfInBounds_toArray, List.set_cons_zero, List.set_cons_succ]
          refine h_take 7 (x := ?_) rfl (by kernel_rfl) (by kernel_rfl) (by kernel_rfl) (fun _ _ _ h => h) (by rfl) (fun v => ?_) ?_
          rotate_left
          · (go_simp; try with_reducible rfl)
          try simp only [Act.put, List.setIfInBounds_toArray, List.set_cons_zero, List.set_cons_succ]
          refine h_take 8 (x := ?_) rfl (by kernel_rfl) (by kernel_rfl) (by kernel_rfl) (fun _ _ _ h => h) (by rfl) (fun v => ?_) ?_
          rotate_left
          · (go_simp; try with_reducible rfl)
          try simp only [Act.put, List.setIfInBounds_toArray, List.set_cons_zero, List.set_cons_succ]
          refine h_take 9 (x := ?_) rfl (by kernel_rfl) (by kernel_rfl) (by kernel_rfl) (fun _ _ _ h => h) (by rfl) (fun v => ?_) ?_
          rotate_left
          · (go_simp; try with_reducible rfl)
          try simp only [Act.put, List.setIfInBounds_toArray, List.set_cons_zero, List.set_cons_succ]
          refine h_step 12 (by kernel_rfl) rfl (fun K hK => ?_)
          have hne : u0.w.heap.size ≠ va.w.heap.size := by omega
          go_simp
          generalize hZ : World.setCell _ _ _ = Z
          have r0 : Z.cell? ⟨va.w.heap.size, 0, none⟩ = some (.int .i64 0) := by rw [← hZ]; exact st_off _ (.inr hne) (st_off _ (.inr hne) p0)
          have r1 : Z.cell? ⟨va.w.heap.size, 1, none⟩ = some (.int .i64 0) := by rw [← hZ]; exact st_off _ (.inr hne) (st_off _ (.inr hne) p1)
          have r2 : Z.cell? ⟨va.w.heap.size, 2, none⟩ = some (.slice none 0 0) := by rw [← hZ]; exact st_off _ (.inr hne) (st_off _ (.inr hne) p2)
          have fr0 : Z.frozen? ⟨va.w.heap.size, 0, none⟩ = false := by rw [← hZ]; exact sf _ (sf _ fp0)
          have fr1 : Z.frozen? ⟨va.w.heap.size, 1, none⟩ = false := by rw [← hZ]; exact sf _ (sf _ fp1)
          have fr2 : Z.frozen? ⟨va.w.heap.size, 2, none⟩ = false := by rw [← hZ]; exact sf _ (sf _ fp2)
          obtain ⟨z1, rfl⟩ : ∃ z : After wr, Z = z.w := ⟨After.to (by rw [← hZ]; exact b_set (b_set v1.w_below (by omega) _) (by omega) _), rfl⟩
          have HZ1 := hid hZ; clear hZ
          refine hK _ z1 ?_
          clear hK K
          try simp only [Act.put, List.setIfInBounds_toArray, List.set_cons_zero, List.set_cons_succ]
          refine h_step 13 (by kernel_rfl) rfl (fun K hK => ?_)
          go_simp
          generalize hZ : World.setCell _ _ _ = Z
          obtain ⟨z2, rfl⟩ : ∃ z : After wr, Z = z.w := ⟨After.to (by rw [← hZ]; exact b_set (b_set (b_set z1.w_below (by omega) _) (by omega) _) (by omega) _), rfl⟩
          have HZ2 := hid hZ; clear hZ
          refine hK _ z2 ?_
          clear hK K
          try simp only [Act.put, List.setIfInBounds_toArray, List.set_cons_zero, List.set_cons_succ]
          refine h_take 14 (x := ?_) rfl (by kernel_rfl) (by kernel_rfl) (by kernel_rfl) (fun _ _ _ h => h) (by rfl) (fun v => ?_) ?_
          rotate_left
          · (go_simp; try with_reducible rfl)
          try simp only [Act.put, List.setIfInBounds_toArray, List.set_cons_zero, List.set_cons_succ]
          refine wpAnyH_done (by kernel_rfl) ?_ _
          refine NoPanic.normal ?_
          have R := FC.mk (okw := (fun g => g ≠ B ∧ sl.ownBlock ≠ some g ∧ g < wr.heap.size)) (k := kd % 6) (ps := ps) (ls := ls) (y := v1.w) (bx := u0.w.heap.size) (bp := va.w.heap.size) (P := ⟨pf, pt, pa, pn, pc⟩) HQ7.out HL7.out HN9.out HD9.out HHH.out v1.w_below (by omega) (by omega) (by omega) hwx hwp hne (fun g h => h.2.2) x0 x1 p0 p1 p2 zx zp (z2 := z2) (by rw [← HZ2.out, ← HZ1.out])
          first | go_meet | (go_wp2_with fail; go_meet)
          case rel => first | exact R | ((repeat apply Exists.intro); exact ⟨R, rfl⟩)
      · go_simp
        have hwp : wr.heap.size ≤ u0.w.heap.size := u0.w_below.size
        have hvb : Below u0.w.heap.size u0.w (u0.w.alloc (.cells #[.int .i64 0, .int .i64 0, .slice none 0 0] 28)) := b_alloc (Below.refl _ _) _
        obtain ⟨vp, hv⟩ : ∃ y : After wr, y.w = u0.w.alloc (.cells #[.int .i64 0, .int .i64 0, .slice none 0 0] 28) := ⟨u0.on hvb, rfl⟩
        rw [← hv] at hvb
        rw [← hv]
        have p0 : vp.w.cell? ⟨u0.w.heap.size, 0, none⟩ = some (.int .i64 0) := by rw [hv]; exact bn rfl rfl
        have p1 : vp.w.cell? ⟨u0.w.heap.size, 1, none⟩ = some (.int .i64 0) := by rw [hv]; exact bn rfl rfl
        have p2 : vp.w.cell? ⟨u0.w.heap.size, 2, none⟩ = some (.slice none 0 0) := by rw [hv]; exact bn rfl rfl
        have fp0 : vp.w.frozen? ⟨u0.w.heap.size, 0, none⟩ = false := by rw [hv]; exact fn rfl
        have fp1 : vp.w.frozen? ⟨u0.w.heap.size, 1, none⟩ = false := by rw [hv]; exact fn rfl
        have fp2 : vp.w.frozen? ⟨u0.w.heap.size, 2, none⟩ = false := by rw [hv]; exact fn rfl
        have zp : u0.w.heap.size < vp.w.heap.size := by rw [hv]; simp
        have hap1 : vp.w.heap.size ≤ u0.w.heap.size + 1 := by rw [hv]; simp
        clear hv hvb
        refine hK _ vp ?_
        clear hK K
        try simp only [Act.put, List.setIfInBounds_toArray, List.set_cons_zero, List.set_cons_succ]
        refine h_two 5 10 (by kernel_rfl) rfl rfl (fun K hK => ?_) (fun K hK => ?_)
        · go_simp
          have hcw := vp.w_below.size
          refine (happens_any (fun g => g ≠ B ∧ sl.ownBlock ≠ some g ∧ g < wr.heap.size) ps ls _ kd t a b dt vp.w (by omega) hl6 (fun g h => Nat.lt_of_lt_of_le h.2.2 hcw) (HN.out vp) ok0 ok1 ok2 ok3 ok4 ok5 ok6 ok7 ok8 ok9).mono ?_
          rintro e w7 ⟨v7, Q, L, ⟨pf, pt, pa, pn, pc⟩, E, np, bs, rfl, hn7, hd7, hl7, HH7, hB7⟩
          obtain ⟨nq, hnq⟩ : ∃ q, Q.length = q := ⟨_, rfl⟩
          obtain ⟨nl, hnl⟩ : ∃ q, L.length = q := ⟨_, rfl⟩
          obtain ⟨qa7, aa7, qc7, ac7, rfl⟩ := hn7.form' hnq hnl
          obtain ⟨c, hc1, hc2⟩ : ∃ c, c ≤ vp.w.heap.size ∧ vp.w.heap.size ≤ c := ⟨_, Nat.le_refl _, Nat.le_refl _⟩
          obtain ⟨d, hd1, hd2⟩ : ∃ d, d ≤ w7.heap.size ∧ w7.heap.size ≤ d := ⟨_, Nat.le_refl _, Nat.le_refl _⟩
          have hs7 := hB7.size
          have HN9 := hid (hn7.here.mono (ok' := fun g => ((fun g => g ≠ B ∧ sl.ownBlock ≠ some g ∧ g < wr.heap.size) g ∨ c ≤ g) ∧ g < d) (fun g h => ⟨h.1.imp id (fun h => by omega), by omega⟩))
          have HD9 := hid ((show DatOk (fun g => c ≤ g) w7 np bs from ⟨hd7, .inr fun g off f e => by have := hl7 g off f e; omega⟩).here.mono (ok' := fun g => c ≤ g ∧ g < d) (fun g h => ⟨h.1, by omega⟩))
          have HQ7 := hid hnq; have HL7 := hid hnl; have HHH := hid HH7
          have p0 := bb hB7 zp p0
          have p1 := bb hB7 zp p1
          have p2 := bb hB7 zp p2
          have fp0 := fb hB7 zp fp0
          have fp1 := fb hB7 zp fp1
          have fp2 := fb hB7 zp fp2
          have zp := Nat.lt_of_lt_of_le zp (hB7).size
          obtain ⟨v1, rfl⟩ : ∃ v1 : After wr, w7 = v1.w := ⟨vp.on hB7, rfl⟩
          clear hn7 hd7 hl7 HH7 hnq hnl hB7
          dsimp only [Pk.v]
          go_simp
          refine hK _ v1 ?_
          clear hK K
          try simp only [Act.put, List.setIfInBounds_toArray, List.set_cons_zero, List.set_cons_succ]
          refine h_take 6 (x := ?_) rfl (by kernel_rfl) (by kernel_rfl) (by kernel_rfl) (fun _ _ _ h => h) (by rfl) (fun v => ?_) ?_
          rotate_left
          · (go_simp; try with_reducible rfl)
          try simp only [Act.put, List.setIfInBounds_toArray, List.set_cons_zero, List.set_cons_succ]
          refine h_take 7 (x := ?_) rfl (by kernel_rfl) (by kernel_rfl) (by kernel_rfl) (fun _ _ _ h => h) (by rfl) (fun v => ?_) ?_
          rotate_left
          · (go_simp; try with_reducible rfl)
          try simp only [Act.put, List.setIfInBounds_toArray, List.set_cons_zero, List.set_cons_succ]
          refine h_take 8 (x := ?_) rfl (by kernel_rfl) (by kernel_rfl) (by kernel_rfl) (fun _ _ _ h => h) (by rfl) (fun v => ?_) ?_
          rotate_left
          · (go_simp; try with_reducible rfl)
          try simp only [Act.put, List.setIfInBounds_toArray, List.set_cons_zero, List.set_cons_succ]
          refine h_take 9 (x := ?_) rfl (by kernel_rfl) (by kernel_rfl) (by kernel_rfl) (fun _ _ _ h => h) (by rfl) (fun v => ?_) ?_
          rotate_left
          · (go_simp; try with_reducible rfl)
          try simp only [Act.put, List.setIfInBounds_toArray, List.set_cons_zero, List.set_cons_succ]
          refine h_step 10 (by kernel_rfl) rfl (fun K hK => ?_)
          go_simp
          have hwx : wr.heap.size ≤ v1.w.heap.size := v1.w_below.size
          have hva : Below v1.w.heap.size v1.w (v1.w.alloc (.cells #[.slice none 0 0, .slice none 0 0] 25)) := b_alloc (Below.refl _ _) _
          obtain ⟨va, hv⟩ : ∃ y : After wr, y.w = v1.w.alloc (.cells #[.slice none 0 0, .slice none 0 0] 25) := ⟨v1.on hva, rfl⟩
          rw [← hv] at hva
          rw [← hv]
          have p0 := bb hva zp p0
          have p1 := bb hva zp p1
          have p2 := bb hva zp p2
          have fp0 := fb hva zp fp0
          have fp1 := fb hva zp fp1
          have fp2 := fb hva zp fp2
          have zp := Nat.lt_of_lt_of_le zp (hva).size
          have HN9 := hid (HN9.out.below hva)
          have HD9 := hid (HD9.out.below hva)
          have x0 : va.w.cell? ⟨v1.w.heap.size, 0, none⟩ = some (.slice none 0 0) := by rw [hv]; exact bn rfl rfl
          have x1 : va.w.cell? ⟨v1.w.heap.size, 1, none⟩ = some (.slice none 0 0) := by rw [hv]; exact bn rfl rfl
          have fx0 : va.w.frozen? ⟨v1.w.heap.size, 0, none⟩ = false := by rw [hv]; exact fn rfl
          have fx1 : va.w.frozen? ⟨v1.w.heap.size, 1, none⟩ = false := by rw [hv]; exact fn rfl
          have zx : v1.w.heap.size < va.w.heap.size := by rw [hv]; simp
          have hax1 : va.w.heap.size ≤ v1.w.heap.size + 1 := by rw [hv]; simp
          clear hv hva
          refine hK _ va ?_
          clear hK K
          try simp only [Act.put, List.setIfInBounds_toArray, List.set_cons_zero, List.set_cons_succ]
          refine h_step 12 (by kernel_rfl) rfl (fun K hK => ?_)
          have hne : v1.w.heap.size ≠ u0.w.heap.size := by omega
          go_simp
          generalize hZ : World.setCell _ _ _ = Z
          have r0 : Z.cell? ⟨u0.w.heap.size, 0, none⟩ = some (.int .i64 0) := by rw [← hZ]; exact st_off _ (.inr hne) (st_off _ (.inr hne) p0)
          have r1 : Z.cell? ⟨u0.w.heap.size, 1, none⟩ = some (.int .i64 0) := by rw [← hZ]; exact st_off _ (.inr hne) (st_off _ (.inr hne) p1)
          have r2 : Z.cell? ⟨u0.w.heap.size, 2, none⟩ = some (.slice none 0 0) := by rw [← hZ]; exact st_off _ (.inr hne) (st_off _ (.inr hne) p2)
          have fr0 : Z.frozen? ⟨u0.w.heap.size, 0, none⟩ = false := by rw [← hZ]; exact sf _ (sf _ fp0)
          have fr1 : Z.frozen? ⟨u0.w.heap.size, 1, none⟩ = false := by rw [← hZ]; exact sf _ (sf _ fp1)
          have fr2 : Z.frozen? ⟨u0.w.heap.size, 2, none⟩ = false := by rw [← hZ]; exact sf _ (sf _ fp2)
          obtain ⟨z1, rfl⟩ : ∃ z : After wr, Z = z.w := ⟨After.to (by rw [← hZ]; exact b_set (b_set va.w_below (by omega) _) (by omega) _), rfl⟩
          have HZ1 := hid hZ; clear hZ
          refine hK _ z1 ?_
          clear hK K
          try simp only [Act.put, List.setIfInBounds_toArray, List.set_cons_zero, List.set_cons_succ]
          refine h_step 13 (by kernel_rfl) rfl (fun K hK => ?_)
          go_simp
          generalize hZ : World.setCell _ _ _ = Z
          obtain ⟨z2, rfl⟩ : ∃ z : After wr, Z = z.w := ⟨After.to (by rw [← hZ]; exact b_set (b_set (b_set z1.w_below (by omega) _) (by omega) _) (by omega) _), rfl⟩
          have HZ2 := hid hZ; clear hZ
          refine hK _ z2 ?_
          clear hK K
          try simp only [Act.put, List.setIfInBounds_toArray, List.set_cons_zero, List.set_cons_succ]
          refine h_take 14 (x := ?_) rfl (by kernel_rfl) (by kernel_rfl) (by kernel_rfl) (fun _ _ _ h => h) (by rfl) (fun v => ?_) ?_
          rotate_left
          · (go_simp; try with_reducible rfl)
          try simp only [Act.put, List.setIfInBounds_toArray, List.set_cons_zero, List.set_cons_succ]
          refine wpAnyH_done (by kernel_rfl) ?_ _
          refine NoPanic.normal ?_
          have R := FC.mk (okw := (fun g => g ≠ B ∧ sl.ownBlock ≠ some g ∧ g < wr.heap.size)) (k := kd % 6) (ps := ps) (ls := ls) (y := va.w) (bx := v1.w.heap.size) (bp := u0.w.heap.size) (P := ⟨pf, pt, pa, pn, pc⟩) HQ7.out HL7.out HN9.out HD9.out HHH.out va.w_below (by omega) (by omega) (by omega) hwx hwp hne (fun g h => h.2.2) x0 x1 p0 p1 p2 zx zp (z2 := z2) (by rw [← HZ2.out, ← HZ1.out])
          first | go_meet | (go_wp2_with fail; go_meet)
          case rel => first | exact R | ((repeat apply Exists.intro); exact ⟨R, rfl⟩)
        · go_simp
          have hwx : wr.heap.size ≤ vp.w.heap.size := vp.w_below.size
          have hva : Below vp.w.heap.size vp.w (vp.w.alloc (.cells #[.slice none 0 0, .slice none 0 0] 25)) := b_alloc (Below.refl _ _) _
          obtain ⟨va, hv⟩ : ∃ y : After wr, y.w = vp.w.alloc (.cells #[.slice none 0 0, .slice none 0 0] 25) := ⟨vp.on hva, rfl⟩
          rw [← hv] at hva
          rw [← hv]
          have p0 := bb hva zp p0
          have p1 := bb hva zp p1
          have p2 := bb hva zp p2
          have fp0 := fb hva zp fp0
          have fp1 := fb hva zp fp1
          have fp2 := fb hva zp fp2
          have zp := Nat.lt_of_lt_of_le zp (hva).size
          have x0 : va.w.cell? ⟨vp.w.heap.size, 0, none⟩ = some (.slice none 0 0) := by rw [hv]; exact bn rfl rfl
          have x1 : va.w.cell? ⟨vp.w.heap.size, 1, none⟩ = some (.slice none 0 0) := by rw [hv]; exact bn rfl rfl
          have fx0 : va.w.frozen? ⟨vp.w.heap.size, 0, none⟩ = false := by rw [hv]; exact fn rfl
          have fx1 : va.w.frozen? ⟨vp.w.heap.size, 1, none⟩ = false := by rw [hv]; exact fn rfl
          have zx : vp.w.heap.size < va.w.heap.size := by rw [hv]; simp
          have hax1 : va.w.heap.size ≤ vp.w.heap.size + 1 := by rw [hv]; simp
          clear hv hva
          refine hK _ va ?_
          clear hK K
          try simp only [Act.put, List.setIfInBounds_toArray, List.set_cons_zero, List.set_cons_succ]
          refine h_step 5 (by kernel_rfl) rfl (fun K hK => ?_)
          go_simp
          have hcw := va.w_below.size
          refine (happens_any (fun g => g ≠ B ∧ sl.ownBlock ≠ some g ∧ g < wr.heap.size) ps ls _ kd t a b dt va.w (by omega) hl6 (fun g h => Nat.lt_of_lt_of_le h.2.2 hcw) (HN.out va) ok0 ok1 ok2 ok3 ok4 ok5 ok6 ok7 ok8 ok9).mono ?_
          rintro e w7 ⟨v7, Q, L, ⟨pf, pt, pa, pn, pc⟩, E, np, bs, rfl, hn7, hd7, hl7, HH7, hB7⟩
          obtain ⟨nq, hnq⟩ : ∃ q, Q.length = q := ⟨_, rfl⟩
          obtain ⟨nl, hnl⟩ : ∃ q, L.length = q := ⟨_, rfl⟩
          obtain ⟨qa7, aa7, qc7, ac7, rfl⟩ := hn7.form' hnq hnl
          obtain ⟨c, hc1, hc2⟩ : ∃ c, c ≤ va.w.heap.size ∧ va.w.heap.size ≤ c := ⟨_, Nat.le_refl _, Nat.le_refl _⟩
          obtain ⟨d, hd1, hd2⟩ : ∃ d, d ≤ w7.heap.size ∧ w7.heap.size ≤ d := ⟨_, Nat.le_refl _, Nat.le_refl _⟩
          have hs7 := hB7.size
          have HN9 := hid (hn7.here.mono (ok' := fun g => ((fun g => g ≠ B ∧ sl.ownBlock ≠ some g ∧ g < wr.heap.size) g ∨ c ≤ g) ∧ g < d) (fun g h => ⟨h.1.imp id (fun h => by omega), by omega⟩))
          have HD9 := hid ((show DatOk (fun g => c ≤ g) w7 np bs from ⟨hd7, .inr fun g off f e => by have := hl7 g off f e; omega⟩).here.mono (ok' := fun g => c ≤ g ∧ g < d) (fun g h => ⟨h.1, by omega⟩))
          have HQ7 := hid hnq; have HL7 := hid hnl; have HHH := hid HH7
          have x0 := bb hB7 zx x0
          have x1 := bb hB7 zx x1
          have fx0 := fb hB7 zx fx0
          have fx1 := fb hB7 zx fx1
          have zx := Nat.lt_of_lt_of_le zx (hB7).size
          have p0 := bb hB7 zp p0
          have p1 := bb hB7 zp p1
          have p2 := bb hB7 zp p2
          have fp0 := fb hB7 zp fp0
          have fp1 := fb hB7 zp fp1
          have fp2 := fb hB7 zp fp2
          have zp := Nat.lt_of_lt_of_le zp (hB7).size
          obtain ⟨v1, rfl⟩ : ∃ v1 : After wr, w7 = v1.w := ⟨va.on hB7, rfl⟩
          clear hn7 hd7 hl7 HH7 hnq hnl hB7
          dsimp only [Pk.v]
          go_simp
          refine hK _ v1 ?_
          clear hK K
          try simp only [Act.put, List.setIfInBounds_toArray, List.set_cons_zero, List.set_cons_succ]
          refine h_take 6 (x := ?_) rfl (by kernel_rfl) (by kernel_rfl) (by kernel_rfl) (fun _ _ _ h => h) (by rfl) (fun v => ?_) ?_
          rotate_left
          · (go_simp; try with_reducible rfl)
          try simp only [Act.put, List.setIfInBounds_toArray, List.set_cons_zero, List.set_cons_succ]
          refine h_take 7 (x := ?_) rfl (by kernel_rfl) (by kernel_rfl) (by kernel_rfl) (fun _ _ _ h => h) (by rfl) (fun v => ?_) ?_
          rotate_left
          · (go_simp; try with_reducible rfl)
          try simp only [Act.put, List.setIfInBounds_toArray, List.set_cons_zero, List.set_cons_succ]
          refine h_take 8 (x := ?_) rfl (by kernel_rfl) (by kernel_rfl) (by kernel_rfl) (fun _ _ _ h => h) (by rfl) (fun v => ?_) ?_
          rotate_left
          · (go_simp; try with_reducible rfl)
          try simp only [Act.put, List.setIfInBounds_toArray, List.set_cons_zero, List.set_cons_succ]
          refine h_take 9 (x := ?_) rfl (by kernel_rfl) (by kernel_rfl) (by kernel_rfl) (fun _ _ _ h => h) (by rfl) (fun v => ?_) ?_
          rotate_left
          · (go_simp; try with_reducible rfl)
          try simp only [Act.put, List.setIfInBounds_toArray, List.set_cons_zero, List.set_cons_succ]
          refine h_step 12 (by kernel_rfl) rfl (fun K hK => ?_)
          have hne : vp.w.heap.size ≠ u0.w.heap.size := by omega
          go_simp
          generalize hZ : World.setCell _ _ _ = Z
          have r0 : Z.cell? ⟨u0.w.heap.size, 0, none⟩ = some (.int .i64 0) := by rw [← hZ]; exact st_off _ (.inr hne) (st_off _ (.inr hne) p0)
          have r1 : Z.cell? ⟨u0.w.heap.size, 1, none⟩ = some (.int .i64 0) := by rw [← hZ]; exact st_off _ (.inr hne) (st_off _ (.inr hne) p1)
          have r2 : Z.cell? ⟨u0.w.heap.size, 2, none⟩ = some (.slice none 0 0) := by rw [← hZ]; exact st_off _ (.inr hne) (st_off _ (.inr hne) p2)
          have fr0 : Z.frozen? ⟨u0.w.heap.size, 0, none⟩ = false := by rw [← hZ]; exact sf _ (sf _ fp0)
          have fr1 : Z.frozen? ⟨u0.w.heap.size, 1, none⟩ = false := by rw [← hZ]; exact sf _ (sf _ fp1)
          have fr2 : Z.frozen? ⟨u0.w.heap.size, 2, none⟩ = false := by rw [← hZ]; exact sf _ (sf _ fp2)
          obtain ⟨z1, rfl⟩ : ∃ z : After wr, Z = z.w := ⟨After.to (by rw [← hZ]; exact b_set (b_set v1.w_below (by omega) _) (by omega) _), rfl⟩
          have HZ1 := hid hZ; clear hZ
          refine hK _ z1 ?_
          clear hK K
          try simp only [Act.put, List.setIfInBounds_toArray, List.set_cons_zero, List.set_cons_succ]
          refine h_step 13 (by kernel_rfl) rfl (fun K hK => ?_)
          go_simp
          generalize hZ : World.setCell _ _ _ = Z
          obtain ⟨z2, rfl⟩ : ∃ z : After wr, Z = z.w := ⟨After.to (by rw [← hZ]; exact b_set (b_set (b_set z1.w_below (by omega) _) (by omega) _) (by omega) _), rfl⟩
          have HZ2 := hid hZ; clear hZ
          refine hK _ z2 ?_
          clear hK K
          try simp only [Act.put, List.setIfInBounds_toArray, List.set_cons_zero, List.set_cons_succ]
          refine h_take 14 (x := ?_) rfl (by kernel_rfl) (by kernel_rfl) (by kernel_rfl) (fun _ _ _ h => h) (by rfl) (fun v => ?_) ?_
          rotate_left
          · (go_simp; try with_reducible rfl)
          try simp only [Act.put, List.setIfInBounds_toArray, List.set_cons_zero, List.set_cons_succ]
          refine wpAnyH_done (by kernel_rfl) ?_ _
          refine NoPanic.normal ?_
          have R := FC.mk (okw := (fun g => g ≠ B ∧ sl.ownBlock ≠ some g ∧ g < wr.heap.size)) (k := kd % 6) (ps := ps) (ls := ls) (y := v1.w) (bx := vp.w.heap.size) (bp := u0.w.heap.size) (P := ⟨pf, pt, pa, pn, pc⟩) HQ7.out HL7.out HN9.out HD9.out HHH.out v1.w_below (by omega) (by omega) (by omega) hwx hwp hne (fun g h => h.2.2) x0 x1 p0 p1 p2 zx zp (z2 := z2) (by rw [← HZ2.out, ← HZ1.out])
          first | go_meet | (go_wp2_with fail; go_meet)
          case rel => first | exact R | ((repeat apply Exists.intro); exact ⟨R, rfl⟩)
    case rest =>
    obtain ⟨bx, bp, Q, L, P, E, ⟨nf, nt, na, nd, nc⟩, bs, nq, nl, qa7, aa7, qc7, ac7, z, rfl, rfl, rfl, rfl, hQ, hL, hXB, hNet, hDat, HH, hwx, hwp, hne⟩ := hcut.of
    clear hcut hu u0
    obtain ⟨V, hV⟩ : ∃ V : World, V = z.w := ⟨_, rfl⟩
    have hzV : Below wr.heap.size wr V := by rw [hV]; exact z.2
    rw [← hV] at hXB hNet hDat ⊢
    have HRV := hid (HR.out.later hzV)
    have hBw := HR.out.size
    have hVs := hzV.size
    have hown := HR.out.own.lt
    have hup : ∀ g, ((((fun g => g ≠ B ∧ sl.ownBlock ≠ some g ∧ g < wr.heap.size) g) ∨ wr.heap.size ≤ g) ∧ g ≠ bx ∧ g ≠ bp ∧ g < V.heap.size) → (g ≠ B ∧ sl.ownBlock ≠ some g ∧ g < V.heap.size) := fun g h => h.1.elim (fun ⟨a, b, _⟩ => ⟨a, b, h.2.2.2⟩) (fun h1 => ⟨by omega, fun e => by have := hown g e; omega, h.2.2.2⟩)
    have HNET := hid (hNet.mono hup)
    have HDAT := hid (hDat.mono fun g h => hup g ⟨.inr h.1, h.2⟩)
    have hxo : some bx ≠ sl.ownBlock := fun e => by have := hown bx e.symm; omega
    have hpo : some bp ≠ sl.ownBlock := fun e => by have := hown bp e.symm; omega
    have HXO := hid hxo; have HPO := hid hpo
    have b0 : ∀ v : After V, v.w.cell? ⟨B, 0, none⟩ = some (.slice qa n qc) := upc hzV n0
    have b1 : ∀ v : After V, v.w.cell? ⟨B, 1, none⟩ = some (.slice aa m ac) := upc hzV n1
    have x0 : ∀ v : After V, v.w.cell? ⟨bx, 0, none⟩ = some (.slice qa7 nq qc7) := after_cell hXB.sx hXB.x0
    have x1 : ∀ v : After V, v.w.cell? ⟨bx, 1, none⟩ = some (.slice aa7 nl ac7) := after_cell hXB.sx hXB.x1
    have p0 : ∀ v : After V, v.w.cell? ⟨bp, 0, none⟩ = some (.int .i64 P.fr) := after_cell hXB.sp hXB.p0
    have p1 : ∀ v : After V, v.w.cell? ⟨bp, 1, none⟩ = some (.int .i64 P.to) := after_cell hXB.sp hXB.p1
    have p2 : ∀ v : After V, v.w.cell? ⟨bp, 2, none⟩ = some (.slice P.da P.dn P.dc) := after_cell hXB.sp hXB.p2
    have q0 : ∀ v : After V, v.w.cell? ⟨blk, off + j * 5, none⟩ = some (.int .u8 kd) := upc hzV k0
    have HXB := hid hXB; have HQN := hid hQ; have HLN := hid hL
    have HHH := hid HH
    have hlen := HH.len
    have hlen2 := HH.len2
    obtain ⟨v0, hv0⟩ : ∃ v : After V, v.w = V := ⟨After.here V, rfl⟩
    rw [← hv0]
    clear hv0 hV hNet hDat hXB hQ hL hup hxo hpo n0 n1 k0 k1 k2 k3 k4 HH
    have hn5 : n ≤ 60 := by omega
    by_cases hE : E = 0
    case neg =>
      obtain ⟨hq0, hl0⟩ := HHH.out.bad hE
      have e1 : (E != 0) = true := by simpa using hE
      have HQ0 := hid hq0; have HL0 := hid hl0; have hck := hCK.out
      clear hE hq0 hl0
      go_wp2_with fail
      refine (met (Check_net (HRV.out.net.below v0.2) (by omega) (by omega))).mono ?_
      rintro e _ ⟨rfl, v1, rfl⟩
      rw [hck]
      clear hck
      go_wp2_with fail
      have hsm := met (same_any (fun _ => []) Q [] L [] _ _ _ (fun _ => True) v1.w (by rw [HQ0.out]; simp) (by rw [HL0.out]; simp) (HNET.out.below v1.2) (NetIs.zero _ _) (fun p h => by rw [HQ0.out] at h; simp at h))
      rw [decide_eq_true ⟨by rw [HQ0.out], HL0.out⟩] at hsm
      refine hsm.mono ?_
      clear hsm
      rintro e _ ⟨rfl, v2, rfl⟩
      go_wp2_with fail
      clear d1 d1' e1
      go_roundw
      case rel => exact OS.mk (j + 1) cu (by omega) (by go_num) (by omega) (by omega) hm6 (by omega) HLS.out hCK.out HSUB.out (HRV.out.later v2.2)
      case measure => first | (simp [intOf]; done) | (simp [intOf]; omega)
    subst hE
    obtain ⟨k6, hk6⟩ : ∃ q, kd % 6 = q := ⟨_, rfl⟩
    have hk0 : 0 ≤ k6 := by omega
    have hk5 : k6 < 6 := by omega
    have hH6 := HHH.out
    rw [hk6] at hH6
    have HH6 := hid hH6
    have HGD := hid (hH6.good rfl)
    have HLC := hid (fun (h : ¬ k6 = 4) => HLS.out.imp (hH6.none h) id)
    have HQS := hid (fun (h : ¬ k6 = 0) (q : Pk) (hq : q ∈ Q) => ((hH6.sub q hq).elim (HSUB.out q) (fun h' => absurd h'.1 h) : q ∈ S))
    clear hH6 HHH
    go_upto_block 2 with (fail)
    rw [hk6]
    clear hk6
    go_cut [4, 5] (fun s4 s5 wx => SwC W B j ps ls n m qa aa qc ac Q L nq nl qa7 aa7 qc7 ac7 bx bp P s4 s5 wx)
    case first =>
      have h6 : k6 = 0 ∨ k6 = 1 ∨ k6 = 2 ∨ k6 = 3 ∨ k6 = 4 ∨ k6 = 5 := by omega
      have hcu6 : cu ≤ 60 := by omega
      rcases h6 with rfl | rfl | rfl | rfl | rfl | rfl
      · skip
        have hsent := HH6.out.sent rfl rfl
        obtain rfl : nq = n + 1 := by rw [← HQN.out, hsent, List.length_append, HRV.out.hn]; rfl
        have hnl : n < Q.length := by rw [HQN.out]; omega
        obtain ⟨bq, oq, rfl, -⟩ := (net_queue HNET.out).addr (by rw [flat_len Pk.c 3 Pk.c3]; omega)
        have RQ := hid (fun v : After V => (net_queue HNET.out).below v.2)
        have hgn : Q[n] = ⟨nf, nt, na, nd, nc⟩ := by
          have h1 : Q[n]? = some ⟨nf, nt, na, nd, nc⟩ := by
            rw [hsent, List.getElem?_append_right (by rw [HRV.out.hn]; omega), HRV.out.hn, Nat.sub_self]
            rfl
          rw [List.getElem?_eq_getElem hnl] at h1
          exact Option.some.inj h1
        have w0 : ∀ v : After V, v.w.cell? ⟨bq, oq + n * 3, none⟩ = some (.int .i64 nf) := row_cell Pk.c3 RQ.out hnl 0 (by decide) (by rw [hgn]; rfl) rfl
        have w1 : ∀ v : After V, v.w.cell? ⟨bq, oq + n * 3 + 1, none⟩ = some (.int .i64 nt) := row_cell Pk.c3 RQ.out hnl 1 (by decide) (by rw [hgn]; rfl) rfl
        have w2 : ∀ v : After V, v.w.cell? ⟨bq, oq + n * 3 + 2, none⟩ = some (.slice na nd nc) := row_cell Pk.c3 RQ.out hnl 2 (by decide) (by rw [hgn]; rfl) rfl
        have ez : ((n : Int) + 1 == 0) = false := beq_eq_false_iff_ne.2 (by omega)
        have nz0 : (0 : Int) ≤ (n : Int) := by omega
        have nz1 : (n : Int) < (n : Int) + 1 := by omega
        have nw : IntKind.i64.wrap (n : Int) = (n : Int) := by simp [IntKind.wrap_i64]; omega
        have nw4 : wrap64 (n : Int) = (n : Int) := by unfold wrap64; omega
        have hBv : B < v0.w.heap.size := Nat.lt_of_lt_of_le HRV.out.size v0.2.size
        have HSN := hid hsent
        have bd : S.length + 1 ≤ maxLen ∧ (S.length + 1) * 40 ≤ 140737488355328 := by unfold maxLen; constructor <;> omega
        have hbas : B + 1 ≤ (v0.w.alloc (.cells #[.int .i64 nf, .int .i64 nt, .slice na nd nc] 28)).heap.size := by simp; omega
        clear hsent hgn
        go_wp2_with (at_builtin; refine wpList_append_own_at _ rfl (.tmp 57) (.tmp 66) 22 rfl (B + 1) 28 i0 (.agg #[.int .i64 0, .int .i64 0, .slice none 0 0]) 3 40 und22 hi hz0 hz1 hz2 rfl (by decide) _ _ _ rfl ((own_after HRV.out.own v0.2).alloc _) ⟨v0.w.heap.size, 0, none⟩ 1 1 (Pk.c ⟨nf, nt, na, nd, nc⟩) rfl rfl (news (cs := #[.int .i64 nf, .int .i64 nt, .slice na nd nc]) (by simp)) (Pk.one _) bd.1 bd.2 hbas ?_; intro v' w1 hown' hgrow _ hv')
        have hal : Below V.heap.size V (v0.w.alloc (.cells #[.int .i64 nf, .int .i64 nt, .slice na nd nc] 28)) := b_alloc v0.2 _
        have hszl : V.heap.size ≤ (v0.w.alloc (.cells #[.int .i64 nf, .int .i64 nt, .slice na nd nc] 28)).heap.size := hal.size
        have R := hid (SwC.mk2 (j := j) (s5 := .int .i64 (cu : Int)) cu (HRV.out.later hal) hWB (HXB.out.below hal) ((HNET.out.below hal).mono fun g ⟨a, b, c⟩ => ⟨a, b, Nat.lt_of_lt_of_le c hszl⟩) hgrow hown' hv' ((HDAT.out.below hal).mono fun g ⟨a, b, c⟩ => ⟨a, b, Nat.lt_of_lt_of_le c hszl⟩) HXO.out HPO.out rfl (by omega) hSj (HLC.out (by decide)) (fun q hq => by rw [HSN.out] at hq; rcases List.mem_append.1 hq with h | h; exact List.mem_append_left _ (HSUB.out q h); exact List.mem_append_right _ h))
        clear hown' hgrow hv' hal hszl
        go_wp2_with fail
        go_meet
        case rel => first | exact R.out | ((repeat apply Exists.intro); exact ⟨R.out, rfl⟩)
      · skip
        have hgot := HH6.out.got rfl rfl
        have hPS : P ∈ S ∨ (P = Pk.zero ∧ 0 < cu) := hgot.imp (HSUB.out P) (fun ⟨a, b⟩ => ⟨a, HLS.out.resolve_left b⟩)
        have hdz : ∃ bs, DataIs V Pk.zero bs := ⟨[], rfl, Rd.nil⟩
        have hdS : ∀ q, q ∈ S → ∃ bs, DataIs V q bs := fun q hq => (HRV.out.dat q hq).imp fun bs h => h.1
        have hdP : ∃ bs, DataIs V P bs := hPS.elim (hdS P) (fun ⟨a, _⟩ => a ▸ hdz)
        obtain ⟨dd, hdd⟩ : ∃ d, dOf V = d := ⟨_, rfl⟩
        have DZ := hid (fun v : After V => (hdd ▸ (dOf_is hdz).below v.2 : DataIs v.w Pk.zero (dd Pk.zero)))
        have DP := hid (fun v : After V => (hdd ▸ (dOf_is hdP).below v.2 : DataIs v.w P (dd P)))
        have DS := hid (fun (v : After V) (q : Pk) (hq : q ∈ S) => (hdd ▸ (dOf_is (hdS q hq)).below v.2 : DataIs v.w q (dd q)))
        have HPS := hid hPS
        clear hgot hPS hdz hdS hdP hdd
        go_upto_region 21 with (fail)
        go_cut [10] (fun q wx => MetC V P cu q wx)
        case first =>
          go_wp2_with fail
          refine (met (samePacket_any dd P Pk.zero v0.w (DP.out v0) (DZ.out v0))).mono ?_
          rintro e _ ⟨rfl, v1, rfl⟩
          rcases hb : decide (core dd P = core dd Pk.zero) with _ | _
          · have hnz : P = Pk.zero → 0 < cu → false = true := fun h => absurd (congrArg (core dd) h) (of_decide_eq_false hb)
            have R := hid (MetC.mk false v1 hnz)
            clear hb hnz
            go_wp2_with fail
            go_meet
            case rel => first | exact R.out | ((repeat apply Exists.intro); exact ⟨R.out, rfl⟩)
          · clear hb
            by_cases hc0 : 0 < cu
            · have e2 : decide ((0 : Int) < (cu : Int)) = true := decide_eq_true (by omega)
              have e2' : decide (0 < cu) = true := decide_eq_true hc0
              have R := hid (MetC.mk (P := P) (cu := cu) true v1 (fun _ _ => rfl))
              go_wp2_with fail
              go_meet
              case rel => first | exact R.out | ((repeat apply Exists.intro); exact ⟨R.out, rfl⟩)
            · have e2 : decide ((0 : Int) < (cu : Int)) = false := decide_eq_false (by omega)
              have e2' : decide (0 < cu) = false := decide_eq_false hc0
              have R := hid (MetC.mk (P := P) (cu := cu) false v1 (fun _ h => absurd h hc0))
              go_wp2_with fail
              go_meet
              case rel => first | exact R.out | ((repeat apply Exists.intro); exact ⟨R.out, rfl⟩)
        case rest =>
        obtain ⟨b0', v1, rfl, rfl, HB0⟩ := hcut.of
        clear hcut
        obtain ⟨sa, sc, rfl, hsc, -, hsR, -⟩ := own_slice HRV.out.own
        obtain ⟨sn, hsn⟩ : ∃ q, S.length = q := ⟨_, rfl⟩
        rw [hsn] at hsc hSj
        have hr9 := HRV.out
        have hn9 := HNET.out
        rw [hsn] at hr9 hn9
        have HRV2 := hid hr9; have HNET2 := hid hn9
        clear hr9 hn9
        have RS := hid (after_rd hsR)
        have HSN := hid hsn
        go_wp2_with fail
        rw [hsn]
        clear hsR hsn v0
        go_loopw [10, 11] (fun q i wx => MetL V S P b0' sn q i wx) (fun _ i _ => sn - (intOf i).toNat)
        case atStart => exact MetL.mk 0 b0' v1 (Nat.zero_le _) rfl ⟨id, fun x h => absurd h (Nat.not_lt_zero _)⟩
        case round =>
          obtain ⟨k, bm, y, hk, rfl, rfl, rfl, HM⟩ := hrel.of
          clear hrel v1
          by_cases hlt2 : k < sn
          case neg =>
            have c1 : decide ((k : Int) < (sn : Int)) = false := decide_eq_false (by omega)
            have c1' : decide (k < sn) = false := decide_eq_false hlt2
            obtain rfl : bm = true := by
              rcases HPS.out with h | ⟨h, h'⟩
              · obtain ⟨x, hx, hxe⟩ := List.mem_iff_getElem.1 h
                exact HM.out.2 x (by have := HSN.out; omega) (by rw [List.getElem?_eq_getElem hx, hxe])
              · exact HM.out.1 (HB0.out h h')
            have R := hid (SwC.mk1 (j := j) (s5 := .int .i64 (cu : Int)) y cu HRV2.out HXB.out HNET2.out rfl (by omega) (by have := HSN.out; omega) (HLC.out (by decide)) (HQS.out (by decide)))
            go_wp2_with fail
            go_meet
            case rel => first | exact R.out | ((repeat apply Exists.intro); exact ⟨R.out, rfl⟩)
          have c1 : decide ((k : Int) < (sn : Int)) = true := decide_eq_true (by omega)
          have c1' : decide (k < sn) = true := decide_eq_true hlt2
          have hkS : k < S.length := by rw [HSN.out]; exact hlt2
          obtain ⟨sb, so, rfl, -⟩ := (RS.out y).addr (by rw [flat_len Pk.c 3 Pk.c3, HSN.out]; omega)
          obtain ⟨⟨sf, st, sd, sm, sx⟩, hsk⟩ : ∃ q, S[k] = q := ⟨_, rfl⟩
          have w0 : ∀ v : After V, v.w.cell? ⟨sb, so + k * 3, none⟩ = some (.int .i64 sf) := row_cell Pk.c3 RS.out hkS 0 (by decide) (by rw [hsk]; rfl) rfl
          have w1 : ∀ v : After V, v.w.cell? ⟨sb, so + k * 3 + 1, none⟩ = some (.int .i64 st) := row_cell Pk.c3 RS.out hkS 1 (by decide) (by rw [hsk]; rfl) rfl
          have w2 : ∀ v : After V, v.w.cell? ⟨sb, so + k * 3 + 2, none⟩ = some (.slice sd sm sx) := row_cell Pk.c3 RS.out hkS 2 (by decide) (by rw [hsk]; rfl) rfl
          have hks : (k : Int) < (sn : Int) := by omega
          have hkm : (⟨sf, st, sd, sm, sx⟩ : Pk) ∈ S := hsk ▸ List.getElem_mem hkS
          have HSK := hid (show S[k]? = some ⟨sf, st, sd, sm, sx⟩ by rw [List.getElem?_eq_getElem hkS, hsk])
          clear hsk
          cases bm
          · obtain ⟨bb, hbb⟩ : ∃ q, decide (core dd ⟨sf, st, sd, sm, sx⟩ = core dd P) = q := ⟨_, rfl⟩
            have g19 : ∀ v : After V, Calls Try.prog 19 #[.agg #[.int .i64 sf, .int .i64 st, .slice sd sm sx], .agg #[.int .i64 P.fr, .int .i64 P.to, .slice P.da P.dn P.dc]] v.w fun e w'' => e = .returned (.bool bb) ∧ ∃ u : After V, w'' = u.w := fun v => by
              have h := met (samePacket_any dd ⟨sf, st, sd, sm, sx⟩ P v.w (DS.out v _ hkm) (DP.out v))
              rw [hbb] at h
              exact h
            have HM2 := hid (show (b0' = true → bb = true) ∧ ∀ x, x < k + 1 → S[x]? = some P → bb = true from ⟨fun h => (by have := HM.out.1 h; cases this), fun x hx he => by
              by_cases hxk : x = k
              · subst hxk
                rw [HSK.out] at he
                rw [← hbb, ← Option.some.inj he]
                exact decide_eq_true rfl
              · have := HM.out.2 x (by omega) he
                cases this⟩)
            clear hbb
            go_upto_region 25 with (fail)
            refine wp_region_since (by kernel_rfl) (by kernel_rfl) ?_
            repeat (go_big_quiet_step ((go_at_call 19; exact g19 _)))
            refine wpQuiet_nil ?_
            intro uq
            clear g19
            go_wp2_with fail
            clear c1 c1'
            go_roundw
            case rel => exact MetL.mk (k + 1) bb uq (by omega) (by go_num) HM2.out
            case measure => first | (simp [intOf]; done) | (simp [intOf]; omega)
          · go_upto_region 25 with (fail)
            refine wp_region_since (by kernel_rfl) (by kernel_rfl) ?_
            repeat (go_big_quiet_step (fail))
            refine wpQuiet_nil ?_
            intro uq
            go_wp2_with fail
            clear c1 c1'
            go_roundw
            case rel => exact MetL.mk (k + 1) true uq (by omega) (by go_num) ⟨fun _ => rfl, fun _ _ _ => rfl⟩
            case measure => first | (simp [intOf]; done) | (simp [intOf]; omega)
      · skip
        go_wp2_with fail
        go_meet
        case rel =>
          have R := SwC.mk1 (j := j) (s5 := .int .i64 (cu : Int)) v0 cu HRV.out HXB.out HNET.out (by first | rfl | go_num) (by omega) (by omega) (HLC.out (by decide)) (HQS.out (by decide))
          first | exact R | ((repeat apply Exists.intro); exact ⟨R, rfl⟩)
      · skip
        go_wp2_with fail
        go_meet
        case rel =>
          have R := SwC.mk1 (j := j) (s5 := .int .i64 (cu : Int)) v0 cu HRV.out HXB.out HNET.out (by first | rfl | go_num) (by omega) (by omega) (HLC.out (by decide)) (HQS.out (by decide))
          first | exact R | ((repeat apply Exists.intro); exact ⟨R, rfl⟩)
      · skip
        go_wp2_with fail
        go_meet
        case rel =>
          have R := SwC.mk1 (j := j) (s5 := .int .i64 ((cu : Int) + 1)) v0 (cu + 1) HRV.out HXB.out HNET.out (by first | rfl | go_num) (by omega) (by omega) (.inr (by omega)) (HQS.out (by decide))
          first | exact R | ((repeat apply Exists.intro); exact ⟨R, rfl⟩)
      · skip
        go_wp2_with fail
        go_meet
        case rel =>
          have R := SwC.mk1 (j := j) (s5 := .int .i64 (cu : Int)) v0 cu HRV.out HXB.out HNET.out (by first | rfl | go_num) (by omega) (by omega) (HLC.out (by decide)) (HQS.out (by decide))
          first | exact R | ((repeat apply Exists.intro); exact ⟨R, rfl⟩)
    case rest =>
    obtain ⟨S', cu', rfl, hcu, hS', hLcu, hQS', hR', hXB', hNet'⟩ := hcut.of
    clear hcut b0 b1 x0 x1 p0 p1 p2 q0 v0
    have c0 := hR'.c0
    have c1 := hR'.c1
    have f0 := hR'.f0
    have f1 := hR'.f1
    have x0 := hXB'.x0
    have x1 := hXB'.x1
    have HRS := hid (hR'.store hWB HQN.out HLN.out hNet')
    have HLCU := hid hLcu; have HQS' := hid hQS'
    clear hR' hXB' hNet' hLcu hQS'
    go_upto_region 31 with (fail)
    obtain ⟨Z, hZ⟩ : ∃ Z, Z = (wc.setCell ⟨B, 0, none⟩ (.slice qa7 nq qc7)).setCell ⟨B, 1, none⟩ (.slice aa7 nl ac7) := ⟨_, rfl⟩
    have hRS := HRS.out
    rw [← hZ] at hRS
    rw [← hZ]
    have y0 := hRS.c0
    have y1 := hRS.c1
    have HRZ := hid hRS
    clear hZ hRS HRS c0 c1 f0 f1 x0 x1
    have hgd := HGD.out
    go_wp2_with fail
    refine (met0 (Check_net HRZ.out.net (by omega) (by omega))).mono ?_
    rintro e _ ⟨rfl, v1, rfl⟩
    rw [hgd]
    clear hgd
    go_wp2_with fail
    clear d1 d1' y0 y1
    go_roundw
    case rel => exact OS.mk (j + 1) cu' (by omega) (by go_num) (by omega) (by have := HQN.out; have := HRV.out.hn; omega) (by have := HLN.out; omega) hS' HLCU.out HGD.out HQS'.out (HRZ.out.later v1.2)
    case measure => first | (simp [intOf]; done) | (simp [intOf]; omega)
end Go.Proofs.Ytmikhkmdcpgkfaa
namespace Go.Proofs.Ytmikhkmdcpgkfaa.Only7
open Go.ChangeShapes Go.WideShapes Go.ChangeAt Go.RowKit Go.Joins

theorem own : ownKnob Try.prog.godebug = none := by kernel_rfl
theorem laidOut : laidOutB Try.prog = true := by kernel_rfl

set_option maxRecDepth 100000 in
theorem lifted (os : Os) (started : os.Started) (H : Type) (enc : TypeId × Value → H) :
    ReturnsInHanded {} Try.checked os 7 .any (Rows.networkOnlySentSpec.pre6 enc Try.prog Try.f7 Rows.networkOnlySentRow.domain false) (Rows.networkOnlySentSpec.post enc Try.prog Try.f7 false true false false) := by
  refine returnsInHanded_of_change (C := Try.checked) own started (by kernel_rfl) Try.func7
    (ChangeSpec.witness6 (enc := enc) (C := Try.checked) false ⟨#[], #[.slice none 0 0], []⟩ 8 (by kernel_rfl) (by kernel_rfl) (by kernel_rfl) (by kernel_rfl)) ?_
  intro W base args ds gs before hval0 hW hcnd _
  have hval : ∀ (j : Nat) t v, Try.f7.params[j]? = some t → args[j]? = some v → Value.okWide Try.prog W .any base t v := hval0
  have hW' := hW
  obtain ⟨p, q, hA0, hV, rfl, hfz, hnd⟩ := hW
  have hA : DataW.TrodAll enc Try.prog W 0 (fun _ => true) true Try.f7.params.toList args.toList ds p := hA0
  rw [Try.params7] at hA hval
  obtain ⟨v0, vs0, d0, ds0, p0, q0, hargs, rfl, rfl, h0, r0⟩ := trodAll_cons hA
  obtain ⟨rfl, rfl, rfl⟩ := trodAll_nil r0
  obtain rfl : args = #[v0] := by cases args; simp_all
  obtain ⟨rfl, rfl⟩ := trodVars_none hV
  have k0 := h0
  have lt0 : ∀ x ∈ p0, x.block < W.heap.size := by obtain ⟨m, hm⟩ := k0; exact DataW.trod_lt m _ _ _ hm
  obtain ⟨xa0, xn0, xc0, rfl⟩ := okWide_slice Try.underlying48 (hval 0 48 v0 rfl rfl)
  obtain ⟨m0, hm0⟩ := h0
  obtain ⟨la, ln, lc, e0, lx, hln, hlr⟩ := open_mvs hm0
  cases e0
  clear hA0 hval0
  refine (sent_walk lx _ hln _ _ W hlr).mono fun e W' ⟨he, bel⟩ => ?_
  subst he
  exact ⟨_, rfl, _, _, _, [], _, [], hW', trodAll_mk1 (shut_bool Try.underlying4 _), (trodAll_cons_mk (Below.trod laidOut (by kernel_rfl) (of_decide_eq_true (by kernel_rfl)) k0 bel lt0) trodAll_mk0), rfl, bel.frame _, fun h => by cases h⟩

theorem over : Rows.networkOnlySentRow.holds Try.pinned (OpenSpec.ofChange Rows.networkOnlySentSpec) :=
  OpenClaim.holds_of_wide 7 Try.f7 rfl rfl rfl rfl rfl rfl rfl ⟨rfl, rfl, rfl, rfl, rfl⟩ rfl rfl rfl rfl rfl (by kernel_rfl) Try.func7 (by kernel_rfl)
    (of_decide_eq_true (by kernel_rfl)) (by unfold Func.isWrapper; first | (rw [if_pos (by decide +kernel)]; kernel_rfl) | (rw [if_neg (by decide +kernel)]; exact ⟨rfl, rfl⟩))
    (fun os started H enc _ => lifted os started H enc)
end Go.Proofs.Ytmikhkmdcpgkfaa.Only7
namespace Go.Proofs.Ytmikhkmdcpgkfaa
/-- The statement. -/
theorem networkOnlySent_holds : Rows.NetworkOnlySentSaid := Only7.over
end Go.Proofs.Ytmikhkmdcpgkfaa
