/- The laws' arguments, opened: bytes, packets, links, a net. -/
import Derived.Test.YtmikhkmdcpgkfaaX
import Derived.Test.YtmikhkmdcpgkfaaRows
import Derived.ProofKit
import Derived.OpenShut
import Derived.Lib.SmallJoins
import Derived.ChangeOld
import Derived.Deep.Slices
import Derived.Deep.Fields
import Derived.ChangeSame
namespace Go.Proofs.Ytmikhkmdcpgkfaa
open Go.RowKit Go.ChangeShapes Go.WideShapes Go.ChangeAt Go.Joins Go.Deep
open Go.Lib (hid)

theorem cell_form {w : World} {a : Addr} {v : Value} (h : w.cell? a = some v) : a = ⟨a.block, a.off, none⟩ ∧ a.block < w.heap.size := by
  obtain ⟨b, o, s⟩ := a
  have h1 := h
  unfold World.cell? at h1
  cases hb : w.heap[b]? with
  | none => simp [hb] at h1
  | some x =>
    refine ⟨?_, (Array.getElem?_eq_some_iff.1 hb).1⟩
    cases s with
    | none => rfl
    | some f =>
      cases x <;> simp [hb] at h1
/-- n rows of k cells, each known, lie from the address on. -/
theorem rows_rd {α : Type} {w : World} {a : Addr} {n k : Nat} (hk0 : 0 < k) (c : α → List Value) (hk : ∀ x, (c x).length = k)
    (h : ∀ i, i < n → ∃ x : α, ∀ j, j < k → w.cell? (a.add (i * k + j)) = (c x)[j]?) : ∃ xs : List α, xs.length = n ∧ Rd w (some a) (xs.flatMap c) := by
  by_cases hn : n = 0
  · exact ⟨[], by rw [hn]; rfl, .inl rfl⟩
  have hne : Nonempty α := by
    obtain ⟨x, _⟩ := h 0 (by omega)
    exact ⟨x⟩
  have h' : ∀ i, ∃ x : α, i < n → ∀ j, j < k → w.cell? (a.add (i * k + j)) = (c x)[j]? := fun i => by
    by_cases hi : i < n
    · obtain ⟨x, hx⟩ := h i hi
      exact ⟨x, fun _ => hx⟩
    · exact ⟨Classical.choice hne, fun h => absurd h hi⟩
  let f : Nat → α := fun i => (h' i).choose
  have hf : ∀ i, i < n → ∀ j, j < k → w.cell? (a.add (i * k + j)) = (c (f i))[j]? := fun i => (h' i).choose_spec
  refine ⟨(List.range n).map f, by simp, ?_⟩
  have h0 := hf 0 (by omega) 0 hk0
  have hl0 : 0 < (c (f 0)).length := by rw [hk]; exact hk0
  rw [List.getElem?_eq_getElem hl0, show a.add (0 * k + 0) = a by simp [Addr.add]] at h0
  obtain ⟨hform, hlt⟩ := cell_form h0
  refine .inr ⟨a.block, a.off, congrArg some hform, hlt, fun j u hu => ?_⟩
  have hjl := (List.getElem?_eq_some_iff.1 hu).1
  rw [flat_len c k hk] at hjl
  simp only [List.length_map, List.length_range] at hjl
  have hi : j / k < n := Nat.div_lt_of_lt_mul (by rw [Nat.mul_comm]; exact hjl)
  have hr : j % k < k := Nat.mod_lt _ hk0
  have e := flat_at c k hk ((List.range n).map f) (j / k) (by simpa using hi) (j % k) hr
  have hj : j / k * k + j % k = j := by rw [Nat.mul_comm]; exact Nat.div_add_mod j k
  rw [hj, hu] at e
  have g := hf (j / k) hi (j % k) hr
  rw [hj] at g
  have e2 : ((List.range n).map f)[j / k]'(by simpa using hi) = f (j / k) := by simp
  rw [e2] at e
  rw [← e] at g
  rw [← g, hform]
  rw [Addr.add_lit]

section
variable {H : Type} {enc : TypeId × Value → H} {w : World} {base : Nat} {spare : Nat → Bool} {held : Bool} {fuel : Nat} {v : Value} {y : DataW H × List MemPlace}

theorem flat_one (xs : List UInt8) : xs.flatMap (fun b : UInt8 => [Value.int .u8 (b.toNat : Int)]) = xs.map fun b => Value.int .u8 (b.toNat : Int) := by
  induction xs with
  | nil => rfl
  | cons x l ih => rw [List.flatMap_cons, List.map_cons, ih]; rfl
theorem open_bytes (h : DataW.trod enc Try.prog w base spare held fuel 26 [v] = some y) : ∃ a n c, v = .slice a n c ∧ ∃ bs : List UInt8, n = bs.length ∧ Rd w a (bs.map fun b => Value.int .u8 (b.toNat : Int)) := by
  rcases open_slice Try.underlying26 h with ⟨hc, _⟩ | ⟨a, len, cap, m, n, D, Pl, hcs, hb, hl, hm, hmm, hx, hi⟩
  · simp only [List.cons.injEq, and_true] at hc
    exact ⟨none, 0, 0, hc, [], rfl, .inl rfl⟩
  · simp only [List.cons.injEq, and_true] at hcs
    refine ⟨some a, len, cap, hcs, ?_⟩
    have hC : Try.prog.cellsOf 5 = 1 := by kernel_rfl
    have hcell : ∀ i, i < len → ∃ b : UInt8, ∀ j, j < 1 → w.cell? (a.add (i * 1 + j)) = ([Value.int .u8 (b.toNat : Int)] : List Value)[j]? := fun i hil => by
      obtain ⟨cs', hc, ht'⟩ := hi i (by split at hmm <;> omega)
      obtain ⟨b, rfl, _, hw⟩ := DataW.trod_int Try.underlying5 ht'
      rw [hC] at hc
      obtain ⟨_, _, hat⟩ := World.cells?_some hc
      have hb' : 0 ≤ b ∧ b < 256 := by
        have := bounds_u8 hw
        omega
      refine ⟨UInt8.ofNat b.toNat, fun j hj => ?_⟩
      obtain rfl : j = 0 := by omega
      have e := hat 0 (by omega)
      rw [show a.add (i * 1) = a.add (i * 1 + 0) from rfl] at e
      have e : w.cell? (a.add (i * 1 + 0)) = some (Value.int .u8 b) := by rw [← Go.Deep.add_add]; exact e
      rw [e]
      have hz : ((UInt8.ofNat b.toNat).toNat : Int) = b := by simp; omega
      show some (Value.int .u8 b) = some (Value.int .u8 _)
      rw [hz]
    obtain ⟨xs, hlen, hrd⟩ := rows_rd (by decide) (fun b : UInt8 => [Value.int .u8 (b.toNat : Int)]) (fun _ => rfl) hcell
    refine ⟨xs, hlen.symm, ?_⟩
    rw [← flat_one]
    exact hrd

theorem open_packet {cs : List Value} (h : DataW.trod enc Try.prog w base spare held fuel 28 cs = some y) (hl : cs.length = 3) : ∃ p : Pk, cs = p.c ∧ ∃ bs, DataIs w p bs := by
  match cs, hl with
  | [c0, c1, c2], _ =>
    obtain ⟨xs, n, _, hy, _, hyl, hf⟩ := DataW.trod_struct Try.underlying28 h
    have k3 : Try.prog.cellsOf 3 = 1 := by kernel_rfl
    have k26 : Try.prog.cellsOf 26 = 1 := by kernel_rfl
    match xs, hyl with
    | [y0, y1, y2], _ =>
      have h0 : DataW.trod enc Try.prog w base spare held n 3 [c0] = some y0 := by simpa [k3] using hf 0 _ rfl
      have h1 : DataW.trod enc Try.prog w base spare held n 3 [c1] = some y1 := by simpa [k3] using hf 1 _ rfl
      have h2 : DataW.trod enc Try.prog w base spare held n 26 [c2] = some y2 := by simpa [k26] using hf 2 _ rfl
      obtain ⟨a0, e0, _, _⟩ := DataW.trod_int Try.underlying3 h0
      obtain ⟨a1, e1, _, _⟩ := DataW.trod_int Try.underlying3 h1
      obtain ⟨a, n, c, e2, bs, hn, hr⟩ := open_bytes h2
      simp at e0 e1
      subst e0 e1 e2
      exact ⟨⟨a0, a1, a, n, c⟩, rfl, bs, hn, hr⟩
theorem open_link {cs : List Value} (h : DataW.trod enc Try.prog w base spare held fuel 55 cs = some y) (hl : cs.length = 2) : ∃ l : Int × Int, cs = lkc l := by
  match cs, hl with
  | [c0, c1], _ =>
    obtain ⟨xs, n, _, hy, _, hyl, hf⟩ := DataW.trod_array Try.underlying55 h
    have k3 : Try.prog.cellsOf 3 = 1 := by kernel_rfl
    match xs, hyl with
    | [y0, y1], _ =>
      have h0 : DataW.trod enc Try.prog w base spare held n 3 [c0] = some y0 := by simpa [k3] using hf 0 (by decide)
      have h1 : DataW.trod enc Try.prog w base spare held n 3 [c1] = some y1 := by simpa [k3] using hf 1 (by decide)
      obtain ⟨a0, e0, _, _⟩ := DataW.trod_int Try.underlying3 h0
      obtain ⟨a1, e1, _, _⟩ := DataW.trod_int Try.underlying3 h1
      simp at e0 e1
      subst e0 e1
      exact ⟨(a0, a1), rfl⟩
theorem open_packets (h : DataW.trod enc Try.prog w base spare held fuel 22 [v] = some y) : ∃ a n c, v = .slice a n c ∧ Fits a n c ∧ ∃ ps : List Pk, ps.length = n ∧ Rd w a (ps.flatMap Pk.c) ∧ ∀ p ∈ ps, ∃ bs, DataIs w p bs := by
  rcases open_slice Try.underlying22 h with ⟨hc, _⟩ | ⟨a, len, cap, m, n, D, Pl, hcs, hb, hl, hm, hmm, hx, hi⟩
  · simp only [List.cons.injEq, and_true] at hc
    exact ⟨none, 0, 0, hc, ⟨Nat.le_refl _, fun _ => ⟨rfl, rfl⟩⟩, [], rfl, .inl rfl, fun p hp => by cases hp⟩
  · simp only [List.cons.injEq, and_true] at hcs
    refine ⟨some a, len, cap, hcs, ⟨hl, fun h => by cases h⟩, ?_⟩
    have hC : Try.prog.cellsOf 28 = 3 := by kernel_rfl
    have hcell : ∀ i, i < len → ∃ p : { p : Pk // ∃ bs, DataIs w p bs }, ∀ j, j < 3 → w.cell? (a.add (i * 3 + j)) = (Pk.c p.1)[j]? := fun i hil => by
      obtain ⟨cs', hc, ht'⟩ := hi i (by split at hmm <;> omega)
      rw [hC] at hc
      obtain ⟨_, hcl, hat⟩ := World.cells?_some hc
      obtain ⟨p, rfl, hd⟩ := open_packet ht' hcl
      exact ⟨⟨p, hd⟩, fun j hj => by rw [← Go.Deep.add_add]; exact hat j hj⟩
    obtain ⟨xs, hlen, hrd⟩ := rows_rd (by decide) (fun p : { p : Pk // ∃ bs, DataIs w p bs } => Pk.c p.1) (fun _ => rfl) hcell
    refine ⟨xs.map (·.1), by simp [hlen], ?_, fun p hp => ?_⟩
    · rw [List.flatMap_map]
      exact hrd
    · obtain ⟨q, _, rfl⟩ := List.mem_map.1 hp
      exact q.2
theorem open_links (h : DataW.trod enc Try.prog w base spare held fuel 23 [v] = some y) : ∃ a n c, v = .slice a n c ∧ Fits a n c ∧ ∃ ls : List (Int × Int), ls.length = n ∧ Rd w a (ls.flatMap lkc) := by
  rcases open_slice Try.underlying23 h with ⟨hc, _⟩ | ⟨a, len, cap, m, n, D, Pl, hcs, hb, hl, hm, hmm, hx, hi⟩
  · simp only [List.cons.injEq, and_true] at hc
    exact ⟨none, 0, 0, hc, ⟨Nat.le_refl _, fun _ => ⟨rfl, rfl⟩⟩, [], rfl, .inl rfl⟩
  · simp only [List.cons.injEq, and_true] at hcs
    refine ⟨some a, len, cap, hcs, ⟨hl, fun h => by cases h⟩, ?_⟩
    have hC : Try.prog.cellsOf 55 = 2 := by kernel_rfl
    have hcell : ∀ i, i < len → ∃ l : Int × Int, ∀ j, j < 2 → w.cell? (a.add (i * 2 + j)) = (lkc l)[j]? := fun i hil => by
      obtain ⟨cs', hc, ht'⟩ := hi i (by split at hmm <;> omega)
      rw [hC] at hc
      obtain ⟨_, hcl, hat⟩ := World.cells?_some hc
      obtain ⟨l, rfl⟩ := open_link ht' hcl
      exact ⟨l, fun j hj => by rw [← Go.Deep.add_add]; exact hat j hj⟩
    exact rows_rd (by decide) lkc (fun _ => rfl) hcell
/-- What the data of the packets are. -/
noncomputable def dOf (w : World) (p : Pk) : List UInt8 := open Classical in if h : ∃ bs, DataIs w p bs then h.choose else []
theorem dOf_is {w : World} {p : Pk} (h : ∃ bs, DataIs w p bs) : DataIs w p (dOf w p) := by
  rw [dOf, dif_pos h]
  exact h.choose_spec
theorem open_netv {r : Reach} {b0 : Nat} {d : DataW H} {q : List MemPlace} (hv : Value.okWide Try.prog w r b0 25 v) (h : DataW.Trod enc Try.prog w base spare held 25 v d q) :
    ∃ ps ls, NetIs (fun _ => True) w v ps ls ∧ ∀ p ∈ ps, DataIs w p (dOf w p) := by
  obtain ⟨v0, v1, y0, y1, n, rfl, rfl, rfl, h0, h1⟩ := open_agg2 Try.underlying25 (by kernel_rfl) (by kernel_rfl) hv h
  obtain ⟨qa, qn, qc, rfl, hqf, ps, rfl, hq, hd⟩ := open_packets h0
  obtain ⟨aa, an, ac, rfl, haf, ls, rfl, ha⟩ := open_links h1
  exact ⟨ps, ls, ⟨qa, aa, qc, ac, rfl, hq, ha, hqf, haf, .inr fun _ _ _ _ => trivial, .inr fun _ _ _ _ => trivial⟩, fun p hp => dOf_is (hd p hp)⟩
theorem open_packetv {r : Reach} {b0 : Nat} {d : DataW H} {q : List MemPlace} (hv : Value.okWide Try.prog w r b0 28 v) (h : DataW.Trod enc Try.prog w base spare held 28 v d q) :
    ∃ p : Pk, v = p.v ∧ DataIs w p (dOf w p) := by
  obtain ⟨v0, v1, v2, y0, y1, y2, n, rfl, rfl, rfl, h0, h1, h2⟩ := open_agg3 Try.underlying28 (by kernel_rfl) (by kernel_rfl) hv h
  obtain ⟨a0, e0, _, _⟩ := DataW.trod_int Try.underlying3 h0
  obtain ⟨a1, e1, _, _⟩ := DataW.trod_int Try.underlying3 h1
  obtain ⟨a, n, c, e2, bs, hn, hr⟩ := open_bytes h2
  simp at e0 e1
  subst e0 e1 e2
  exact ⟨⟨a0, a1, a, n, c⟩, rfl, dOf_is ⟨bs, hn, hr⟩⟩
end
end Go.Proofs.Ytmikhkmdcpgkfaa
