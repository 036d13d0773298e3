/- What NetworkOnlySent keeps between its rounds; its argument, opened. -/
import Derived.Test.YtmikhkmdcpgkfaaHQ
import Derived.Test.YtmikhkmdcpgkfaaC4
import Derived.Test.YtmikhkmdcpgkfaaT
namespace Go.Proofs.Ytmikhkmdcpgkfaa
open Go.RowKit Go.ChangeShapes Go.WideShapes Go.ChangeAt Go.Joins Go.Deep
open Go.Lib (hid)

/-- A thing that happens. -/
structure Mv where
  k : Int
  t : Int
  a : Int
  b : Int
  d : Int
def Mv.cs (p : Mv) : List Value := [.int .u8 p.k, .int .u8 p.t, .int .u8 p.a, .int .u8 p.b, .int .u8 p.d]
def Mv.Ok (p : Mv) : Prop := 0 ≤ p.k ∧ p.k < 256 ∧ 0 ≤ p.t ∧ p.t < 256 ∧ 0 ≤ p.a ∧ p.a < 256 ∧ 0 ≤ p.b ∧ p.b < 256 ∧ 0 ≤ p.d ∧ p.d < 256

section
variable {H : Type} {enc : TypeId × Value → H} {w : World} {base : Nat} {spare : Nat → Bool} {held : Bool} {fuel : Nat} {v : Value} {y : DataW H × List MemPlace}
theorem open_mvc {cs : List Value} (h : DataW.trod enc Try.prog w base spare held fuel 52 cs = some y) (hl : cs.length = 5) : ∃ p : Mv, cs = p.cs ∧ p.Ok := by
  match cs, hl with
  | [c0, c1, c2, c3, c4], _ =>
    obtain ⟨xs, n, _, hy, _, hyl, hf⟩ := DataW.trod_struct Try.underlying52 h
    have k3 : Try.prog.cellsOf 5 = 1 := by kernel_rfl
    match xs, hyl with
    | [y0, y1, y2, y3, y4], _ =>
      have h0 : DataW.trod enc Try.prog w base spare held n 5 [c0] = some y0 := by simpa [k3] using hf 0 _ rfl
      have h1 : DataW.trod enc Try.prog w base spare held n 5 [c1] = some y1 := by simpa [k3] using hf 1 _ rfl
      have h2 : DataW.trod enc Try.prog w base spare held n 5 [c2] = some y2 := by simpa [k3] using hf 2 _ rfl
      have h3 : DataW.trod enc Try.prog w base spare held n 5 [c3] = some y3 := by simpa [k3] using hf 3 _ rfl
      have h4 : DataW.trod enc Try.prog w base spare held n 5 [c4] = some y4 := by simpa [k3] using hf 4 _ rfl
      obtain ⟨a0, e0, _, w0⟩ := DataW.trod_int Try.underlying5 h0
      obtain ⟨a1, e1, _, w1⟩ := DataW.trod_int Try.underlying5 h1
      obtain ⟨a2, e2, _, w2⟩ := DataW.trod_int Try.underlying5 h2
      obtain ⟨a3, e3, _, w3⟩ := DataW.trod_int Try.underlying5 h3
      obtain ⟨a4, e4, _, w4⟩ := DataW.trod_int Try.underlying5 h4
      simp at e0 e1 e2 e3 e4
      have b0 := bounds_u8 w0; have b1 := bounds_u8 w1; have b2 := bounds_u8 w2; have b3 := bounds_u8 w3; have b4 := bounds_u8 w4
      exact ⟨⟨a0, a1, a2, a3, a4⟩, by rw [e0, e1, e2, e3, e4]; rfl, by refine ⟨?_, ?_, ?_, ?_, ?_, ?_, ?_, ?_, ?_, ?_⟩ <;> dsimp only <;> omega⟩
theorem open_mvs (h : DataW.trod enc Try.prog w base spare held fuel 48 [v] = some y) : ∃ a n c, v = .slice a n c ∧ (∃ m : List { p : Mv // p.Ok }, m.length = n ∧ Rd w a (m.flatMap fun p : { p : Mv // p.Ok } => p.1.cs)) := by
  rcases open_slice Try.underlying48 h with ⟨hc, _⟩ | ⟨a, len, cap, m, n, D, Pl, hcs, hb, hl, hm, hmm, hx, hi⟩
  · simp only [List.cons.injEq, and_true] at hc
    exact ⟨none, 0, 0, hc, ⟨[], rfl, .inl rfl⟩⟩
  · simp only [List.cons.injEq, and_true] at hcs
    refine ⟨some a, len, cap, hcs, ?_⟩
    have hC : Try.prog.cellsOf 52 = 5 := by kernel_rfl
    have hcell : ∀ i, i < len → ∃ p : { p : Mv // p.Ok }, ∀ j, j < 5 → w.cell? (a.add (i * 5 + j)) = (p.1.cs)[j]? := fun i hil => by
      obtain ⟨cs', hc, ht'⟩ := hi i (by split at hmm <;> omega)
      rw [hC] at hc
      obtain ⟨_, hcl, hat⟩ := World.cells?_some hc
      obtain ⟨p, rfl, hp⟩ := open_mvc ht' hcl
      exact ⟨⟨p, hp⟩, fun j hj => by rw [← Go.Deep.add_add]; exact hat j hj⟩
    exact rows_rd (by decide) (fun p : { p : Mv // p.Ok } => p.1.cs) (fun _ => rfl) hcell
end

/-- The data of a packet, and where they lie. -/
def DatOk (ok : Nat → Prop) (w : World) (q : Pk) (bs : List UInt8) : Prop := DataIs w q bs ∧ Sits ok q.da (bs.map fun b => Value.int .u8 (b.toNat : Int))
theorem DatOk.mono {ok ok' : Nat → Prop} {w : World} {q : Pk} {bs : List UInt8} (h : DatOk ok w q bs) (hk : ∀ g, ok g → ok' g) : DatOk ok' w q bs := ⟨h.1, h.2.mono hk⟩
theorem DatOk.below {ok : Nat → Prop} {w w' : World} {q : Pk} {bs : List UInt8} (h : DatOk ok w q bs) (hB : Below w.heap.size w w') : DatOk ok w' q bs := ⟨h.1.below hB, h.2⟩
theorem DatOk.here {ok : Nat → Prop} {w : World} {q : Pk} {bs : List UInt8} (h : DatOk ok w q bs) : DatOk (fun g => ok g ∧ g < w.heap.size) w q bs := by
  refine ⟨h.1, ?_⟩
  rcases h.1.2 with h0 | ⟨g, off, ha, hg, hc⟩
  · exact .inl h0
  · rcases h.2 with h0 | hs
    · exact .inl h0
    · exact .inr fun b o f e => ⟨hs b o f e, by rw [ha] at e; cases e; exact hg⟩
theorem DatOk.set {ok : Nat → Prop} {w : World} {q : Pk} {bs : List UInt8} (h : DatOk ok w q bs) {b o : Nat} (hb : ¬ ok b) (u : Value) : DatOk ok (w.setCell ⟨b, o, none⟩ u) q bs :=
  ⟨⟨h.1.1, h.1.2.setOff h.2 hb u⟩, h.2⟩
theorem DatOk.grown {ok : Nat → Prop} {w w' : World} {q : Pk} {bs : List UInt8} {row : Option Nat} (h : DatOk ok w q bs) (hg : w.grownBy w' row) (hne : ∀ g, ok g → row ≠ some g) : DatOk ok w' q bs := by
  refine ⟨⟨h.1.1, ?_⟩, h.2⟩
  rcases h.2 with h0 | hs
  · exact .inl h0
  · exact rd_grown h.1.2 hg fun g off e => hne g (hs g off none e)
/-- The net that lies in block B, and the row of the packets that have been sent. -/
structure SentRel (W : World) (B : Nat) (sl : Value) (S ps : List Pk) (ls : List (Int × Int)) (n m : Nat) (qa aa : Option Addr) (qc ac : Nat) (z : World) : Prop where
  below : Below W.heap.size W z
  c0 : z.cell? ⟨B, 0, none⟩ = some (.slice qa n qc)
  c1 : z.cell? ⟨B, 1, none⟩ = some (.slice aa m ac)
  f0 : z.frozen? ⟨B, 0, none⟩ = false
  f1 : z.frozen? ⟨B, 1, none⟩ = false
  size : B < z.heap.size
  hn : ps.length = n
  hm : ls.length = m
  net : NetIs (fun g => g ≠ B ∧ sl.ownBlock ≠ some g ∧ g < z.heap.size) z (.agg #[.slice qa n qc, .slice aa m ac]) ps ls
  own : z.ownsRow (B + 1) 28 3 sl S.length (S.flatMap Pk.c)
  dat : ∀ q, q ∈ S → ∃ bs, DatOk (fun g => g ≠ B ∧ sl.ownBlock ≠ some g ∧ g < z.heap.size) z q bs
/-- The net and the packet that an event leaves, in two boxes. -/
structure XBox (w : World) (bx bp : Nat) (v0 v1 : Value) (P : Pk) : Prop where
  x0 : w.cell? ⟨bx, 0, none⟩ = some v0
  x1 : w.cell? ⟨bx, 1, none⟩ = some v1
  p0 : w.cell? ⟨bp, 0, none⟩ = some (.int .i64 P.fr)
  p1 : w.cell? ⟨bp, 1, none⟩ = some (.int .i64 P.to)
  p2 : w.cell? ⟨bp, 2, none⟩ = some (.slice P.da P.dn P.dc)
  sx : bx < w.heap.size
  sp : bp < w.heap.size
theorem XBox.below {w w' : World} {bx bp : Nat} {v0 v1 : Value} {P : Pk} (h : XBox w bx bp v0 v1 P) (hB : Below w.heap.size w w') : XBox w' bx bp v0 v1 P :=
  ⟨bb hB h.sx h.x0, bb hB h.sx h.x1, bb hB h.sp h.p0, bb hB h.sp h.p1, bb hB h.sp h.p2, Nat.lt_of_lt_of_le h.sx hB.size, Nat.lt_of_lt_of_le h.sp hB.size⟩
theorem XBox.grown {w w' : World} {bx bp : Nat} {v0 v1 : Value} {P : Pk} {row : Option Nat} (h : XBox w bx bp v0 v1 P) (hg : w.grownBy w' row) (hx : some bx ≠ row) (hp : some bp ≠ row) : XBox w' bx bp v0 v1 P :=
  ⟨hg.cell h.x0 hx, hg.cell h.x1 hx, hg.cell h.p0 hp, hg.cell h.p1 hp, hg.cell h.p2 hp, Nat.lt_of_lt_of_le h.sx hg.size, Nat.lt_of_lt_of_le h.sp hg.size⟩
theorem SentRel.later {W : World} {B : Nat} {sl : Value} {S ps : List Pk} {ls : List (Int × Int)} {n m : Nat} {qa aa : Option Addr} {qc ac : Nat} {z z' : World} (h : SentRel W B sl S ps ls n m qa aa qc ac z) (hB : Below z.heap.size z z') : SentRel W B sl S ps ls n m qa aa qc ac z' :=
  ⟨b_then h.below hB, bb hB h.size h.c0, bb hB h.size h.c1, fb hB h.size h.f0, fb hB h.size h.f1, Nat.lt_of_lt_of_le h.size hB.size, h.hn, h.hm,
    (h.net.below hB).mono fun _ ⟨a, b, c⟩ => ⟨a, b, Nat.lt_of_lt_of_le c hB.size⟩, own_after h.own hB,
    fun q hq => (h.dat q hq).imp fun _bs hd => (hd.below hB).mono fun _ ⟨a, b, c⟩ => ⟨a, b, Nat.lt_of_lt_of_le c hB.size⟩⟩
/-- A packet goes into the row. -/
theorem SentRel.more {W : World} {B : Nat} {sl sl' : Value} {S ps : List Pk} {ls : List (Int × Int)} {n m : Nat} {qa aa : Option Addr} {qc ac : Nat} {z w1 : World} {p : Pk} {bs : List UInt8} (h : SentRel W B sl S ps ls n m qa aa qc ac z) (hW : W.heap.size ≤ B)
    (hg : z.grownBy w1 sl.ownBlock) (hown : w1.ownsRow (B + 1) 28 3 sl' (S.length + 1) (S.flatMap Pk.c ++ p.c)) (hv : sl'.ownBlock = sl.ownBlock ∨ sl'.ownBlock = some z.heap.size)
    (hp : DatOk (fun g => g ≠ B ∧ sl.ownBlock ≠ some g ∧ g < z.heap.size) z p bs) : SentRel W B sl' (S ++ [p]) ps ls n m qa aa qc ac w1 := by
  have hlt := h.own.lt
  have hBo : some B ≠ sl.ownBlock := fun e => by have := (hlt B e.symm).1; omega
  have up : ∀ g, (g ≠ B ∧ sl.ownBlock ≠ some g ∧ g < z.heap.size) → (g ≠ B ∧ sl'.ownBlock ≠ some g ∧ g < w1.heap.size) := fun g ⟨a, b, c⟩ => ⟨a, fun e => by
    rcases hv with hv | hv
    · exact b (hv ▸ e)
    · rw [hv] at e; cases e; omega, Nat.lt_of_lt_of_le c hg.size⟩
  have hf : ∀ o, z.frozen? ⟨B, o, none⟩ = false → w1.frozen? ⟨B, o, none⟩ = false := fun o hx => (hg.frozen_far ⟨B, o, none⟩ h.size hBo).trans hx
  refine ⟨h.below.grown hg h.below.size fun k e => by have := (hlt k e).1; omega, hg.cell h.c0 hBo, hg.cell h.c1 hBo, hf 0 h.f0, hf 1 h.f1, Nat.lt_of_lt_of_le h.size hg.size, h.hn, h.hm, (h.net.grown hg fun g ⟨_, b, _⟩ => b).mono up, ?_, fun q hq => ?_⟩
  · rw [List.length_append, List.flatMap_append]
    simpa using hown
  · rcases List.mem_append.1 hq with hq | hq
    · obtain ⟨bs, hd⟩ := h.dat q hq
      exact ⟨bs, (hd.grown hg fun g ⟨_, b, _⟩ => b).mono up⟩
    · rw [List.mem_singleton.1 hq]
      exact ⟨bs, (hp.grown hg fun g ⟨_, b, _⟩ => b).mono up⟩
/-- Another net is stored. -/
theorem SentRel.store {W : World} {B : Nat} {sl : Value} {S ps Q : List Pk} {ls L : List (Int × Int)} {n m n2 m2 : Nat} {qa aa qa2 aa2 : Option Addr} {qc ac qc2 ac2 : Nat} {z : World} (h : SentRel W B sl S ps ls n m qa aa qc ac z) (hW : W.heap.size ≤ B)
    (hn : Q.length = n2) (hm : L.length = m2) (hnet : NetIs (fun g => g ≠ B ∧ sl.ownBlock ≠ some g ∧ g < z.heap.size) z (.agg #[.slice qa2 n2 qc2, .slice aa2 m2 ac2]) Q L) :
    SentRel W B sl S Q L n2 m2 qa2 aa2 qc2 ac2 ((z.setCell ⟨B, 0, none⟩ (.slice qa2 n2 qc2)).setCell ⟨B, 1, none⟩ (.slice aa2 m2 ac2)) := by
  have hno : ¬ (B ≠ B ∧ sl.ownBlock ≠ some B ∧ B < z.heap.size) := fun h => h.1 rfl
  have hs : ((z.setCell ⟨B, 0, none⟩ (.slice qa2 n2 qc2)).setCell ⟨B, 1, none⟩ (.slice aa2 m2 ac2)).heap.size = z.heap.size := by simp
  refine ⟨b_set (b_set h.below hW _) hW _, st_off _ (.inl (by decide)) (st_hit _ h.c0), st_hit _ (st_off _ (.inl (by decide)) h.c1), sf _ (sf _ h.f0), sf _ (sf _ h.f1), by rw [hs]; exact h.size, hn, hm, ?_, own_set (own_set h.own (by omega)) (by omega), fun q hq => ?_⟩
  · rw [hs]; exact (hnet.set hno _).set hno _
  · obtain ⟨bs, hd⟩ := h.dat q hq
    rw [hs]
    exact ⟨bs, (hd.set hno _).set hno _⟩
end Go.Proofs.Ytmikhkmdcpgkfaa
