/- What NetworkAll keeps between its rounds: the net holds the packets that the list 'rest' holds. -/
import Derived.Test.YtmikhkmdcpgkfaaF2
import Derived.Test.YtmikhkmdcpgkfaaZ
namespace Go.Proofs.Ytmikhkmdcpgkfaa
open Go.RowKit
open Go.Lib (hid)

theorem NetIs.grown {ok : Nat → Prop} {w w' : World} {v : Value} {ps : List Pk} {ls : List (Int × Int)} {row : Option Nat} (h : NetIs ok w v ps ls) (hg : w.grownBy w' row) (hne : ∀ g, ok g → row ≠ some g) : NetIs ok w' v ps ls := by
  obtain ⟨qa, aa, qc, ac, hv, hq, ha, h1, h2, h3, h4⟩ := h
  have go : ∀ {a : Option Addr} {xs : List Value}, Rd w a xs → Sits ok a xs → Rd w' a xs := fun {a} {xs} hr hs => by
    rcases hs with hs | hs
    · exact .inl hs
    · exact rd_grown hr hg fun g off e => hne g (hs g off none e)
  exact ⟨qa, aa, qc, ac, hv, go hq h3, go ha h4, h1, h2, h3, h4⟩
theorem own_mono {w : World} {base base' : Nat} {e : TypeId} {size n : Nat} {v : Value} {xs : List Value} (h : w.ownsRow base e size v n xs) (hb : base' ≤ base) : w.ownsRow base' e size v n xs := by
  obtain ⟨hl, h2⟩ := h
  refine ⟨hl, ?_⟩
  rcases h2 with h2 | ⟨g, cap, cur, hv, hg, hh⟩
  · exact .inl h2
  · exact .inr ⟨g, cap, cur, hv, by omega, hh⟩
/-- The net that lies in block B5 and the row v6 hold the same packets. -/
structure AllRel (W : World) (B5 : Nat) (v6 : Value) (qs : List Pk) (qb ab : Option Addr) (qd ad : Nat) (z : World) : Prop where
  below : Below W.heap.size W z
  c0 : z.cell? ⟨B5, 0, none⟩ = some (.slice qb qs.length qd)
  c1 : z.cell? ⟨B5, 1, none⟩ = some (.slice ab 0 ad)
  f0 : z.frozen? ⟨B5, 0, none⟩ = false
  f1 : z.frozen? ⟨B5, 1, none⟩ = false
  size : B5 < z.heap.size
  net : NetIs (fun g => g ≠ B5 ∧ v6.ownBlock ≠ some g ∧ g < z.heap.size) z (.agg #[.slice qb qs.length qd, .slice ab 0 ad]) qs []
  own : z.ownsRow (B5 + 1) 28 3 v6 qs.length (qs.flatMap Pk.c)
theorem AllRel.later {W : World} {B5 : Nat} {v6 : Value} {qs : List Pk} {qb ab : Option Addr} {qd ad : Nat} {z z' : World} (h : AllRel W B5 v6 qs qb ab qd ad z) (hB : Below z.heap.size z z') : AllRel W B5 v6 qs qb ab qd ad z' :=
  ⟨b_then h.below hB, bb hB h.size h.c0, bb hB h.size h.c1, fb hB h.size h.f0, fb hB h.size h.f1, Nat.lt_of_lt_of_le h.size hB.size,
    (h.net.below hB).mono fun _ ⟨a, b, c⟩ => ⟨a, b, Nat.lt_of_lt_of_le c hB.size⟩, own_after h.own hB⟩
/-- The new net is stored into B5's block. -/
theorem AllRel.store {W : World} {B5 : Nat} {v6 : Value} {qs : List Pk} {qb ab : Option Addr} {qd ad : Nat} {z z9 : World} (h : AllRel W B5 v6 qs qb ab qd ad z) (hB : Below z.heap.size z z9) (hW : W.heap.size ≤ B5) {qb' ab' : Option Addr} {qd' ad' n : Nat} {rs : List Pk} (_hn : n = rs.length)
    (hnet : NetIs (fun g => (g ≠ B5 ∧ v6.ownBlock ≠ some g ∧ g < z.heap.size) ∨ z.heap.size ≤ g) z9 (.agg #[.slice qb' n qd', .slice ab' 0 ad']) rs []) {S : World}
    (hS : S = (z9.setCell ⟨B5, 0, none⟩ (.slice qb' n qd')).setCell ⟨B5, 1, none⟩ (.slice ab' 0 ad')) :
    Below W.heap.size W S ∧ S.cell? ⟨B5, 0, none⟩ = some (.slice qb' n qd') ∧ S.cell? ⟨B5, 1, none⟩ = some (.slice ab' 0 ad') ∧ S.frozen? ⟨B5, 0, none⟩ = false ∧ S.frozen? ⟨B5, 1, none⟩ = false ∧ B5 < S.heap.size ∧
    NetIs (fun g => g ≠ B5 ∧ v6.ownBlock ≠ some g ∧ g < S.heap.size) S (.agg #[.slice qb' n qd', .slice ab' 0 ad']) rs [] ∧ S.ownsRow (B5 + 1) 28 3 v6 qs.length (qs.flatMap Pk.c) := by
  have hl := h.later hB
  have hsz : S.heap.size = z9.heap.size := by rw [hS]; simp
  have hown : ∀ g, v6.ownBlock = some g → g < z.heap.size := fun g e => (h.own.lt g e).2
  refine ⟨?_, ?_, ?_, ?_, ?_, ?_, ?_, ?_⟩
  · rw [hS]; exact b_set (b_set hl.below hW _) hW _
  · rw [hS]; exact st_off _ (.inl (by decide)) (st_hit _ hl.c0)
  · rw [hS]; exact st_hit _ (st_off _ (.inl (by decide)) hl.c1)
  · rw [hS]; exact sf _ (sf _ hl.f0)
  · rw [hS]; exact sf _ (sf _ hl.f1)
  · rw [hsz]; exact hl.size
  · have hz := h.size
    have h0 := ((hnet.set (b := B5) (o := 0) (by omega) (.slice qb' n qd')).set (b := B5) (o := 1) (by omega) (.slice ab' 0 ad'))
    rw [← hS] at h0
    refine h0.here.mono fun g ⟨h1, h2⟩ => ?_
    rcases h1 with ⟨a, b, c⟩ | h1
    · exact ⟨a, b, h2⟩
    · exact ⟨by omega, fun e => by have := hown g e; omega, h2⟩
  · rw [hS]; exact own_set (own_set hl.own (by omega)) (by omega)
/-- A packet goes into the net and into the row. -/
theorem AllRel.more {W : World} {B5 : Nat} {v6 v' : Value} {qs : List Pk} {p : Pk} {qb ab : Option Addr} {qd ad : Nat} {z z9 w1 : World} (h : AllRel W B5 v6 qs qb ab qd ad z) (hB : Below z.heap.size z z9) (hW : W.heap.size ≤ B5) {qb' ab' : Option Addr} {qd' ad' : Nat}
    (hnet : NetIs (fun g => (g ≠ B5 ∧ v6.ownBlock ≠ some g ∧ g < z.heap.size) ∨ z.heap.size ≤ g) z9 (.agg #[.slice qb' (qs.length + 1) qd', .slice ab' 0 ad']) (qs ++ [p]) []) {t : Obj}
    (hg : (((z9.setCell ⟨B5, 0, none⟩ (.slice qb' (qs.length + 1) qd')).setCell ⟨B5, 1, none⟩ (.slice ab' 0 ad')).alloc t).grownBy w1 v6.ownBlock)
    (hown : w1.ownsRow (B5 + 1) 28 3 v' (qs.length + 1) (qs.flatMap Pk.c ++ p.c)) (hv : v'.ownBlock = v6.ownBlock ∨ v'.ownBlock = some (((z9.setCell ⟨B5, 0, none⟩ (.slice qb' (qs.length + 1) qd')).setCell ⟨B5, 1, none⟩ (.slice ab' 0 ad')).alloc t).heap.size) :
    AllRel W B5 v' (qs ++ [p]) qb' ab' qd' ad' w1 := by
  obtain ⟨S, hS⟩ : ∃ S, S = (z9.setCell ⟨B5, 0, none⟩ (.slice qb' (qs.length + 1) qd')).setCell ⟨B5, 1, none⟩ (.slice ab' 0 ad') := ⟨_, rfl⟩
  obtain ⟨s1, s2, s3, s4, s5, s6, s7, s8⟩ := h.store hB hW (by simp) hnet hS
  rw [← hS] at hg hv
  have hob : ∀ g, v6.ownBlock = some g → B5 + 1 ≤ g ∧ g < S.heap.size := s8.lt
  have hA : S.heap.size < (S.alloc t).heap.size := by simp
  have far : ∀ {o : Nat} {x : Value}, S.cell? ⟨B5, o, none⟩ = some x → w1.cell? ⟨B5, o, none⟩ = some x := fun hx => hg.cell (bo s6 hx) (fun e => by have := (hob B5 e.symm).1; omega)
  have farf : ∀ {o : Nat}, S.frozen? ⟨B5, o, none⟩ = false → w1.frozen? ⟨B5, o, none⟩ = false := fun {o} hx => (hg.frozen_far ⟨B5, o, none⟩ (by simp; omega) (fun e => by have := (hob B5 e.symm).1; omega)).trans (fo s6 hx)
  have hlen : (qs ++ [p]).length = qs.length + 1 := by simp
  refine ⟨?_, by rw [hlen]; exact far s2, far s3, farf s4, farf s5, Nat.lt_of_lt_of_le (by omega) hg.size, ?_, ?_⟩
  · exact ((b_alloc s1 t).grown hg (b_alloc s1 t).size fun k e => by have := (hob k e).1; omega)
  · have n1 := (s7.below (w' := S.alloc t) (b_alloc (Below.refl _ _) t)).grown hg fun g ⟨_, b, _⟩ => b
    rw [hlen]
    refine n1.mono fun g ⟨a, b, c⟩ => ⟨a, fun e => ?_, Nat.lt_of_lt_of_le (by omega) hg.size⟩
    rcases hv with hv | hv
    · rw [hv] at e; exact b e
    · rw [hv] at e; simp only [Option.some.injEq] at e; omega
  · rw [List.length_append, List.flatMap_append]
    simpa using hown
/-- A packet leaves the net; the row is made anew. -/
theorem AllRel.less {W : World} {B5 : Nat} {v6 v' : Value} {qs rs : List Pk} {qb ab : Option Addr} {qd ad : Nat} {z z9 S w1 : World} (h : AllRel W B5 v6 qs qb ab qd ad z) (hB : Below z.heap.size z z9) (hW : W.heap.size ≤ B5) {qb' ab' : Option Addr} {qd' ad' n : Nat} (hn : n = rs.length)
    (hnet : NetIs (fun g => (g ≠ B5 ∧ v6.ownBlock ≠ some g ∧ g < z.heap.size) ∨ z.heap.size ≤ g) z9 (.agg #[.slice qb' n qd', .slice ab' 0 ad']) rs [])
    (hS : S = (z9.setCell ⟨B5, 0, none⟩ (.slice qb' n qd')).setCell ⟨B5, 1, none⟩ (.slice ab' 0 ad')) (hB2 : Below S.heap.size S w1)
    (hown : w1.ownsRow S.heap.size 28 3 v' rs.length (rs.flatMap Pk.c)) : AllRel W B5 v' rs qb' ab' qd' ad' w1 := by
  obtain ⟨s1, s2, s3, s4, s5, s6, s7, s8⟩ := h.store hB hW hn hnet hS
  subst hn
  refine ⟨b_then s1 hB2, bb hB2 s6 s2, bb hB2 s6 s3, fb hB2 s6 s4, fb hB2 s6 s5, Nat.lt_of_lt_of_le s6 hB2.size, ?_, own_mono hown s6⟩
  refine (s7.below hB2).mono fun g ⟨a, _, c⟩ => ⟨a, fun e => ?_, Nat.lt_of_lt_of_le c hB2.size⟩
  have := (hown.lt g e).1
  omega
end Go.Proofs.Ytmikhkmdcpgkfaa
