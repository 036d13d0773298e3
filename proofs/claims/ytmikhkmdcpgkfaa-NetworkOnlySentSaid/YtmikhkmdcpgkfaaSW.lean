/- Behind NetworkOnlySent's switch; its inner loop. -/
import Derived.Test.YtmikhkmdcpgkfaaSR
namespace Go.Proofs.Ytmikhkmdcpgkfaa
open Go.RowKit
open Go.Lib (hid)

/-- Behind the switch. -/
@[irreducible] def SwC (W : World) (B j : Nat) (ps : List Pk) (ls : List (Int × Int)) (n m : Nat) (qa aa : Option Addr) (qc ac : Nat) (Q : List Pk) (L : List (Int × Int)) (nq nl : Nat) (qa7 aa7 : Option Addr) (qc7 ac7 : Nat) (bx bp : Nat) (P : Pk) (s4 s5 : Value) (wx : World) : Prop := ∃ (S' : List Pk) (cu' : Nat), s5 = .int .i64 cu' ∧ cu' ≤ j + 1 ∧ S'.length ≤ j + 1 ∧ (L = [] ∨ 0 < cu') ∧ (∀ q, q ∈ Q → q ∈ S') ∧ SentRel W B s4 S' ps ls n m qa aa qc ac wx ∧ XBox wx bx bp (.slice qa7 nq qc7) (.slice aa7 nl ac7) P ∧ NetIs (fun g => g ≠ B ∧ s4.ownBlock ≠ some g ∧ g < wx.heap.size) wx (.agg #[.slice qa7 nq qc7, .slice aa7 nl ac7]) Q L
theorem SwC.of {W : World} {B j : Nat} {ps : List Pk} {ls : List (Int × Int)} {n m : Nat} {qa aa : Option Addr} {qc ac : Nat} {Q : List Pk} {L : List (Int × Int)} {nq nl : Nat} {qa7 aa7 : Option Addr} {qc7 ac7 : Nat} {bx bp : Nat} {P : Pk} {s4 s5 : Value} {wx : World} (h : SwC W B j ps ls n m qa aa qc ac Q L nq nl qa7 aa7 qc7 ac7 bx bp P s4 s5 wx) : ∃ (S' : List Pk) (cu' : Nat), s5 = .int .i64 cu' ∧ cu' ≤ j + 1 ∧ S'.length ≤ j + 1 ∧ (L = [] ∨ 0 < cu') ∧ (∀ q, q ∈ Q → q ∈ S') ∧ SentRel W B s4 S' ps ls n m qa aa qc ac wx ∧ XBox wx bx bp (.slice qa7 nq qc7) (.slice aa7 nl ac7) P ∧ NetIs (fun g => g ≠ B ∧ s4.ownBlock ≠ some g ∧ g < wx.heap.size) wx (.agg #[.slice qa7 nq qc7, .slice aa7 nl ac7]) Q L := by
  unfold SwC at h
  exact h
theorem SwC.mk1 {W : World} {B j : Nat} {ps : List Pk} {ls : List (Int × Int)} {n m : Nat} {qa aa : Option Addr} {qc ac : Nat} {Q : List Pk} {L : List (Int × Int)} {nq nl : Nat} {qa7 aa7 : Option Addr} {qc7 ac7 : Nat} {bx bp : Nat} {P : Pk} {s4 s5 : Value} {V : World} {S : List Pk} (v : After V) (cu : Nat) (hR : SentRel W B s4 S ps ls n m qa aa qc ac V) (hX : XBox V bx bp (.slice qa7 nq qc7) (.slice aa7 nl ac7) P) (hN : NetIs (fun g => g ≠ B ∧ s4.ownBlock ≠ some g ∧ g < V.heap.size) V (.agg #[.slice qa7 nq qc7, .slice aa7 nl ac7]) Q L)
    (h5 : s5 = .int .i64 cu) (hc : cu ≤ j + 1) (hS : S.length ≤ j + 1) (hL : L = [] ∨ 0 < cu) (hQ : ∀ q, q ∈ Q → q ∈ S) : SwC W B j ps ls n m qa aa qc ac Q L nq nl qa7 aa7 qc7 ac7 bx bp P s4 s5 v.w := by
  unfold SwC
  exact ⟨S, cu, h5, hc, hS, hL, hQ, hR.later v.2, hX.below v.2, (hN.below v.2).mono fun g ⟨a, b, c⟩ => ⟨a, b, Nat.lt_of_lt_of_le c v.2.size⟩⟩
theorem SwC.mk2 {W : World} {B j : Nat} {ps : List Pk} {ls : List (Int × Int)} {n m : Nat} {qa aa : Option Addr} {qc ac : Nat} {Q : List Pk} {L : List (Int × Int)} {nq nl : Nat} {qa7 aa7 : Option Addr} {qc7 ac7 : Nat} {bx bp : Nat} {P : Pk} {s4 s4' s5 : Value} {z w1 : World} {S : List Pk} {p : Pk} {bs : List UInt8} (cu : Nat) (hR : SentRel W B s4 S ps ls n m qa aa qc ac z) (hW : W.heap.size ≤ B) (hX : XBox z bx bp (.slice qa7 nq qc7) (.slice aa7 nl ac7) P) (hN : NetIs (fun g => g ≠ B ∧ s4.ownBlock ≠ some g ∧ g < z.heap.size) z (.agg #[.slice qa7 nq qc7, .slice aa7 nl ac7]) Q L)
    (hg : z.grownBy w1 s4.ownBlock) (hown : w1.ownsRow (B + 1) 28 3 s4' (S.length + 1) (S.flatMap Pk.c ++ p.c)) (hv : s4'.ownBlock = s4.ownBlock ∨ s4'.ownBlock = some z.heap.size) (hp : DatOk (fun g => g ≠ B ∧ s4.ownBlock ≠ some g ∧ g < z.heap.size) z p bs) (hx : some bx ≠ s4.ownBlock) (hbp : some bp ≠ s4.ownBlock)
    (h5 : s5 = .int .i64 cu) (hc : cu ≤ j + 1) (hS : S.length ≤ j) (hL : L = [] ∨ 0 < cu) (hQ : ∀ q, q ∈ Q → q ∈ S ++ [p]) : SwC W B j ps ls n m qa aa qc ac Q L nq nl qa7 aa7 qc7 ac7 bx bp P s4' s5 w1 := by
  unfold SwC
  refine ⟨S ++ [p], cu, h5, hc, by simp; omega, hL, hQ, hR.more hW hg hown hv hp, hX.grown hg hx hbp, (hN.grown hg fun g h => h.2.1).mono fun g ⟨a, b, c⟩ => ⟨a, fun e => ?_, Nat.lt_of_lt_of_le c hg.size⟩⟩
  rcases hv with hv | hv
  · exact b (hv ▸ e)
  · rw [hv] at e; cases e; omega
theorem net_queue {ok : Nat → Prop} {w : World} {qa aa : Option Addr} {n m qc ac : Nat} {ps : List Pk} {ls : List (Int × Int)} (h : NetIs ok w (.agg #[.slice qa n qc, .slice aa m ac]) ps ls) : Rd w qa (ps.flatMap Pk.c) := by
  obtain ⟨qa', aa', qc', ac', hv, hq, _, _⟩ := h
  simp [netV] at hv
  obtain ⟨⟨rfl, _⟩, _⟩ := hv
  exact hq
@[irreducible] def MetC (V : World) (P : Pk) (cu : Nat) (q : Value) (wx : World) : Prop := ∃ (b : Bool) (y : After V), q = .bool b ∧ wx = y.w ∧ Hid (P = Pk.zero → 0 < cu → b = true)
theorem MetC.mk {V : World} {P : Pk} {cu : Nat} (b : Bool) (y : After V) (h : P = Pk.zero → 0 < cu → b = true) : MetC V P cu (.bool b) y.w := by unfold MetC; exact ⟨b, y, rfl, rfl, hid h⟩
theorem MetC.of {V : World} {P : Pk} {cu : Nat} {q : Value} {wx : World} (h : MetC V P cu q wx) : ∃ (b : Bool) (y : After V), q = .bool b ∧ wx = y.w ∧ Hid (P = Pk.zero → 0 < cu → b = true) := by unfold MetC at h; exact h
@[irreducible] def MetL (V : World) (S : List Pk) (P : Pk) (b0 : Bool) (N : Nat) (q i : Value) (wx : World) : Prop := ∃ (k : Nat) (b : Bool) (y : After V), k ≤ N ∧ q = .bool b ∧ i = .int .i64 k ∧ wx = y.w ∧ Hid ((b0 = true → b = true) ∧ ∀ x, x < k → S[x]? = some P → b = true)
theorem MetL.mk {V : World} {S : List Pk} {P : Pk} {b0 : Bool} {N : Nat} {i : Value} (k : Nat) (b : Bool) (y : After V) (h1 : k ≤ N) (h2 : i = .int .i64 k) (h3 : (b0 = true → b = true) ∧ ∀ x, x < k → S[x]? = some P → b = true) : MetL V S P b0 N (.bool b) i y.w := by unfold MetL; exact ⟨k, b, y, h1, rfl, h2, rfl, hid h3⟩
theorem MetL.of {V : World} {S : List Pk} {P : Pk} {b0 : Bool} {N : Nat} {q i : Value} {wx : World} (h : MetL V S P b0 N q i wx) : ∃ (k : Nat) (b : Bool) (y : After V), k ≤ N ∧ q = .bool b ∧ i = .int .i64 k ∧ wx = y.w ∧ Hid ((b0 = true → b = true) ∧ ∀ x, x < k → S[x]? = some P → b = true) := by unfold MetL at h; exact h
end Go.Proofs.Ytmikhkmdcpgkfaa
