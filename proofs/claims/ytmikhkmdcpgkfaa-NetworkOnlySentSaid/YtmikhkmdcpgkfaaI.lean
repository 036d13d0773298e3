/- at: the packet at a place. -/
import Derived.Test.YtmikhkmdcpgkfaaF
import Derived.Test.YtmikhkmdcpgkfaaH
namespace Go.Proofs.Ytmikhkmdcpgkfaa
open Go.RowKit
open Go.Lib (hid)

theorem three0 {w : World} {b : Nat} {u : Value} (h : w.cell? ⟨b, 0, none⟩ = some u) : ∀ x y z, (((w.setCell ⟨b, 0, none⟩ x).setCell ⟨b, 1, none⟩ y).setCell ⟨b, 2, none⟩ z).cell? ⟨b, 0, none⟩ = some x := fun x y z => st_off z (.inl (by decide)) (st_off y (.inl (by decide)) (st_hit x h))
theorem three1 {w : World} {b : Nat} {u : Value} (h : w.cell? ⟨b, 1, none⟩ = some u) : ∀ x y z, (((w.setCell ⟨b, 0, none⟩ x).setCell ⟨b, 1, none⟩ y).setCell ⟨b, 2, none⟩ z).cell? ⟨b, 1, none⟩ = some y := fun x y z => st_off z (.inl (by decide)) (st_hit (v := u) y (st_off x (.inl (by decide)) h))
theorem three2 {w : World} {b : Nat} {u : Value} (h : w.cell? ⟨b, 2, none⟩ = some u) : ∀ x y z, (((w.setCell ⟨b, 0, none⟩ x).setCell ⟨b, 1, none⟩ y).setCell ⟨b, 2, none⟩ z).cell? ⟨b, 2, none⟩ = some z := fun x y z => st_hit (v := u) z (st_off y (.inl (by decide)) (st_off x (.inl (by decide)) h))

def Pk.zero : Pk := ⟨0, 0, none, 0, 0⟩
/-- The errors of Deliver, Lose and Repeat. -/
noncomputable def ask (ps : List Pk) (ls : List (Int × Int)) (i : Int) : Int := if chk ps ls = 0 then (if 0 ≤ i ∧ i < ps.length then 0 else 1) else 60
def atP (ps : List Pk) (i : Int) : Pk := ps[i.toNat]?.getD Pk.zero
noncomputable def got (ps : List Pk) (ls : List (Int × Int)) (i : Int) : Pk := if ask ps ls i = 0 then atP ps i else Pk.zero

set_option maxHeartbeats 1000000 in
theorem at_any (ok : Nat → Prop) (ps : List Pk) (ls : List (Int × Int)) (i : Int) (v : Value) (w : World) (hp : ps.length ≤ 1000) (hl : ls.length ≤ 1000) (hv : NetIs ok w v ps ls) :
    Calls Try.prog 35 #[v, .int .i64 i] w fun e w' => e = .returned (.tuple #[(got ps ls i).v, .int .i64 (ask ps ls i)]) ∧ Below w.heap.size w w' := by
  obtain ⟨qa, aa, qc, ac, rfl, hq, ha, ⟨hqc, hqn⟩, hfa, hsq, hsa⟩ := hv
  clear hsq hsa hfa
  have HQ := hid hq; clear hq
  have HA := hid ha; clear ha
  have hnv : netV ps ls qa aa qc ac = .agg #[.slice qa ps.length qc, .slice aa ls.length ac] := rfl
  go_enter Try.func35, Try.ntmps35
  go_wp2_with fail
  refine (Check_any ps ls qa aa qc ac _ hp hl (HQ.out.below (by repeat (first | exact Below.refl _ _ | assumption | refine b_then ?_ (by assumption) | refine b_alloc ?_ _ | refine b_drewN ?_ _ | refine b_drew ?_ | refine b_set ?_ (by omega) _ | refine b_set ?_ (by simp) _))) (HA.out.below (by repeat (first | exact Below.refl _ _ | assumption | refine b_then ?_ (by assumption) | refine b_alloc ?_ _ | refine b_drewN ?_ _ | refine b_drew ?_ | refine b_set ?_ (by omega) _ | refine b_set ?_ (by simp) _)))).mono ?_
  rintro e w1 ⟨rfl, hB1⟩
  have hsz := hB1.size
  simp at hsz
  have hW1 : Below w.heap.size w w1 := b_then (by repeat (first | exact Below.refl _ _ | assumption | refine b_then ?_ (by assumption) | refine b_alloc ?_ _ | refine b_drewN ?_ _ | refine b_drew ?_ | refine b_set ?_ (by omega) _ | refine b_set ?_ (by simp) _)) hB1
  have c0 : w1.cell? ⟨w.heap.size, 0, none⟩ = some (.slice qa ps.length qc) := bb hB1 (by first | (simp; done) | omega | (simp; omega)) (by repeat (first | assumption | exact bn (by first | (simp; done) | omega | (simp; omega)) rfl | refine bo (by first | (simp; done) | omega | (simp; omega)) ?_ | refine bb (by assumption) (by first | (simp; done) | omega | (simp; omega)) ?_))
  have c1 : w1.cell? ⟨w.heap.size, 1, none⟩ = some (.slice aa ls.length ac) := bb hB1 (by first | (simp; done) | omega | (simp; omega)) (by repeat (first | assumption | exact bn (by first | (simp; done) | omega | (simp; omega)) rfl | refine bo (by first | (simp; done) | omega | (simp; omega)) ?_ | refine bb (by assumption) (by first | (simp; done) | omega | (simp; omega)) ?_))
  have e0 : w1.cell? ⟨w.heap.size + 1, 0, none⟩ = some (.int .i64 0) := bb hB1 (by first | (simp; done) | omega | (simp; omega)) (by repeat (first | assumption | exact bn (by first | (simp; done) | omega | (simp; omega)) rfl | refine bo (by first | (simp; done) | omega | (simp; omega)) ?_ | refine bb (by assumption) (by first | (simp; done) | omega | (simp; omega)) ?_))
  have e1 : w1.cell? ⟨w.heap.size + 1, 1, none⟩ = some (.int .i64 0) := bb hB1 (by first | (simp; done) | omega | (simp; omega)) (by repeat (first | assumption | exact bn (by first | (simp; done) | omega | (simp; omega)) rfl | refine bo (by first | (simp; done) | omega | (simp; omega)) ?_ | refine bb (by assumption) (by first | (simp; done) | omega | (simp; omega)) ?_))
  have e2 : w1.cell? ⟨w.heap.size + 1, 2, none⟩ = some (.slice none 0 0) := bb hB1 (by first | (simp; done) | omega | (simp; omega)) (by repeat (first | assumption | exact bn (by first | (simp; done) | omega | (simp; omega)) rfl | refine bo (by first | (simp; done) | omega | (simp; omega)) ?_ | refine bb (by assumption) (by first | (simp; done) | omega | (simp; omega)) ?_))
  have f0 : w1.frozen? ⟨w.heap.size + 1, 0, none⟩ = false := fb hB1 (by first | (simp; done) | omega | (simp; omega)) (by repeat (first | assumption | exact fn (by first | (simp; done) | omega | (simp; omega)) | refine fo (by first | (simp; done) | omega | (simp; omega)) ?_ | refine fb (by assumption) (by first | (simp; done) | omega | (simp; omega)) ?_))
  have f1 : w1.frozen? ⟨w.heap.size + 1, 1, none⟩ = false := fb hB1 (by first | (simp; done) | omega | (simp; omega)) (by repeat (first | assumption | exact fn (by first | (simp; done) | omega | (simp; omega)) | refine fo (by first | (simp; done) | omega | (simp; omega)) ?_ | refine fb (by assumption) (by first | (simp; done) | omega | (simp; omega)) ?_))
  have f2 : w1.frozen? ⟨w.heap.size + 1, 2, none⟩ = false := fb hB1 (by first | (simp; done) | omega | (simp; omega)) (by repeat (first | assumption | exact fn (by first | (simp; done) | omega | (simp; omega)) | refine fo (by first | (simp; done) | omega | (simp; omega)) ?_ | refine fb (by assumption) (by first | (simp; done) | omega | (simp; omega)) ?_))
  have r0 := three0 e0
  have r1 := three1 e1
  have r2 := three2 e2
  by_cases hc : chk ps ls = 0
  · rw [hc]
    have Hc := hid hc; clear hc
    by_cases h1 : 0 ≤ i
    · by_cases h2 : i < (ps.length : Int)
      · obtain ⟨j, rfl⟩ := Int.eq_ofNat_of_zero_le h1
        have hlt : j < ps.length := by omega
        obtain ⟨b, off, rfl, hb, hcc⟩ := Rd.base HQ.out (by rw [flat_len Pk.c 3 Pk.c3]; omega)
        have k0 : w1.cell? ⟨b, off + j * 3, none⟩ = some (.int .i64 ps[j].fr) := hcc w1 hW1 (j * 3) _ (flat_at Pk.c 3 Pk.c3 ps j hlt 0 (by omega))
        have k1 : w1.cell? ⟨b, off + j * 3 + 1, none⟩ = some (.int .i64 ps[j].to) := by have := hcc w1 hW1 (j * 3 + 1) _ (flat_at Pk.c 3 Pk.c3 ps j hlt 1 (by omega)); rwa [← Nat.add_assoc] at this
        have k2 : w1.cell? ⟨b, off + j * 3 + 2, none⟩ = some (.slice ps[j].da ps[j].dn ps[j].dc) := by have := hcc w1 hW1 (j * 3 + 2) _ (flat_at Pk.c 3 Pk.c3 ps j hlt 2 (by omega)); rwa [← Nat.add_assoc] at this
        have Hcc := hid hcc; clear hcc
        have ha0 : ask ps ls j = 0 := by simp [ask, Hc.out, hlt]
        have hg : got ps ls j = ps[j] := by simp [got, ha0, atP, hlt]
        have Ha := hid ha0; clear ha0
        have Hg := hid hg; clear hg
        go_wp2_with fail
        exact bodyPost_ret (v := .tuple #[.agg #[.int .i64 ps[j].fr, .int .i64 ps[j].to, .slice ps[j].da ps[j].dn ps[j].dc], .int .i64 0]) (by simp [results, Try.results35, go_sem, r0, r1, r2]) rfl ⟨by rw [Ha.out, Hg.out]; rfl, (by repeat (first | exact Below.refl _ _ | assumption | refine b_then ?_ (by assumption) | refine b_alloc ?_ _ | refine b_drewN ?_ _ | refine b_drew ?_ | refine b_set ?_ (by omega) _ | refine b_set ?_ (by simp) _))⟩
      · have ha0 : ask ps ls i = 1 := by simp [ask, Hc.out]; omega
        have hg : got ps ls i = Pk.zero := by simp [got, ha0]
        have Ha := hid ha0; clear ha0
        have Hg := hid hg; clear hg
        go_wp2_with fail
        exact bodyPost_ret (v := .tuple #[.agg #[.int .i64 0, .int .i64 0, .slice none 0 0], .int .i64 1]) (by simp [results, Try.results35, go_sem, r0, r1, r2]) rfl ⟨by rw [Ha.out, Hg.out]; rfl, (by repeat (first | exact Below.refl _ _ | assumption | refine b_then ?_ (by assumption) | refine b_alloc ?_ _ | refine b_drewN ?_ _ | refine b_drew ?_ | refine b_set ?_ (by omega) _ | refine b_set ?_ (by simp) _))⟩
    · have ha0 : ask ps ls i = 1 := by simp [ask, Hc.out]; omega
      have hg : got ps ls i = Pk.zero := by simp [got, ha0]
      have Ha := hid ha0; clear ha0
      have Hg := hid hg; clear hg
      go_wp2_with fail
      exact bodyPost_ret (v := .tuple #[.agg #[.int .i64 0, .int .i64 0, .slice none 0 0], .int .i64 1]) (by simp [results, Try.results35, go_sem, r0, r1, r2]) rfl ⟨by rw [Ha.out, Hg.out]; rfl, (by repeat (first | exact Below.refl _ _ | assumption | refine b_then ?_ (by assumption) | refine b_alloc ?_ _ | refine b_drewN ?_ _ | refine b_drew ?_ | refine b_set ?_ (by omega) _ | refine b_set ?_ (by simp) _))⟩
  · have ha0 : ask ps ls i = 60 := by simp [ask, hc]
    have hg : got ps ls i = Pk.zero := by simp [got, ha0]
    have Ha := hid ha0; clear ha0
    have Hg := hid hg; clear hg
    rw [chk_60 hc]
    have Hc := hid hc; clear hc
    go_wp2_with fail
    exact bodyPost_ret (v := .tuple #[.agg #[.int .i64 0, .int .i64 0, .slice none 0 0], .int .i64 60]) (by simp [results, Try.results35, go_sem, r0, r1, r2]) rfl ⟨by rw [Ha.out, Hg.out]; rfl, (by repeat (first | exact Below.refl _ _ | assumption | refine b_then ?_ (by assumption) | refine b_alloc ?_ _ | refine b_drewN ?_ _ | refine b_drew ?_ | refine b_set ?_ (by omega) _ | refine b_set ?_ (by simp) _))⟩
end Go.Proofs.Ytmikhkmdcpgkfaa
