/- The reference's leaves: Site, Packet, Few, New. -/
import Derived.Test.YtmikhkmdcpgkfaaG
namespace Go.Proofs.Ytmikhkmdcpgkfaa
open Go.RowKit
open Go.Lib (hid)

def siteOk (x : Int) : Bool := decide (0 ≤ x ∧ x < 16)
theorem site_any (x : Int) (w : World) : Calls Try.prog 34 #[.int .i64 x] w fun e w' => e = .returned (.bool (siteOk x)) ∧ Below w.heap.size w w' := by
  go_enter Try.func34, Try.ntmps34
  by_cases h1 : 0 ≤ x
  · by_cases h2 : x < 16
    · go_wp2_with fail
      exact bodyPost_ret (v := .bool true) (by simp [results, Try.results34, go_sem]) rfl ⟨by congr 2; simp [siteOk, h1, h2], (by repeat (first | exact Below.refl _ _ | assumption | refine b_then ?_ (by assumption) | refine b_alloc ?_ _ | refine b_drewN ?_ _ | refine b_drew ?_ | refine b_set ?_ (by omega) _ | refine b_set ?_ (by simp) _))⟩
    · go_wp2_with fail
      exact bodyPost_ret (v := .bool false) (by simp [results, Try.results34, go_sem]) rfl ⟨by congr 2; simp [siteOk]; omega, (by repeat (first | exact Below.refl _ _ | assumption | refine b_then ?_ (by assumption) | refine b_alloc ?_ _ | refine b_drewN ?_ _ | refine b_drew ?_ | refine b_set ?_ (by omega) _ | refine b_set ?_ (by simp) _))⟩
  · go_wp2_with fail
    exact bodyPost_ret (v := .bool false) (by simp [results, Try.results34, go_sem]) rfl ⟨by congr 2; simp [siteOk]; omega, (by repeat (first | exact Below.refl _ _ | assumption | refine b_then ?_ (by assumption) | refine b_alloc ?_ _ | refine b_drewN ?_ _ | refine b_drew ?_ | refine b_set ?_ (by omega) _ | refine b_set ?_ (by simp) _))⟩

theorem rpacket_any (p : Pk) (w : World) : Calls Try.prog 29 #[p.v] w fun e w' => e = .returned (.bool (pkOk p)) ∧ Below w.heap.size w w' := by
  have hpv : p.v = .agg #[.int .i64 p.fr, .int .i64 p.to, .slice p.da p.dn p.dc] := rfl
  have hpk : pkOk p = (siteOk p.fr && siteOk p.to && (p.fr != p.to) && decide ((p.dn : Int) ≤ 1048576)) := by
    unfold pkOk lkOk siteOk
    rw [Bool.eq_iff_iff]
    simp
    omega
  have HP := hid hpk; clear hpk
  go_enter Try.func29, Try.ntmps29
  go_wp2_with fail
  refine (site_any p.fr _).mono ?_
  rintro e w1 ⟨rfl, hB1⟩
  have c0 : w1.cell? ⟨w.heap.size, 0, none⟩ = some (.int .i64 p.fr) := bb hB1 (by first | (simp; done) | omega | (simp; omega)) (by repeat (first | assumption | exact bn (by first | (simp; done) | omega | (simp; omega)) rfl | refine bo (by first | (simp; done) | omega | (simp; omega)) ?_ | refine bb (by assumption) (by first | (simp; done) | omega | (simp; omega)) ?_))
  have c1 : w1.cell? ⟨w.heap.size, 1, none⟩ = some (.int .i64 p.to) := bb hB1 (by first | (simp; done) | omega | (simp; omega)) (by repeat (first | assumption | exact bn (by first | (simp; done) | omega | (simp; omega)) rfl | refine bo (by first | (simp; done) | omega | (simp; omega)) ?_ | refine bb (by assumption) (by first | (simp; done) | omega | (simp; omega)) ?_))
  have c2 : w1.cell? ⟨w.heap.size, 2, none⟩ = some (.slice p.da p.dn p.dc) := bb hB1 (by first | (simp; done) | omega | (simp; omega)) (by repeat (first | assumption | exact bn (by first | (simp; done) | omega | (simp; omega)) rfl | refine bo (by first | (simp; done) | omega | (simp; omega)) ?_ | refine bb (by assumption) (by first | (simp; done) | omega | (simp; omega)) ?_))
  have hs1 : w.heap.size < w1.heap.size := by have := hB1.size; simp at this; omega
  have hW1 : Below w.heap.size w w1 := b_alloc_then hB1
  rcases h1 : siteOk p.fr with _ | _
  · go_wp2_with fail
    exact bodyPost_ret (v := .bool false) (by simp [results, Try.results29, go_sem]) rfl ⟨by rw [HP.out, h1]; simp, (by repeat (first | exact Below.refl _ _ | assumption | refine b_then ?_ (by assumption) | refine b_alloc ?_ _ | refine b_drewN ?_ _ | refine b_drew ?_ | refine b_set ?_ (by omega) _ | refine b_set ?_ (by simp) _))⟩
  · go_wp2_with fail
    refine (site_any p.to _).mono ?_
    rintro e w2 ⟨rfl, hB2⟩
    have d0 : w2.cell? ⟨w.heap.size, 0, none⟩ = some (.int .i64 p.fr) := bb hB2 (by first | (simp; done) | omega | (simp; omega)) c0
    have d1 : w2.cell? ⟨w.heap.size, 1, none⟩ = some (.int .i64 p.to) := bb hB2 (by first | (simp; done) | omega | (simp; omega)) c1
    have d2 : w2.cell? ⟨w.heap.size, 2, none⟩ = some (.slice p.da p.dn p.dc) := bb hB2 (by first | (simp; done) | omega | (simp; omega)) c2
    clear c0 c1 c2
    rcases h2 : siteOk p.to with _ | _
    · go_wp2_with fail
      exact bodyPost_ret (v := .bool false) (by simp [results, Try.results29, go_sem]) rfl ⟨by rw [HP.out, h1, h2]; simp, (by repeat (first | exact Below.refl _ _ | assumption | refine b_then ?_ (by assumption) | refine b_alloc ?_ _ | refine b_drewN ?_ _ | refine b_drew ?_ | refine b_set ?_ (by omega) _ | refine b_set ?_ (by simp) _))⟩
    · rcases h3 : (p.fr != p.to) with _ | _
      · go_wp2_with fail
        exact bodyPost_ret (v := .bool false) (by simp [results, Try.results29, go_sem]) rfl ⟨by rw [HP.out, h1, h2, h3]; simp, (by repeat (first | exact Below.refl _ _ | assumption | refine b_then ?_ (by assumption) | refine b_alloc ?_ _ | refine b_drewN ?_ _ | refine b_drew ?_ | refine b_set ?_ (by omega) _ | refine b_set ?_ (by simp) _))⟩
      · by_cases h4 : (p.dn : Int) ≤ 1048576
        · go_wp2_with fail
          exact bodyPost_ret (v := .bool true) (by simp [results, Try.results29, go_sem]) rfl ⟨by rw [HP.out, h1, h2, h3]; simp [h4], (by repeat (first | exact Below.refl _ _ | assumption | refine b_then ?_ (by assumption) | refine b_alloc ?_ _ | refine b_drewN ?_ _ | refine b_drew ?_ | refine b_set ?_ (by omega) _ | refine b_set ?_ (by simp) _))⟩
        · go_wp2_with fail
          exact bodyPost_ret (v := .bool false) (by simp [results, Try.results29, go_sem] <;> omega) rfl ⟨by rw [HP.out, h1, h2, h3, decide_eq_false (by omega)]; simp, (by repeat (first | exact Below.refl _ _ | assumption | refine b_then ?_ (by assumption) | refine b_alloc ?_ _ | refine b_drewN ?_ _ | refine b_drew ?_ | refine b_set ?_ (by omega) _ | refine b_set ?_ (by simp) _))⟩
end Go.Proofs.Ytmikhkmdcpgkfaa
