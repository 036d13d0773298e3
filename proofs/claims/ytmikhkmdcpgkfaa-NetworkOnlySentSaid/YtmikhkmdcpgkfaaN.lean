/- sane. -/
import Derived.Test.YtmikhkmdcpgkfaaZ
namespace Go.Proofs.Ytmikhkmdcpgkfaa
open Go.RowKit
open Go.Lib (hid)

theorem upn {V V2 : World} (hB : Below V.heap.size V V2) {ok : Nat → Prop} {x : Value} {ps : List Pk} {ls : List (Int × Int)} (h : ∀ v : After V, NetIs ok v.w x ps ls) : ∀ v : After V2, NetIs ok v.w x ps ls := fun v => h (v.up hB)
theorem upd {V V2 : World} (hB : Below V.heap.size V V2) {p : Pk} {bs : List UInt8} (h : ∀ v : After V, DataIs v.w p bs) : ∀ v : After V2, DataIs v.w p bs := fun v => h (v.up hB)
theorem NetIs.form' {ok : Nat → Prop} {w : World} {v : Value} {ps : List Pk} {ls : List (Int × Int)} {n m : Nat} (h : NetIs ok w v ps ls) (hp : ps.length = n) (hl : ls.length = m) : ∃ qa aa qc ac, v = .agg #[.slice qa n qc, .slice aa m ac] := by
  subst hp hl
  exact h.form
theorem new_any (w : World) : Calls Try.prog 16 #[] w fun e w' => e = .returned (.agg #[.slice none 0 0, .slice none 0 0]) ∧ Below w.heap.size w w' := by
  go_enter Try.func16, Try.ntmps16
  go_wp2
  exact bodyPost_ret (v := .agg #[.slice none 0 0, .slice none 0 0]) (by simp [results, Try.results16, go_sem]) rfl ⟨rfl, (by repeat (first | exact Below.refl _ _ | assumption | refine b_then ?_ (by assumption) | refine b_alloc ?_ _ | refine b_drewN ?_ _ | refine b_drew ?_ | refine b_set ?_ (by omega) _ | refine b_set ?_ (by simp) _))⟩
theorem chk00 : chk [] [] = 0 := chk_ok rfl (fun i h => by simp at h)
theorem ask00 : ask [] [] 0 = 1 := by simp [ask, chk00]
theorem del00 : delP [] [] 0 = Pk.zero := by simp [delP, ask00]
theorem lq00 : leftQ [] [] 0 = [] := by simp [leftQ, ask00]
theorem ll00 : leftL [] [] 0 = [] := by simp [leftL, ask00]
/-- The packet of the chapter's example; its byte lies in the block behind b. -/
def sp (b : Nat) : Pk := ⟨1, 3, some ⟨b + 1, 0, none⟩, 1, 1⟩
theorem sp_ok (b : Nat) : pkOk (sp b) = true := rfl
theorem ap0 : ApOk [] := fun i h => by simp at h
theorem chk10 (b : Nat) : chk [sp b] [] = 0 := chk_ok (by simp [sp_ok]) ap0
theorem ask10 (b : Nat) : ask [sp b] [] 0 = 0 := by simp [ask, chk10]
theorem at10 (b : Nat) : atP [sp b] 0 = sp b := rfl
theorem chk20 (b : Nat) : chk [sp b, sp b] [] = 0 := chk_ok (by simp [sp_ok]) ap0
theorem ask20 (b : Nat) : ask [sp b, sp b] [] 0 = 0 := by simp [ask, chk20]
theorem ce31 (b : Nat) : cutE [sp b, sp b] [] 3 1 = 0 := by rw [cutE, if_pos (chk20 b), if_pos (by decide)]
theorem cq31 (b : Nat) : cutQ [sp b, sp b] [] 3 1 = [sp b, sp b] := by simp [cutQ, ce31]
theorem cl31 (b : Nat) : cutL [sp b, sp b] [] 3 1 true = [(1, 3)] := by
  rw [cutL, if_pos (ce31 b)]
  decide +kernel
theorem lq20 (b : Nat) : leftQ [sp b, sp b] [] 0 = [sp b] := by simp [leftQ, ask20]
theorem ll20 (b : Nat) : leftL [sp b, sp b] [] 0 = [] := by simp [leftL]
theorem del20 (b : Nat) : delP [sp b, sp b] [] 0 = sp b := by rw [delP, if_pos (ask20 b)]; rfl
theorem ap13 : ApOk [(1, 3)] := by
  intro i h
  match i, h with
  | 0, _ => exact ⟨rfl, fun h => absurd h (by omega)⟩
theorem chk21 (b : Nat) : chk [sp b, sp b] [(1, 3)] = 0 := chk_ok (by simp [sp_ok]) ap13
theorem ask21 (b : Nat) : ask [sp b, sp b] [(1, 3)] 1 = 0 := by simp [ask, chk21]
theorem lq21 (b : Nat) : leftQ [sp b, sp b] [(1, 3)] 1 = [sp b] := by simp [leftQ, ask21]
theorem ll21 (b : Nat) : leftL [sp b, sp b] [(1, 3)] 1 = [(1, 3)] := by simp [leftL, ask21]
theorem del21 (b : Nat) : delP [sp b, sp b] [(1, 3)] 1 = Pk.zero := by rw [delP, if_pos (ask21 b)]; rfl
theorem net_row {ok : Nat → Prop} {w : World} {qa aa : Option Addr} {n m qc ac : Nat} {ps : List Pk} {ls : List (Int × Int)} (h : NetIs ok w (.agg #[.slice qa n qc, .slice aa m ac]) ps ls) : Rd w aa (ls.flatMap lkc) := by
  obtain ⟨qa', aa', qc', ac', hv, _, ha, _⟩ := h
  simp [netV] at hv
  obtain ⟨_, rfl, _, _⟩ := hv
  exact ha
theorem ce22 : cutE [] [] 2 2 = 1 := by simp [cutE, chk00, lkOk]
theorem cq22 : cutQ [] [] 2 2 = [] := by simp [cutQ, ce22]
theorem cl22 : cutL [] [] 2 2 true = [] := by simp [cutL, ce22]

set_option maxRecDepth 100000 in
set_option maxHeartbeats 8000000 in
theorem sane_any (w : World) : Calls Try.prog 9 #[] w fun e w' => e = .returned (.bool true) ∧ Below w.heap.size w w' := by
  go_enter Try.func9, Try.ntmps9
  go_wp2_with fail
  refine (new_any w).mono ?_
  rintro e w1 ⟨rfl, hB1⟩
  go_wp2_with fail
  obtain ⟨V0, hV0⟩ : ∃ V0, V0 = (w1.alloc (.cells #[.slice none 0 0, .slice none 0 0] 25)) := ⟨_, rfl⟩
  have n0 : ∀ v : After V0, v.w.cell? ⟨w1.heap.size, 0, none⟩ = some (.slice none 0 0) := after_cell (by rw [hV0]; first | (simp; done) | omega | (simp; omega)) (by rw [hV0]; (repeat (first | with_reducible assumption | exact bn (by first | (simp; done) | omega | (simp; omega)) rfl | refine bo (by first | (simp; done) | omega | (simp; omega)) ?_)))
  have fn0 : ∀ v : After V0, v.w.frozen? ⟨w1.heap.size, 0, none⟩ = false := after_frozen (by rw [hV0]; first | (simp; done) | omega | (simp; omega)) (by rw [hV0]; (repeat (first | exact fn (by first | (simp; done) | omega | (simp; omega)) | refine fo (by first | (simp; done) | omega | (simp; omega)) ?_)))
  have n1 : ∀ v : After V0, v.w.cell? ⟨w1.heap.size, 1, none⟩ = some (.slice none 0 0) := after_cell (by rw [hV0]; first | (simp; done) | omega | (simp; omega)) (by rw [hV0]; (repeat (first | with_reducible assumption | exact bn (by first | (simp; done) | omega | (simp; omega)) rfl | refine bo (by first | (simp; done) | omega | (simp; omega)) ?_)))
  have fn1 : ∀ v : After V0, v.w.frozen? ⟨w1.heap.size, 1, none⟩ = false := after_frozen (by rw [hV0]; first | (simp; done) | omega | (simp; omega)) (by rw [hV0]; (repeat (first | exact fn (by first | (simp; done) | omega | (simp; omega)) | refine fo (by first | (simp; done) | omega | (simp; omega)) ?_)))
  have zn : ∀ v : After V0, w1.heap.size < v.w.heap.size := after_size (by rw [hV0]; first | (simp; done) | omega | (simp; omega))
  have hwV0 : Below w1.heap.size w1 V0 := by rw [hV0]; exact (by repeat (first | exact Below.refl _ _ | assumption | refine b_then ?_ (by assumption) | refine b_alloc ?_ _ | refine b_drewN ?_ _ | refine b_drew ?_ | refine b_set ?_ (by omega) _ | refine b_set ?_ (by simp) _))
  have WV0 := hid (after_below hwV0)
  rw [← hV0]
  obtain ⟨u0, hu⟩ : ∃ u : After V0, u.w = V0 := ⟨After.here V0, rfl⟩
  rw [← hu]
  clear hu hV0
  have Hz : Hid (∀ v : After V0, NetIs (fun _ => False) v.w (.agg #[.slice none 0 0, .slice none 0 0]) [] []) := hid fun v => NetIs.zero _ _
  refine (Deliver_any _ [] [] 0 _ _ (by simp) (by simp) (Hz.out u0)).mono ?_
  rintro e w9 ⟨v9, rfl, hn9, hB9⟩
  obtain ⟨u1, rfl⟩ : ∃ y9 : After V0, w9 = y9.w := ⟨u0.on hB9, rfl⟩
  clear hB9
  rw [lq00, ll00] at hn9
  have hn9 : NetIs _ _ _ ([]) ([]) := hn9
  obtain ⟨qb1, ab1, qd1, ad1, rfl⟩ := hn9.form' (n := 0) (m := 0) rfl rfl
  rw [ask00, del00]
  dsimp only [Pk.v, Pk.zero]
  go_wp2_with fail
  obtain ⟨V1, hV1⟩ : ∃ V1, V1 = ((u1.w.alloc (.cells #[.int .i64 0, .int .i64 0, .slice none 0 0] 28)).alloc (.cells #[.slice qb1 0 qd1, .slice ab1 0 ad1] 25)) := ⟨_, rfl⟩
  have hCV1 : Below u1.w.heap.size u1.w V1 := by rw [hV1]; exact (by repeat (first | exact Below.refl _ _ | assumption | refine b_then ?_ (by assumption) | refine b_alloc ?_ _ | refine b_drewN ?_ _ | refine b_drew ?_ | refine b_set ?_ (by omega) _ | refine b_set ?_ (by simp) _))
  have hBV1 : Below V0.heap.size V0 V1 := b_then u1.w_below hCV1
  have yV1n := zn u1
  replace n0 := upc hBV1 n0
  replace fn0 := upf hBV1 fn0
  replace n1 := upc hBV1 n1
  replace fn1 := upf hBV1 fn1
  replace zn := upz hBV1 zn
  replace Hz := hid (upn hBV1 Hz.out)
  have WV1 := hid (upb hBV1 WV0.out)
  have a0 : ∀ v : After V1, v.w.cell? ⟨u1.w.heap.size, 0, none⟩ = some (.int .i64 0) := after_cell (by rw [hV1]; first | (simp; done) | omega | (simp; omega)) (by rw [hV1]; (repeat (first | with_reducible assumption | exact bn (by first | (simp; done) | omega | (simp; omega)) rfl | refine bo (by first | (simp; done) | omega | (simp; omega)) ?_)))
  have fa0 : ∀ v : After V1, v.w.frozen? ⟨u1.w.heap.size, 0, none⟩ = false := after_frozen (by rw [hV1]; first | (simp; done) | omega | (simp; omega)) (by rw [hV1]; (repeat (first | exact fn (by first | (simp; done) | omega | (simp; omega)) | refine fo (by first | (simp; done) | omega | (simp; omega)) ?_)))
  have a1 : ∀ v : After V1, v.w.cell? ⟨u1.w.heap.size, 1, none⟩ = some (.int .i64 0) := after_cell (by rw [hV1]; first | (simp; done) | omega | (simp; omega)) (by rw [hV1]; (repeat (first | with_reducible assumption | exact bn (by first | (simp; done) | omega | (simp; omega)) rfl | refine bo (by first | (simp; done) | omega | (simp; omega)) ?_)))
  have fa1 : ∀ v : After V1, v.w.frozen? ⟨u1.w.heap.size, 1, none⟩ = false := after_frozen (by rw [hV1]; first | (simp; done) | omega | (simp; omega)) (by rw [hV1]; (repeat (first | exact fn (by first | (simp; done) | omega | (simp; omega)) | refine fo (by first | (simp; done) | omega | (simp; omega)) ?_)))
  have a2 : ∀ v : After V1, v.w.cell? ⟨u1.w.heap.size, 2, none⟩ = some (.slice none 0 0) := after_cell (by rw [hV1]; first | (simp; done) | omega | (simp; omega)) (by rw [hV1]; (repeat (first | with_reducible assumption | exact bn (by first | (simp; done) | omega | (simp; omega)) rfl | refine bo (by first | (simp; done) | omega | (simp; omega)) ?_)))
  have fa2 : ∀ v : After V1, v.w.frozen? ⟨u1.w.heap.size, 2, none⟩ = false := after_frozen (by rw [hV1]; first | (simp; done) | omega | (simp; omega)) (by rw [hV1]; (repeat (first | exact fn (by first | (simp; done) | omega | (simp; omega)) | refine fo (by first | (simp; done) | omega | (simp; omega)) ?_)))
  have za : ∀ v : After V1, u1.w.heap.size < v.w.heap.size := after_size (by rw [hV1]; first | (simp; done) | omega | (simp; omega))
  have b0 : ∀ v : After V1, v.w.cell? ⟨u1.w.heap.size + 1, 0, none⟩ = some (.slice qb1 0 qd1) := after_cell (by rw [hV1]; first | (simp; done) | omega | (simp; omega)) (by rw [hV1]; (repeat (first | with_reducible assumption | exact bn (by first | (simp; done) | omega | (simp; omega)) rfl | refine bo (by first | (simp; done) | omega | (simp; omega)) ?_)))
  have fb0 : ∀ v : After V1, v.w.frozen? ⟨u1.w.heap.size + 1, 0, none⟩ = false := after_frozen (by rw [hV1]; first | (simp; done) | omega | (simp; omega)) (by rw [hV1]; (repeat (first | exact fn (by first | (simp; done) | omega | (simp; omega)) | refine fo (by first | (simp; done) | omega | (simp; omega)) ?_)))
  have b1 : ∀ v : After V1, v.w.cell? ⟨u1.w.heap.size + 1, 1, none⟩ = some (.slice ab1 0 ad1) := after_cell (by rw [hV1]; first | (simp; done) | omega | (simp; omega)) (by rw [hV1]; (repeat (first | with_reducible assumption | exact bn (by first | (simp; done) | omega | (simp; omega)) rfl | refine bo (by first | (simp; done) | omega | (simp; omega)) ?_)))
  have fb1 : ∀ v : After V1, v.w.frozen? ⟨u1.w.heap.size + 1, 1, none⟩ = false := after_frozen (by rw [hV1]; first | (simp; done) | omega | (simp; omega)) (by rw [hV1]; (repeat (first | exact fn (by first | (simp; done) | omega | (simp; omega)) | refine fo (by first | (simp; done) | omega | (simp; omega)) ?_)))
  have zb : ∀ v : After V1, u1.w.heap.size + 1 < v.w.heap.size := after_size (by rw [hV1]; first | (simp; done) | omega | (simp; omega))
  rw [← hV1]
  obtain ⟨u2, hu⟩ : ∃ u : After V1, u.w = V1 := ⟨After.here V1, rfl⟩
  rw [← hu]
  clear hu hV1 hCV1
  refine (Send_any _ [] [] ⟨3, 3, none, 0, 0⟩ _ _ (by simp) (by simp) (Hz.out u2)).mono ?_
  rintro e w9 ⟨x, ⟨v9, rfl, hx⟩, hB9⟩
  obtain ⟨u3, rfl⟩ : ∃ y9 : After V1, w9 = y9.w := ⟨u2.on hB9, rfl⟩
  clear hB9
  rw [if_neg (by intro h; exact absurd h.2 (by decide))] at hx
  obtain ⟨rfl, hn9⟩ := hx
  have hn9 : NetIs _ _ _ ([]) ([]) := hn9
  obtain ⟨qb3, ab3, qd3, ad3, rfl⟩ := hn9.form' (n := 0) (m := 0) rfl rfl
  go_wp2_with fail
  obtain ⟨V2, hV2⟩ : ∃ V2, V2 = (u3.w.alloc (.cells #[.slice qb3 0 qd3, .slice ab3 0 ad3] 25)) := ⟨_, rfl⟩
  have hCV2 : Below u3.w.heap.size u3.w V2 := by rw [hV2]; exact (by repeat (first | exact Below.refl _ _ | assumption | refine b_then ?_ (by assumption) | refine b_alloc ?_ _ | refine b_drewN ?_ _ | refine b_drew ?_ | refine b_set ?_ (by omega) _ | refine b_set ?_ (by simp) _))
  have hBV2 : Below V1.heap.size V1 V2 := b_then u3.w_below hCV2
  have yV2n := zn u3
  have yV2a := za u3
  have yV2b := zb u3
  replace n0 := upc hBV2 n0
  replace fn0 := upf hBV2 fn0
  replace n1 := upc hBV2 n1
  replace fn1 := upf hBV2 fn1
  replace a0 := upc hBV2 a0
  replace fa0 := upf hBV2 fa0
  replace a1 := upc hBV2 a1
  replace fa1 := upf hBV2 fa1
  replace a2 := upc hBV2 a2
  replace fa2 := upf hBV2 fa2
  replace b0 := upc hBV2 b0
  replace fb0 := upf hBV2 fb0
  replace b1 := upc hBV2 b1
  replace fb1 := upf hBV2 fb1
  replace zn := upz hBV2 zn
  replace za := upz hBV2 za
  replace zb := upz hBV2 zb
  replace Hz := hid (upn hBV2 Hz.out)
  have WV2 := hid (upb hBV2 WV1.out)
  have c0 : ∀ v : After V2, v.w.cell? ⟨u3.w.heap.size, 0, none⟩ = some (.slice qb3 0 qd3) := after_cell (by rw [hV2]; first | (simp; done) | omega | (simp; omega)) (by rw [hV2]; (repeat (first | with_reducible assumption | exact bn (by first | (simp; done) | omega | (simp; omega)) rfl | refine bo (by first | (simp; done) | omega | (simp; omega)) ?_)))
  have fc0 : ∀ v : After V2, v.w.frozen? ⟨u3.w.heap.size, 0, none⟩ = false := after_frozen (by rw [hV2]; first | (simp; done) | omega | (simp; omega)) (by rw [hV2]; (repeat (first | exact fn (by first | (simp; done) | omega | (simp; omega)) | refine fo (by first | (simp; done) | omega | (simp; omega)) ?_)))
  have c1 : ∀ v : After V2, v.w.cell? ⟨u3.w.heap.size, 1, none⟩ = some (.slice ab3 0 ad3) := after_cell (by rw [hV2]; first | (simp; done) | omega | (simp; omega)) (by rw [hV2]; (repeat (first | with_reducible assumption | exact bn (by first | (simp; done) | omega | (simp; omega)) rfl | refine bo (by first | (simp; done) | omega | (simp; omega)) ?_)))
  have fc1 : ∀ v : After V2, v.w.frozen? ⟨u3.w.heap.size, 1, none⟩ = false := after_frozen (by rw [hV2]; first | (simp; done) | omega | (simp; omega)) (by rw [hV2]; (repeat (first | exact fn (by first | (simp; done) | omega | (simp; omega)) | refine fo (by first | (simp; done) | omega | (simp; omega)) ?_)))
  have zc : ∀ v : After V2, u3.w.heap.size < v.w.heap.size := after_size (by rw [hV2]; first | (simp; done) | omega | (simp; omega))
  rw [← hV2]
  obtain ⟨u4, hu⟩ : ∃ u : After V2, u.w = V2 := ⟨After.here V2, rfl⟩
  rw [← hu]
  clear hu hV2 hCV2
  refine (Cut_any _ [] [] 2 2 true _ _ (by simp) (by simp) (Hz.out u4)).mono ?_
  rintro e w9 ⟨v9, rfl, hn9, hB9⟩
  obtain ⟨u5, rfl⟩ : ∃ y9 : After V2, w9 = y9.w := ⟨u4.on hB9, rfl⟩
  clear hB9
  rw [cq22, cl22] at hn9
  have hn9 : NetIs _ _ _ ([]) ([]) := hn9
  obtain ⟨qb4, ab4, qd4, ad4, rfl⟩ := hn9.form' (n := 0) (m := 0) rfl rfl
  rw [ce22]
  have sn0u5 : w1.heap.size < u5.w.heap.size := by have := zn u5; omega
  have ln0u5 : w1.heap.size ≤ u5.w.heap.size := by have := zn u5; omega
  have sn1u5 : w1.heap.size < u5.w.heap.size + 1 := by have := zn u5; omega
  have ln1u5 : w1.heap.size ≤ u5.w.heap.size + 1 := by have := zn u5; omega
  have sn2u5 : w1.heap.size < u5.w.heap.size + 1 + 1 := by have := zn u5; omega
  have ln2u5 : w1.heap.size ≤ u5.w.heap.size + 1 + 1 := by have := zn u5; omega
  go_wp2_with fail
  obtain ⟨V3, hV3⟩ : ∃ V3, V3 = (((u5.w.alloc (.cells #[.slice qb4 0 qd4, .slice ab4 0 ad4] 25)).alloc (.cells #[.int .u8 7] 5)).alloc (.cells #[.int .i64 1, .int .i64 3, .slice (some ⟨u5.w.heap.size + 1, 0, none⟩) 1 1] 28)) := ⟨_, rfl⟩
  have hCV3 : Below u5.w.heap.size u5.w V3 := by rw [hV3]; exact (by repeat (first | exact Below.refl _ _ | assumption | refine b_then ?_ (by assumption) | refine b_alloc ?_ _ | refine b_drewN ?_ _ | refine b_drew ?_ | refine b_set ?_ (by omega) _ | refine b_set ?_ (by simp) _))
  have hBV3 : Below V2.heap.size V2 V3 := b_then u5.w_below hCV3
  have yV3n := zn u5
  have yV3a := za u5
  have yV3b := zb u5
  have yV3c := zc u5
  replace n0 := upc hBV3 n0
  replace fn0 := upf hBV3 fn0
  replace n1 := upc hBV3 n1
  replace fn1 := upf hBV3 fn1
  replace a0 := upc hBV3 a0
  replace fa0 := upf hBV3 fa0
  replace a1 := upc hBV3 a1
  replace fa1 := upf hBV3 fa1
  replace a2 := upc hBV3 a2
  replace fa2 := upf hBV3 fa2
  replace b0 := upc hBV3 b0
  replace fb0 := upf hBV3 fb0
  replace b1 := upc hBV3 b1
  replace fb1 := upf hBV3 fb1
  replace c0 := upc hBV3 c0
  replace fc0 := upf hBV3 fc0
  replace c1 := upc hBV3 c1
  replace fc1 := upf hBV3 fc1
  replace zn := upz hBV3 zn
  replace za := upz hBV3 za
  replace zb := upz hBV3 zb
  replace zc := upz hBV3 zc
  replace Hz := hid (upn hBV3 Hz.out)
  have WV3 := hid (upb hBV3 WV2.out)
  have d0 : ∀ v : After V3, v.w.cell? ⟨u5.w.heap.size, 0, none⟩ = some (.slice qb4 0 qd4) := after_cell (by rw [hV3]; first | (simp; done) | omega | (simp; omega)) (by rw [hV3]; (repeat (first | with_reducible assumption | exact bn (by first | (simp; done) | omega | (simp; omega)) rfl | refine bo (by first | (simp; done) | omega | (simp; omega)) ?_)))
  have fd0 : ∀ v : After V3, v.w.frozen? ⟨u5.w.heap.size, 0, none⟩ = false := after_frozen (by rw [hV3]; first | (simp; done) | omega | (simp; omega)) (by rw [hV3]; (repeat (first | exact fn (by first | (simp; done) | omega | (simp; omega)) | refine fo (by first | (simp; done) | omega | (simp; omega)) ?_)))
  have d1 : ∀ v : After V3, v.w.cell? ⟨u5.w.heap.size, 1, none⟩ = some (.slice ab4 0 ad4) := after_cell (by rw [hV3]; first | (simp; done) | omega | (simp; omega)) (by rw [hV3]; (repeat (first | with_reducible assumption | exact bn (by first | (simp; done) | omega | (simp; omega)) rfl | refine bo (by first | (simp; done) | omega | (simp; omega)) ?_)))
  have fd1 : ∀ v : After V3, v.w.frozen? ⟨u5.w.heap.size, 1, none⟩ = false := after_frozen (by rw [hV3]; first | (simp; done) | omega | (simp; omega)) (by rw [hV3]; (repeat (first | exact fn (by first | (simp; done) | omega | (simp; omega)) | refine fo (by first | (simp; done) | omega | (simp; omega)) ?_)))
  have zd : ∀ v : After V3, u5.w.heap.size < v.w.heap.size := after_size (by rw [hV3]; first | (simp; done) | omega | (simp; omega))
  have x0 : ∀ v : After V3, v.w.cell? ⟨u5.w.heap.size + 1, 0, none⟩ = some (.int .u8 7) := after_cell (by rw [hV3]; first | (simp; done) | omega | (simp; omega)) (by rw [hV3]; (repeat (first | with_reducible assumption | exact bn (by first | (simp; done) | omega | (simp; omega)) rfl | refine bo (by first | (simp; done) | omega | (simp; omega)) ?_)))
  have fx0 : ∀ v : After V3, v.w.frozen? ⟨u5.w.heap.size + 1, 0, none⟩ = false := after_frozen (by rw [hV3]; first | (simp; done) | omega | (simp; omega)) (by rw [hV3]; (repeat (first | exact fn (by first | (simp; done) | omega | (simp; omega)) | refine fo (by first | (simp; done) | omega | (simp; omega)) ?_)))
  have zx : ∀ v : After V3, u5.w.heap.size + 1 < v.w.heap.size := after_size (by rw [hV3]; first | (simp; done) | omega | (simp; omega))
  have p0 : ∀ v : After V3, v.w.cell? ⟨u5.w.heap.size + 1 + 1, 0, none⟩ = some (.int .i64 1) := after_cell (by rw [hV3]; first | (simp; done) | omega | (simp; omega)) (by rw [hV3]; (repeat (first | with_reducible assumption | exact bn (by first | (simp; done) | omega | (simp; omega)) rfl | refine bo (by first | (simp; done) | omega | (simp; omega)) ?_)))
  have fp0 : ∀ v : After V3, v.w.frozen? ⟨u5.w.heap.size + 1 + 1, 0, none⟩ = false := after_frozen (by rw [hV3]; first | (simp; done) | omega | (simp; omega)) (by rw [hV3]; (repeat (first | exact fn (by first | (simp; done) | omega | (simp; omega)) | refine fo (by first | (simp; done) | omega | (simp; omega)) ?_)))
  have p1 : ∀ v : After V3, v.w.cell? ⟨u5.w.heap.size + 1 + 1, 1, none⟩ = some (.int .i64 3) := after_cell (by rw [hV3]; first | (simp; done) | omega | (simp; omega)) (by rw [hV3]; (repeat (first | with_reducible assumption | exact bn (by first | (simp; done) | omega | (simp; omega)) rfl | refine bo (by first | (simp; done) | omega | (simp; omega)) ?_)))
  have fp1 : ∀ v : After V3, v.w.frozen? ⟨u5.w.heap.size + 1 + 1, 1, none⟩ = false := after_frozen (by rw [hV3]; first | (simp; done) | omega | (simp; omega)) (by rw [hV3]; (repeat (first | exact fn (by first | (simp; done) | omega | (simp; omega)) | refine fo (by first | (simp; done) | omega | (simp; omega)) ?_)))
  have p2 : ∀ v : After V3, v.w.cell? ⟨u5.w.heap.size + 1 + 1, 2, none⟩ = some (.slice (some ⟨u5.w.heap.size + 1, 0, none⟩) 1 1) := after_cell (by rw [hV3]; first | (simp; done) | omega | (simp; omega)) (by rw [hV3]; (repeat (first | with_reducible assumption | exact bn (by first | (simp; done) | omega | (simp; omega)) rfl | refine bo (by first | (simp; done) | omega | (simp; omega)) ?_)))
  have fp2 : ∀ v : After V3, v.w.frozen? ⟨u5.w.heap.size + 1 + 1, 2, none⟩ = false := after_frozen (by rw [hV3]; first | (simp; done) | omega | (simp; omega)) (by rw [hV3]; (repeat (first | exact fn (by first | (simp; done) | omega | (simp; omega)) | refine fo (by first | (simp; done) | omega | (simp; omega)) ?_)))
  have zp : ∀ v : After V3, u5.w.heap.size + 1 + 1 < v.w.heap.size := after_size (by rw [hV3]; first | (simp; done) | omega | (simp; omega))
  rw [← hV3]
  obtain ⟨u6, hu⟩ : ∃ u : After V3, u.w = V3 := ⟨After.here V3, rfl⟩
  rw [← hu]
  clear hu hV3 hCV3
  have HDp : Hid (∀ v : After V3, DataIs v.w (sp u5.w.heap.size) [7]) := hid fun v => ⟨rfl, .inr ⟨u5.w.heap.size + 1, 0, rfl, zx v, fun j u hu => by rw [Nat.zero_add]; match j, hu with | 0, hu => (cases hu; exact x0 v)⟩⟩
  refine (Send_any _ [] [] (sp u5.w.heap.size) _ _ (by simp) (by simp) (Hz.out u6)).mono ?_
  rintro e w9 ⟨x, ⟨v9, rfl, hx⟩, hB9⟩
  obtain ⟨u7, rfl⟩ : ∃ y9 : After V3, w9 = y9.w := ⟨u6.on hB9, rfl⟩
  clear hB9
  rw [if_pos ⟨chk00, sp_ok _⟩] at hx
  obtain ⟨rfl, hn9⟩ := hx
  have hn9 : NetIs _ _ _ ([sp u5.w.heap.size]) ([]) := hn9
  obtain ⟨qb5, ab5, qd5, ad5, rfl⟩ := hn9.form' (n := 1) (m := 0) rfl rfl
  go_wp2_with fail
  obtain ⟨V4, hV4⟩ : ∃ V4, V4 = (u7.w.alloc (.cells #[.slice qb5 1 qd5, .slice ab5 0 ad5] 25)) := ⟨_, rfl⟩
  have hCV4 : Below u7.w.heap.size u7.w V4 := by rw [hV4]; exact (by repeat (first | exact Below.refl _ _ | assumption | refine b_then ?_ (by assumption) | refine b_alloc ?_ _ | refine b_drewN ?_ _ | refine b_drew ?_ | refine b_set ?_ (by omega) _ | refine b_set ?_ (by simp) _))
  have hBV4 : Below V3.heap.size V3 V4 := b_then u7.w_below hCV4
  have yV4n := zn u7
  have yV4a := za u7
  have yV4b := zb u7
  have yV4c := zc u7
  have yV4d := zd u7
  have yV4x := zx u7
  have yV4p := zp u7
  replace n0 := upc hBV4 n0
  replace fn0 := upf hBV4 fn0
  replace n1 := upc hBV4 n1
  replace fn1 := upf hBV4 fn1
  replace a0 := upc hBV4 a0
  replace fa0 := upf hBV4 fa0
  replace a1 := upc hBV4 a1
  replace fa1 := upf hBV4 fa1
  replace a2 := upc hBV4 a2
  replace fa2 := upf hBV4 fa2
  replace b0 := upc hBV4 b0
  replace fb0 := upf hBV4 fb0
  replace b1 := upc hBV4 b1
  replace fb1 := upf hBV4 fb1
  replace c0 := upc hBV4 c0
  replace fc0 := upf hBV4 fc0
  replace c1 := upc hBV4 c1
  replace fc1 := upf hBV4 fc1
  replace d0 := upc hBV4 d0
  replace fd0 := upf hBV4 fd0
  replace d1 := upc hBV4 d1
  replace fd1 := upf hBV4 fd1
  replace x0 := upc hBV4 x0
  replace fx0 := upf hBV4 fx0
  replace p0 := upc hBV4 p0
  replace fp0 := upf hBV4 fp0
  replace p1 := upc hBV4 p1
  replace fp1 := upf hBV4 fp1
  replace p2 := upc hBV4 p2
  replace fp2 := upf hBV4 fp2
  replace zn := upz hBV4 zn
  replace za := upz hBV4 za
  replace zb := upz hBV4 zb
  replace zc := upz hBV4 zc
  replace zd := upz hBV4 zd
  replace zx := upz hBV4 zx
  replace zp := upz hBV4 zp
  replace Hz := hid (upn hBV4 Hz.out)
  replace HDp := hid (upd hBV4 HDp.out)
  have WV4 := hid (upb hBV4 WV3.out)
  have HA : Hid (∀ v : After V4, NetIs (fun g => False ∨ u6.w.heap.size ≤ g) v.w (.agg #[.slice qb5 1 qd5, .slice ab5 0 ad5]) ([sp u5.w.heap.size]) ([])) := hid fun v => hn9.below (b_then hCV4 v.2)
  have a50 : ∀ v : After V4, v.w.cell? ⟨u7.w.heap.size, 0, none⟩ = some (.slice qb5 1 qd5) := after_cell (by rw [hV4]; first | (simp; done) | omega | (simp; omega)) (by rw [hV4]; (repeat (first | with_reducible assumption | exact bn (by first | (simp; done) | omega | (simp; omega)) rfl | refine bo (by first | (simp; done) | omega | (simp; omega)) ?_)))
  have fa50 : ∀ v : After V4, v.w.frozen? ⟨u7.w.heap.size, 0, none⟩ = false := after_frozen (by rw [hV4]; first | (simp; done) | omega | (simp; omega)) (by rw [hV4]; (repeat (first | exact fn (by first | (simp; done) | omega | (simp; omega)) | refine fo (by first | (simp; done) | omega | (simp; omega)) ?_)))
  have a51 : ∀ v : After V4, v.w.cell? ⟨u7.w.heap.size, 1, none⟩ = some (.slice ab5 0 ad5) := after_cell (by rw [hV4]; first | (simp; done) | omega | (simp; omega)) (by rw [hV4]; (repeat (first | with_reducible assumption | exact bn (by first | (simp; done) | omega | (simp; omega)) rfl | refine bo (by first | (simp; done) | omega | (simp; omega)) ?_)))
  have fa51 : ∀ v : After V4, v.w.frozen? ⟨u7.w.heap.size, 1, none⟩ = false := after_frozen (by rw [hV4]; first | (simp; done) | omega | (simp; omega)) (by rw [hV4]; (repeat (first | exact fn (by first | (simp; done) | omega | (simp; omega)) | refine fo (by first | (simp; done) | omega | (simp; omega)) ?_)))
  have za5 : ∀ v : After V4, u7.w.heap.size < v.w.heap.size := after_size (by rw [hV4]; first | (simp; done) | omega | (simp; omega))
  rw [← hV4]
  obtain ⟨u8, hu⟩ : ∃ u : After V4, u.w = V4 := ⟨After.here V4, rfl⟩
  rw [← hu]
  clear hu hV4 hCV4
  refine (Repeat_any _ [sp u5.w.heap.size] [] 0 _ _ (by simp) (by simp) (HA.out u8)).mono ?_
  rintro e w9 ⟨x, ⟨v9, rfl, hx⟩, hB9⟩
  obtain ⟨u9, rfl⟩ : ∃ y9 : After V4, w9 = y9.w := ⟨u8.on hB9, rfl⟩
  clear hB9
  rw [if_pos (ask10 _), at10, if_pos (sp_ok _)] at hx
  obtain ⟨rfl, hn9⟩ := hx
  have hn9 : NetIs _ _ _ ([sp u5.w.heap.size, sp u5.w.heap.size]) ([]) := hn9
  obtain ⟨qb6, ab6, qd6, ad6, rfl⟩ := hn9.form' (n := 2) (m := 0) rfl rfl
  go_wp2_with fail
  obtain ⟨V5, hV5⟩ : ∃ V5, V5 = (u9.w.alloc (.cells #[.slice qb6 2 qd6, .slice ab6 0 ad6] 25)) := ⟨_, rfl⟩
  have hCV5 : Below u9.w.heap.size u9.w V5 := by rw [hV5]; exact (by repeat (first | exact Below.refl _ _ | assumption | refine b_then ?_ (by assumption) | refine b_alloc ?_ _ | refine b_drewN ?_ _ | refine b_drew ?_ | refine b_set ?_ (by omega) _ | refine b_set ?_ (by simp) _))
  have hBV5 : Below V4.heap.size V4 V5 := b_then u9.w_below hCV5
  have yV5n := zn u9
  have yV5a := za u9
  have yV5b := zb u9
  have yV5c := zc u9
  have yV5d := zd u9
  have yV5x := zx u9
  have yV5p := zp u9
  have yV5a5 := za5 u9
  replace n0 := upc hBV5 n0
  replace fn0 := upf hBV5 fn0
  replace n1 := upc hBV5 n1
  replace fn1 := upf hBV5 fn1
  replace a0 := upc hBV5 a0
  replace fa0 := upf hBV5 fa0
  replace a1 := upc hBV5 a1
  replace fa1 := upf hBV5 fa1
  replace a2 := upc hBV5 a2
  replace fa2 := upf hBV5 fa2
  replace b0 := upc hBV5 b0
  replace fb0 := upf hBV5 fb0
  replace b1 := upc hBV5 b1
  replace fb1 := upf hBV5 fb1
  replace c0 := upc hBV5 c0
  replace fc0 := upf hBV5 fc0
  replace c1 := upc hBV5 c1
  replace fc1 := upf hBV5 fc1
  replace d0 := upc hBV5 d0
  replace fd0 := upf hBV5 fd0
  replace d1 := upc hBV5 d1
  replace fd1 := upf hBV5 fd1
  replace x0 := upc hBV5 x0
  replace fx0 := upf hBV5 fx0
  replace p0 := upc hBV5 p0
  replace fp0 := upf hBV5 fp0
  replace p1 := upc hBV5 p1
  replace fp1 := upf hBV5 fp1
  replace p2 := upc hBV5 p2
  replace fp2 := upf hBV5 fp2
  replace a50 := upc hBV5 a50
  replace fa50 := upf hBV5 fa50
  replace a51 := upc hBV5 a51
  replace fa51 := upf hBV5 fa51
  replace zn := upz hBV5 zn
  replace za := upz hBV5 za
  replace zb := upz hBV5 zb
  replace zc := upz hBV5 zc
  replace zd := upz hBV5 zd
  replace zx := upz hBV5 zx
  replace zp := upz hBV5 zp
  replace za5 := upz hBV5 za5
  replace Hz := hid (upn hBV5 Hz.out)
  replace HDp := hid (upd hBV5 HDp.out)
  replace HA := hid (upn hBV5 HA.out)
  have WV5 := hid (upb hBV5 WV4.out)
  have HB : Hid (∀ v : After V5, NetIs (fun g => (False ∨ u6.w.heap.size ≤ g) ∨ u8.w.heap.size ≤ g) v.w (.agg #[.slice qb6 2 qd6, .slice ab6 0 ad6]) ([sp u5.w.heap.size, sp u5.w.heap.size]) ([])) := hid fun v => hn9.below (b_then hCV5 v.2)
  have b60 : ∀ v : After V5, v.w.cell? ⟨u9.w.heap.size, 0, none⟩ = some (.slice qb6 2 qd6) := after_cell (by rw [hV5]; first | (simp; done) | omega | (simp; omega)) (by rw [hV5]; (repeat (first | with_reducible assumption | exact bn (by first | (simp; done) | omega | (simp; omega)) rfl | refine bo (by first | (simp; done) | omega | (simp; omega)) ?_)))
  have fb60 : ∀ v : After V5, v.w.frozen? ⟨u9.w.heap.size, 0, none⟩ = false := after_frozen (by rw [hV5]; first | (simp; done) | omega | (simp; omega)) (by rw [hV5]; (repeat (first | exact fn (by first | (simp; done) | omega | (simp; omega)) | refine fo (by first | (simp; done) | omega | (simp; omega)) ?_)))
  have b61 : ∀ v : After V5, v.w.cell? ⟨u9.w.heap.size, 1, none⟩ = some (.slice ab6 0 ad6) := after_cell (by rw [hV5]; first | (simp; done) | omega | (simp; omega)) (by rw [hV5]; (repeat (first | with_reducible assumption | exact bn (by first | (simp; done) | omega | (simp; omega)) rfl | refine bo (by first | (simp; done) | omega | (simp; omega)) ?_)))
  have fb61 : ∀ v : After V5, v.w.frozen? ⟨u9.w.heap.size, 1, none⟩ = false := after_frozen (by rw [hV5]; first | (simp; done) | omega | (simp; omega)) (by rw [hV5]; (repeat (first | exact fn (by first | (simp; done) | omega | (simp; omega)) | refine fo (by first | (simp; done) | omega | (simp; omega)) ?_)))
  have zb6 : ∀ v : After V5, u9.w.heap.size < v.w.heap.size := after_size (by rw [hV5]; first | (simp; done) | omega | (simp; omega))
  rw [← hV5]
  obtain ⟨u10, hu⟩ : ∃ u : After V5, u.w = V5 := ⟨After.here V5, rfl⟩
  rw [← hu]
  clear hu hV5 hCV5
  refine (Cut_any _ [sp u5.w.heap.size, sp u5.w.heap.size] [] 3 1 true _ _ (by simp) (by simp) (HB.out u10)).mono ?_
  rintro e w9 ⟨v9, rfl, hn9, hB9⟩
  obtain ⟨u11, rfl⟩ : ∃ y9 : After V5, w9 = y9.w := ⟨u10.on hB9, rfl⟩
  clear hB9
  rw [cq31, cl31] at hn9
  have hn9 : NetIs _ _ _ ([sp u5.w.heap.size, sp u5.w.heap.size]) ([(1, 3)]) := hn9
  obtain ⟨qb7, ab7, qd7, ad7, rfl⟩ := hn9.form' (n := 2) (m := 1) rfl rfl
  rw [ce31]
  have sb60u11 : u9.w.heap.size < u11.w.heap.size := by have := zb6 u11; omega
  have lb60u11 : u9.w.heap.size ≤ u11.w.heap.size := by have := zb6 u11; omega
  have sb61u11 : u9.w.heap.size < u11.w.heap.size + 1 := by have := zb6 u11; omega
  have lb61u11 : u9.w.heap.size ≤ u11.w.heap.size + 1 := by have := zb6 u11; omega
  go_wp2_with fail
  obtain ⟨V6, hV6⟩ : ∃ V6, V6 = (u11.w.alloc (.cells #[.slice qb7 2 qd7, .slice ab7 1 ad7] 25)) := ⟨_, rfl⟩
  have hCV6 : Below u11.w.heap.size u11.w V6 := by rw [hV6]; exact (by repeat (first | exact Below.refl _ _ | assumption | refine b_then ?_ (by assumption) | refine b_alloc ?_ _ | refine b_drewN ?_ _ | refine b_drew ?_ | refine b_set ?_ (by omega) _ | refine b_set ?_ (by simp) _))
  have hBV6 : Below V5.heap.size V5 V6 := b_then u11.w_below hCV6
  have yV6n := zn u11
  have yV6a := za u11
  have yV6b := zb u11
  have yV6c := zc u11
  have yV6d := zd u11
  have yV6x := zx u11
  have yV6p := zp u11
  have yV6a5 := za5 u11
  have yV6b6 := zb6 u11
  replace n0 := upc hBV6 n0
  replace fn0 := upf hBV6 fn0
  replace n1 := upc hBV6 n1
  replace fn1 := upf hBV6 fn1
  replace a0 := upc hBV6 a0
  replace fa0 := upf hBV6 fa0
  replace a1 := upc hBV6 a1
  replace fa1 := upf hBV6 fa1
  replace a2 := upc hBV6 a2
  replace fa2 := upf hBV6 fa2
  replace b0 := upc hBV6 b0
  replace fb0 := upf hBV6 fb0
  replace b1 := upc hBV6 b1
  replace fb1 := upf hBV6 fb1
  replace c0 := upc hBV6 c0
  replace fc0 := upf hBV6 fc0
  replace c1 := upc hBV6 c1
  replace fc1 := upf hBV6 fc1
  replace d0 := upc hBV6 d0
  replace fd0 := upf hBV6 fd0
  replace d1 := upc hBV6 d1
  replace fd1 := upf hBV6 fd1
  replace x0 := upc hBV6 x0
  replace fx0 := upf hBV6 fx0
  replace p0 := upc hBV6 p0
  replace fp0 := upf hBV6 fp0
  replace p1 := upc hBV6 p1
  replace fp1 := upf hBV6 fp1
  replace p2 := upc hBV6 p2
  replace fp2 := upf hBV6 fp2
  replace a50 := upc hBV6 a50
  replace fa50 := upf hBV6 fa50
  replace a51 := upc hBV6 a51
  replace fa51 := upf hBV6 fa51
  replace b60 := upc hBV6 b60
  replace fb60 := upf hBV6 fb60
  replace b61 := upc hBV6 b61
  replace fb61 := upf hBV6 fb61
  replace zn := upz hBV6 zn
  replace za := upz hBV6 za
  replace zb := upz hBV6 zb
  replace zc := upz hBV6 zc
  replace zd := upz hBV6 zd
  replace zx := upz hBV6 zx
  replace zp := upz hBV6 zp
  replace za5 := upz hBV6 za5
  replace zb6 := upz hBV6 zb6
  replace Hz := hid (upn hBV6 Hz.out)
  replace HDp := hid (upd hBV6 HDp.out)
  replace HA := hid (upn hBV6 HA.out)
  replace HB := hid (upn hBV6 HB.out)
  have WV6 := hid (upb hBV6 WV5.out)
  have HC : Hid (∀ v : After V6, NetIs (fun g => ((False ∨ u6.w.heap.size ≤ g) ∨ u8.w.heap.size ≤ g) ∨ u10.w.heap.size ≤ g) v.w (.agg #[.slice qb7 2 qd7, .slice ab7 1 ad7]) ([sp u5.w.heap.size, sp u5.w.heap.size]) ([(1, 3)])) := hid fun v => hn9.below (b_then hCV6 v.2)
  have c70 : ∀ v : After V6, v.w.cell? ⟨u11.w.heap.size, 0, none⟩ = some (.slice qb7 2 qd7) := after_cell (by rw [hV6]; first | (simp; done) | omega | (simp; omega)) (by rw [hV6]; (repeat (first | with_reducible assumption | exact bn (by first | (simp; done) | omega | (simp; omega)) rfl | refine bo (by first | (simp; done) | omega | (simp; omega)) ?_)))
  have fc70 : ∀ v : After V6, v.w.frozen? ⟨u11.w.heap.size, 0, none⟩ = false := after_frozen (by rw [hV6]; first | (simp; done) | omega | (simp; omega)) (by rw [hV6]; (repeat (first | exact fn (by first | (simp; done) | omega | (simp; omega)) | refine fo (by first | (simp; done) | omega | (simp; omega)) ?_)))
  have c71 : ∀ v : After V6, v.w.cell? ⟨u11.w.heap.size, 1, none⟩ = some (.slice ab7 1 ad7) := after_cell (by rw [hV6]; first | (simp; done) | omega | (simp; omega)) (by rw [hV6]; (repeat (first | with_reducible assumption | exact bn (by first | (simp; done) | omega | (simp; omega)) rfl | refine bo (by first | (simp; done) | omega | (simp; omega)) ?_)))
  have fc71 : ∀ v : After V6, v.w.frozen? ⟨u11.w.heap.size, 1, none⟩ = false := after_frozen (by rw [hV6]; first | (simp; done) | omega | (simp; omega)) (by rw [hV6]; (repeat (first | exact fn (by first | (simp; done) | omega | (simp; omega)) | refine fo (by first | (simp; done) | omega | (simp; omega)) ?_)))
  have zc7 : ∀ v : After V6, u11.w.heap.size < v.w.heap.size := after_size (by rw [hV6]; first | (simp; done) | omega | (simp; omega))
  rw [← hV6]
  obtain ⟨u12, hu⟩ : ∃ u : After V6, u.w = V6 := ⟨After.here V6, rfl⟩
  rw [← hu]
  clear hu hV6 hCV6
  refine (Deliver_any _ [sp u5.w.heap.size, sp u5.w.heap.size] [] 0 _ _ (by simp) (by simp) (HB.out u12)).mono ?_
  rintro e w9 ⟨v9, rfl, hn9, hB9⟩
  obtain ⟨u13, rfl⟩ : ∃ y9 : After V6, w9 = y9.w := ⟨u12.on hB9, rfl⟩
  clear hB9
  rw [lq20, ll20] at hn9
  have hn9 : NetIs _ _ _ ([sp u5.w.heap.size]) ([]) := hn9
  obtain ⟨qb8, ab8, qd8, ad8, rfl⟩ := hn9.form' (n := 1) (m := 0) rfl rfl
  rw [ask20, del20]
  dsimp only [Pk.v, sp]
  have sc70u13 : u11.w.heap.size < u13.w.heap.size := by have := zc7 u13; omega
  have lc70u13 : u11.w.heap.size ≤ u13.w.heap.size := by have := zc7 u13; omega
  have sc71u13 : u11.w.heap.size < u13.w.heap.size + 1 := by have := zc7 u13; omega
  have lc71u13 : u11.w.heap.size ≤ u13.w.heap.size + 1 := by have := zc7 u13; omega
  have sc72u13 : u11.w.heap.size < u13.w.heap.size + 1 + 1 := by have := zc7 u13; omega
  have lc72u13 : u11.w.heap.size ≤ u13.w.heap.size + 1 + 1 := by have := zc7 u13; omega
  go_wp2_with fail
  obtain ⟨V7, hV7⟩ : ∃ V7, V7 = ((u13.w.alloc (.cells #[.int .i64 1, .int .i64 3, .slice (some ⟨u5.w.heap.size + 1, 0, none⟩) 1 1] 28)).alloc (.cells #[.slice qb8 1 qd8, .slice ab8 0 ad8] 25)) := ⟨_, rfl⟩
  have hCV7 : Below u13.w.heap.size u13.w V7 := by rw [hV7]; exact (by repeat (first | exact Below.refl _ _ | assumption | refine b_then ?_ (by assumption) | refine b_alloc ?_ _ | refine b_drewN ?_ _ | refine b_drew ?_ | refine b_set ?_ (by omega) _ | refine b_set ?_ (by simp) _))
  have hBV7 : Below V6.heap.size V6 V7 := b_then u13.w_below hCV7
  have yV7n := zn u13
  have yV7a := za u13
  have yV7b := zb u13
  have yV7c := zc u13
  have yV7d := zd u13
  have yV7x := zx u13
  have yV7p := zp u13
  have yV7a5 := za5 u13
  have yV7b6 := zb6 u13
  have yV7c7 := zc7 u13
  replace n0 := upc hBV7 n0
  replace fn0 := upf hBV7 fn0
  replace n1 := upc hBV7 n1
  replace fn1 := upf hBV7 fn1
  replace a0 := upc hBV7 a0
  replace fa0 := upf hBV7 fa0
  replace a1 := upc hBV7 a1
  replace fa1 := upf hBV7 fa1
  replace a2 := upc hBV7 a2
  replace fa2 := upf hBV7 fa2
  replace b0 := upc hBV7 b0
  replace fb0 := upf hBV7 fb0
  replace b1 := upc hBV7 b1
  replace fb1 := upf hBV7 fb1
  replace c0 := upc hBV7 c0
  replace fc0 := upf hBV7 fc0
  replace c1 := upc hBV7 c1
  replace fc1 := upf hBV7 fc1
  replace d0 := upc hBV7 d0
  replace fd0 := upf hBV7 fd0
  replace d1 := upc hBV7 d1
  replace fd1 := upf hBV7 fd1
  replace x0 := upc hBV7 x0
  replace fx0 := upf hBV7 fx0
  replace p0 := upc hBV7 p0
  replace fp0 := upf hBV7 fp0
  replace p1 := upc hBV7 p1
  replace fp1 := upf hBV7 fp1
  replace p2 := upc hBV7 p2
  replace fp2 := upf hBV7 fp2
  replace a50 := upc hBV7 a50
  replace fa50 := upf hBV7 fa50
  replace a51 := upc hBV7 a51
  replace fa51 := upf hBV7 fa51
  replace b60 := upc hBV7 b60
  replace fb60 := upf hBV7 fb60
  replace b61 := upc hBV7 b61
  replace fb61 := upf hBV7 fb61
  replace c70 := upc hBV7 c70
  replace fc70 := upf hBV7 fc70
  replace c71 := upc hBV7 c71
  replace fc71 := upf hBV7 fc71
  replace zn := upz hBV7 zn
  replace za := upz hBV7 za
  replace zb := upz hBV7 zb
  replace zc := upz hBV7 zc
  replace zd := upz hBV7 zd
  replace zx := upz hBV7 zx
  replace zp := upz hBV7 zp
  replace za5 := upz hBV7 za5
  replace zb6 := upz hBV7 zb6
  replace zc7 := upz hBV7 zc7
  replace Hz := hid (upn hBV7 Hz.out)
  replace HDp := hid (upd hBV7 HDp.out)
  replace HA := hid (upn hBV7 HA.out)
  replace HB := hid (upn hBV7 HB.out)
  replace HC := hid (upn hBV7 HC.out)
  have WV7 := hid (upb hBV7 WV6.out)
  have HE : Hid (∀ v : After V7, NetIs (fun g => ((False ∨ u6.w.heap.size ≤ g) ∨ u8.w.heap.size ≤ g) ∨ u12.w.heap.size ≤ g) v.w (.agg #[.slice qb8 1 qd8, .slice ab8 0 ad8]) ([sp u5.w.heap.size]) ([])) := hid fun v => hn9.below (b_then hCV7 v.2)
  have q80 : ∀ v : After V7, v.w.cell? ⟨u13.w.heap.size, 0, none⟩ = some (.int .i64 1) := after_cell (by rw [hV7]; first | (simp; done) | omega | (simp; omega)) (by rw [hV7]; (repeat (first | with_reducible assumption | exact bn (by first | (simp; done) | omega | (simp; omega)) rfl | refine bo (by first | (simp; done) | omega | (simp; omega)) ?_)))
  have fq80 : ∀ v : After V7, v.w.frozen? ⟨u13.w.heap.size, 0, none⟩ = false := after_frozen (by rw [hV7]; first | (simp; done) | omega | (simp; omega)) (by rw [hV7]; (repeat (first | exact fn (by first | (simp; done) | omega | (simp; omega)) | refine fo (by first | (simp; done) | omega | (simp; omega)) ?_)))
  have q81 : ∀ v : After V7, v.w.cell? ⟨u13.w.heap.size, 1, none⟩ = some (.int .i64 3) := after_cell (by rw [hV7]; first | (simp; done) | omega | (simp; omega)) (by rw [hV7]; (repeat (first | with_reducible assumption | exact bn (by first | (simp; done) | omega | (simp; omega)) rfl | refine bo (by first | (simp; done) | omega | (simp; omega)) ?_)))
  have fq81 : ∀ v : After V7, v.w.frozen? ⟨u13.w.heap.size, 1, none⟩ = false := after_frozen (by rw [hV7]; first | (simp; done) | omega | (simp; omega)) (by rw [hV7]; (repeat (first | exact fn (by first | (simp; done) | omega | (simp; omega)) | refine fo (by first | (simp; done) | omega | (simp; omega)) ?_)))
  have q82 : ∀ v : After V7, v.w.cell? ⟨u13.w.heap.size, 2, none⟩ = some (.slice (some ⟨u5.w.heap.size + 1, 0, none⟩) 1 1) := after_cell (by rw [hV7]; first | (simp; done) | omega | (simp; omega)) (by rw [hV7]; (repeat (first | with_reducible assumption | exact bn (by first | (simp; done) | omega | (simp; omega)) rfl | refine bo (by first | (simp; done) | omega | (simp; omega)) ?_)))
  have fq82 : ∀ v : After V7, v.w.frozen? ⟨u13.w.heap.size, 2, none⟩ = false := after_frozen (by rw [hV7]; first | (simp; done) | omega | (simp; omega)) (by rw [hV7]; (repeat (first | exact fn (by first | (simp; done) | omega | (simp; omega)) | refine fo (by first | (simp; done) | omega | (simp; omega)) ?_)))
  have zq8 : ∀ v : After V7, u13.w.heap.size < v.w.heap.size := after_size (by rw [hV7]; first | (simp; done) | omega | (simp; omega))
  have d80 : ∀ v : After V7, v.w.cell? ⟨u13.w.heap.size + 1, 0, none⟩ = some (.slice qb8 1 qd8) := after_cell (by rw [hV7]; first | (simp; done) | omega | (simp; omega)) (by rw [hV7]; (repeat (first | with_reducible assumption | exact bn (by first | (simp; done) | omega | (simp; omega)) rfl | refine bo (by first | (simp; done) | omega | (simp; omega)) ?_)))
  have fd80 : ∀ v : After V7, v.w.frozen? ⟨u13.w.heap.size + 1, 0, none⟩ = false := after_frozen (by rw [hV7]; first | (simp; done) | omega | (simp; omega)) (by rw [hV7]; (repeat (first | exact fn (by first | (simp; done) | omega | (simp; omega)) | refine fo (by first | (simp; done) | omega | (simp; omega)) ?_)))
  have d81 : ∀ v : After V7, v.w.cell? ⟨u13.w.heap.size + 1, 1, none⟩ = some (.slice ab8 0 ad8) := after_cell (by rw [hV7]; first | (simp; done) | omega | (simp; omega)) (by rw [hV7]; (repeat (first | with_reducible assumption | exact bn (by first | (simp; done) | omega | (simp; omega)) rfl | refine bo (by first | (simp; done) | omega | (simp; omega)) ?_)))
  have fd81 : ∀ v : After V7, v.w.frozen? ⟨u13.w.heap.size + 1, 1, none⟩ = false := after_frozen (by rw [hV7]; first | (simp; done) | omega | (simp; omega)) (by rw [hV7]; (repeat (first | exact fn (by first | (simp; done) | omega | (simp; omega)) | refine fo (by first | (simp; done) | omega | (simp; omega)) ?_)))
  have zd8 : ∀ v : After V7, u13.w.heap.size + 1 < v.w.heap.size := after_size (by rw [hV7]; first | (simp; done) | omega | (simp; omega))
  rw [← hV7]
  obtain ⟨u14, hu⟩ : ∃ u : After V7, u.w = V7 := ⟨After.here V7, rfl⟩
  rw [← hu]
  clear hu hV7 hCV7
  refine (Deliver_any _ [sp u5.w.heap.size, sp u5.w.heap.size] [(1, 3)] 1 _ _ (by simp) (by simp) (HC.out u14)).mono ?_
  rintro e w9 ⟨v9, rfl, hn9, hB9⟩
  obtain ⟨u15, rfl⟩ : ∃ y9 : After V7, w9 = y9.w := ⟨u14.on hB9, rfl⟩
  clear hB9
  rw [lq21, ll21] at hn9
  have hn9 : NetIs _ _ _ ([sp u5.w.heap.size]) ([(1, 3)]) := hn9
  obtain ⟨qb9, ab9, qd9, ad9, rfl⟩ := hn9.form' (n := 1) (m := 1) rfl rfl
  rw [ask21, del21]
  dsimp only [Pk.v, Pk.zero]
  have sn0u15 : w1.heap.size < u15.w.heap.size := by have := zn u15; omega
  have ln0u15 : w1.heap.size ≤ u15.w.heap.size := by have := zn u15; omega
  have sn1u15 : w1.heap.size < u15.w.heap.size + 1 := by have := zn u15; omega
  have ln1u15 : w1.heap.size ≤ u15.w.heap.size + 1 := by have := zn u15; omega
  have sn2u15 : w1.heap.size < u15.w.heap.size + 1 + 1 := by have := zn u15; omega
  have ln2u15 : w1.heap.size ≤ u15.w.heap.size + 1 + 1 := by have := zn u15; omega
  go_wp2_with fail
  obtain ⟨V8, hV8⟩ : ∃ V8, V8 = ((u15.w.alloc (.cells #[.int .i64 0, .int .i64 0, .slice none 0 0] 28)).alloc (.cells #[.slice qb9 1 qd9, .slice ab9 1 ad9] 25)) := ⟨_, rfl⟩
  have hCV8 : Below u15.w.heap.size u15.w V8 := by rw [hV8]; exact (by repeat (first | exact Below.refl _ _ | assumption | refine b_then ?_ (by assumption) | refine b_alloc ?_ _ | refine b_drewN ?_ _ | refine b_drew ?_ | refine b_set ?_ (by omega) _ | refine b_set ?_ (by simp) _))
  have hBV8 : Below V7.heap.size V7 V8 := b_then u15.w_below hCV8
  have yV8n := zn u15
  have yV8a := za u15
  have yV8b := zb u15
  have yV8c := zc u15
  have yV8d := zd u15
  have yV8x := zx u15
  have yV8p := zp u15
  have yV8a5 := za5 u15
  have yV8b6 := zb6 u15
  have yV8c7 := zc7 u15
  have yV8q8 := zq8 u15
  have yV8d8 := zd8 u15
  replace n0 := upc hBV8 n0
  replace fn0 := upf hBV8 fn0
  replace n1 := upc hBV8 n1
  replace fn1 := upf hBV8 fn1
  replace a0 := upc hBV8 a0
  replace fa0 := upf hBV8 fa0
  replace a1 := upc hBV8 a1
  replace fa1 := upf hBV8 fa1
  replace a2 := upc hBV8 a2
  replace fa2 := upf hBV8 fa2
  replace b0 := upc hBV8 b0
  replace fb0 := upf hBV8 fb0
  replace b1 := upc hBV8 b1
  replace fb1 := upf hBV8 fb1
  replace c0 := upc hBV8 c0
  replace fc0 := upf hBV8 fc0
  replace c1 := upc hBV8 c1
  replace fc1 := upf hBV8 fc1
  replace d0 := upc hBV8 d0
  replace fd0 := upf hBV8 fd0
  replace d1 := upc hBV8 d1
  replace fd1 := upf hBV8 fd1
  replace x0 := upc hBV8 x0
  replace fx0 := upf hBV8 fx0
  replace p0 := upc hBV8 p0
  replace fp0 := upf hBV8 fp0
  replace p1 := upc hBV8 p1
  replace fp1 := upf hBV8 fp1
  replace p2 := upc hBV8 p2
  replace fp2 := upf hBV8 fp2
  replace a50 := upc hBV8 a50
  replace fa50 := upf hBV8 fa50
  replace a51 := upc hBV8 a51
  replace fa51 := upf hBV8 fa51
  replace b60 := upc hBV8 b60
  replace fb60 := upf hBV8 fb60
  replace b61 := upc hBV8 b61
  replace fb61 := upf hBV8 fb61
  replace c70 := upc hBV8 c70
  replace fc70 := upf hBV8 fc70
  replace c71 := upc hBV8 c71
  replace fc71 := upf hBV8 fc71
  replace q80 := upc hBV8 q80
  replace fq80 := upf hBV8 fq80
  replace q81 := upc hBV8 q81
  replace fq81 := upf hBV8 fq81
  replace q82 := upc hBV8 q82
  replace fq82 := upf hBV8 fq82
  replace d80 := upc hBV8 d80
  replace fd80 := upf hBV8 fd80
  replace d81 := upc hBV8 d81
  replace fd81 := upf hBV8 fd81
  replace zn := upz hBV8 zn
  replace za := upz hBV8 za
  replace zb := upz hBV8 zb
  replace zc := upz hBV8 zc
  replace zd := upz hBV8 zd
  replace zx := upz hBV8 zx
  replace zp := upz hBV8 zp
  replace za5 := upz hBV8 za5
  replace zb6 := upz hBV8 zb6
  replace zc7 := upz hBV8 zc7
  replace zq8 := upz hBV8 zq8
  replace zd8 := upz hBV8 zd8
  replace Hz := hid (upn hBV8 Hz.out)
  replace HDp := hid (upd hBV8 HDp.out)
  replace HA := hid (upn hBV8 HA.out)
  replace HB := hid (upn hBV8 HB.out)
  replace HC := hid (upn hBV8 HC.out)
  replace HE := hid (upn hBV8 HE.out)
  have WV8 := hid (upb hBV8 WV7.out)
  have r90 : ∀ v : After V8, v.w.cell? ⟨u15.w.heap.size, 0, none⟩ = some (.int .i64 0) := after_cell (by rw [hV8]; first | (simp; done) | omega | (simp; omega)) (by rw [hV8]; (repeat (first | with_reducible assumption | exact bn (by first | (simp; done) | omega | (simp; omega)) rfl | refine bo (by first | (simp; done) | omega | (simp; omega)) ?_)))
  have fr90 : ∀ v : After V8, v.w.frozen? ⟨u15.w.heap.size, 0, none⟩ = false := after_frozen (by rw [hV8]; first | (simp; done) | omega | (simp; omega)) (by rw [hV8]; (repeat (first | exact fn (by first | (simp; done) | omega | (simp; omega)) | refine fo (by first | (simp; done) | omega | (simp; omega)) ?_)))
  have r91 : ∀ v : After V8, v.w.cell? ⟨u15.w.heap.size, 1, none⟩ = some (.int .i64 0) := after_cell (by rw [hV8]; first | (simp; done) | omega | (simp; omega)) (by rw [hV8]; (repeat (first | with_reducible assumption | exact bn (by first | (simp; done) | omega | (simp; omega)) rfl | refine bo (by first | (simp; done) | omega | (simp; omega)) ?_)))
  have fr91 : ∀ v : After V8, v.w.frozen? ⟨u15.w.heap.size, 1, none⟩ = false := after_frozen (by rw [hV8]; first | (simp; done) | omega | (simp; omega)) (by rw [hV8]; (repeat (first | exact fn (by first | (simp; done) | omega | (simp; omega)) | refine fo (by first | (simp; done) | omega | (simp; omega)) ?_)))
  have r92 : ∀ v : After V8, v.w.cell? ⟨u15.w.heap.size, 2, none⟩ = some (.slice none 0 0) := after_cell (by rw [hV8]; first | (simp; done) | omega | (simp; omega)) (by rw [hV8]; (repeat (first | with_reducible assumption | exact bn (by first | (simp; done) | omega | (simp; omega)) rfl | refine bo (by first | (simp; done) | omega | (simp; omega)) ?_)))
  have fr92 : ∀ v : After V8, v.w.frozen? ⟨u15.w.heap.size, 2, none⟩ = false := after_frozen (by rw [hV8]; first | (simp; done) | omega | (simp; omega)) (by rw [hV8]; (repeat (first | exact fn (by first | (simp; done) | omega | (simp; omega)) | refine fo (by first | (simp; done) | omega | (simp; omega)) ?_)))
  have zr9 : ∀ v : After V8, u15.w.heap.size < v.w.heap.size := after_size (by rw [hV8]; first | (simp; done) | omega | (simp; omega))
  have e90 : ∀ v : After V8, v.w.cell? ⟨u15.w.heap.size + 1, 0, none⟩ = some (.slice qb9 1 qd9) := after_cell (by rw [hV8]; first | (simp; done) | omega | (simp; omega)) (by rw [hV8]; (repeat (first | with_reducible assumption | exact bn (by first | (simp; done) | omega | (simp; omega)) rfl | refine bo (by first | (simp; done) | omega | (simp; omega)) ?_)))
  have fe90 : ∀ v : After V8, v.w.frozen? ⟨u15.w.heap.size + 1, 0, none⟩ = false := after_frozen (by rw [hV8]; first | (simp; done) | omega | (simp; omega)) (by rw [hV8]; (repeat (first | exact fn (by first | (simp; done) | omega | (simp; omega)) | refine fo (by first | (simp; done) | omega | (simp; omega)) ?_)))
  have e91 : ∀ v : After V8, v.w.cell? ⟨u15.w.heap.size + 1, 1, none⟩ = some (.slice ab9 1 ad9) := after_cell (by rw [hV8]; first | (simp; done) | omega | (simp; omega)) (by rw [hV8]; (repeat (first | with_reducible assumption | exact bn (by first | (simp; done) | omega | (simp; omega)) rfl | refine bo (by first | (simp; done) | omega | (simp; omega)) ?_)))
  have fe91 : ∀ v : After V8, v.w.frozen? ⟨u15.w.heap.size + 1, 1, none⟩ = false := after_frozen (by rw [hV8]; first | (simp; done) | omega | (simp; omega)) (by rw [hV8]; (repeat (first | exact fn (by first | (simp; done) | omega | (simp; omega)) | refine fo (by first | (simp; done) | omega | (simp; omega)) ?_)))
  have ze9 : ∀ v : After V8, u15.w.heap.size + 1 < v.w.heap.size := after_size (by rw [hV8]; first | (simp; done) | omega | (simp; omega))
  rw [← hV8]
  obtain ⟨u16, hu⟩ : ∃ u : After V8, u.w = V8 := ⟨After.here V8, rfl⟩
  rw [← hu]
  clear hu hV8 hCV8
  refine (met (Check_net (Hz.out u16) (by simp) (by simp))).mono ?_
  rintro e _ ⟨rfl, u17, rfl⟩
  rw [chk00]
  go_wp2_with fail
  refine (met (samePacket_any (fun _ => [7]) (sp u5.w.heap.size) (sp u5.w.heap.size) _ (HDp.out u17) (HDp.out u17))).mono ?_
  rintro e _ ⟨rfl, u18, rfl⟩
  rw [decide_eq_true rfl]
  go_wp2_with fail
  refine (met (samePacket_any (fun _ => []) Pk.zero Pk.zero _ ⟨rfl, Rd.nil⟩ ⟨rfl, Rd.nil⟩)).mono ?_
  rintro e _ ⟨rfl, u19, rfl⟩
  rw [decide_eq_true rfl]
  go_wp2_with fail
  have hdd : ∀ p, p ∈ [sp u5.w.heap.size] ∨ p ∈ [sp u5.w.heap.size] → DataIs u19.w p [7] := by
    intro p h; have e : p = sp u5.w.heap.size := by simpa using h
    rw [e]; exact HDp.out u19
  refine (met (same_any (fun _ => [7]) [sp u5.w.heap.size] [sp u5.w.heap.size] [] [] _ _ _ _ _ (by simp) (by simp) (HE.out u19) (HA.out u19) hdd)).mono ?_
  rintro e _ ⟨rfl, u20, rfl⟩
  rw [decide_eq_true ⟨rfl, rfl⟩]
  obtain ⟨bb7, of7, hab7, -⟩ := (net_row (HC.out u20)).addr (by simp [lkc])
  have RC := hid (fun v : After V8 => net_row (HC.out v))
  rw [hab7] at RC
  have k0 : ∀ v : After V8, v.w.cell? ⟨bb7, of7, none⟩ = some (.int .i64 1) := fun v => by simpa using after_row RC.out (j := 0) rfl v
  have k1 : ∀ v : After V8, v.w.cell? ⟨bb7, of7 + 1, none⟩ = some (.int .i64 3) := after_row RC.out (j := 1) rfl
  rw [hab7] at c71
  have q0 := mix55
  have q1 := eq55
  have W0 := WV8.out u20
  go_wp2_with fail
  exact bodyPost_ret (v := .bool true) (by simp [results, Try.results9, go_sem]) rfl ⟨rfl, b_then hB1 W0⟩
end Go.Proofs.Ytmikhkmdcpgkfaa
