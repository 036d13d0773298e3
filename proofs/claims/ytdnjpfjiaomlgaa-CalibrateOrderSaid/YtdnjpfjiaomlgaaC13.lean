/- Records added one by one. -/
import Derived.Test.YtdnjpfjiaomlgaaC7
import Derived.IntWalk
namespace Go.Proofs.Ytdnjpfjiaomlgaa
open Go.RowKit
open Go.Lib (hid)

theorem allA_none_up {l : List Rc} {j n : Nat} (h : allA l j = none) (hjn : j ≤ n) : allA l n = none := by
  induction n with
  | zero => rw [show (0 : Nat) = j by omega]; exact h
  | succ n ih =>
    by_cases he : j = n + 1
    · rw [← he]; exact h
    · unfold allA
      rw [ih (by omega)]
def OAL (l : List Rc) (n : Nat) (V : World) (s i : Value) (wr : World) : Prop := ∃ (j : Nat) (z : After V) (x : List Rc), j ≤ n ∧ i = .int .i64 j ∧ wr = z.w ∧ Hid (allA l j = some x) ∧ RcIs z.w s x
set_option maxRecDepth 100000 in
set_option maxHeartbeats 4000000 in
theorem ordadd_any (l : List Rc) (nn : Nat) (hnn : l.length = nn) (a : Option Addr) (c : Nat) (w : World) (hn : nn ≤ 40) (hr : Rd w a (l.flatMap Rc.cs)) :
    Calls Try.prog 20 #[.slice a nn c] w fun e w' => ∃ v, e = .returned (.tuple #[v, .bool (allA l nn).isSome]) ∧ RcIs w' v ((allA l nn).getD []) ∧ Below w.heap.size w w' := by
  have HR := hid (after_rd hr); clear hr
  have HN := hid hnn; clear hnn
  go_enter Try.func20, Try.ntmps20
  go_wp2_with fail
  go_loopw [2, 10] (fun s i wr => OAL l nn w s i wr) (fun _ i _ => nn - (intOf i).toNat)
  case atStart => exact ⟨0, After.here w, [], by omega, rfl, rfl, hid rfl, RcIs.nil _⟩
  case round =>
    obtain ⟨j, z, x, hj, rfl, rfl, hA, his⟩ := hrel
    have HIS := hid his
    have hxl : x.length = j := (allA_some (by rw [HN.out]; exact hj) (by rw [HN.out]; omega) hA.out).2.1
    obtain ⟨xa, xc, rfl, hxr, hxc, hxn⟩ := his.form hxl
    clear his
    by_cases hlt' : j < nn
    case neg =>
      have d1 : decide ((j : Int) < (nn : Int)) = false := decide_eq_false (by omega)
      have d1' : decide (j < nn) = false := decide_eq_false (by omega)
      have hjn : j = nn := by omega
      have HQ := hid (show allA l nn = some x by rw [← hjn]; exact hA.out)
      clear hjn hxr hxn
      go_wp2_with fail
      exact bodyPost_ret (v := .tuple #[.slice xa j xc, .bool true]) (by simp [results, Try.results20, go_sem]) rfl ⟨_, by rw [HQ.out]; rfl, by rw [HQ.out]; exact HIS.out, z.2⟩
    have hlt : j < l.length := by rw [HN.out]; exact hlt'
    have d1 : decide ((j : Int) < (nn : Int)) = true := decide_eq_true (by omega)
    have d1' : decide (j < nn) = true := decide_eq_true (by omega)
    have hjj : (j : Int) < (nn : Int) := by omega
    obtain ⟨b, off, rfl, hb⟩ := (HR.out z).addr (by rw [flat_len Rc.cs 5 Rc.c5]; omega)
    have RZ := hid (fun v : After z.w => HR.out (z.on v.2))
    have HXR := hid hxr; have HXN := hid hxn; have HXL := hid hxl
    clear hxr hxn hxl
    obtain ⟨⟨xd, xf, xk, xi, xo⟩, hx⟩ : ∃ t, rc l j = t := ⟨_, rfl⟩
    have x0 : z.w.cell? ⟨b, off + j * 5, none⟩ = some (.int .i64 xd) := rc_cell RZ.out (j := j) (hlt) 0 (by decide) (by rw [hx]; rfl) rfl (After.here _)
    have x1 : z.w.cell? ⟨b, off + j * 5 + 1, none⟩ = some (.int .i64 xf) := rc_cell RZ.out (j := j) (hlt) 1 (by decide) (by rw [hx]; rfl) (by omega) (After.here _)
    have x2 : z.w.cell? ⟨b, off + j * 5 + 2, none⟩ = some (.int .i64 xk) := rc_cell RZ.out (j := j) (hlt) 2 (by decide) (by rw [hx]; rfl) (by omega) (After.here _)
    have x3 : z.w.cell? ⟨b, off + j * 5 + 3, none⟩ = some (.int .i64 xi) := rc_cell RZ.out (j := j) (hlt) 3 (by decide) (by rw [hx]; rfl) (by omega) (After.here _)
    have x4 : z.w.cell? ⟨b, off + j * 5 + 4, none⟩ = some (.int .i64 xo) := rc_cell RZ.out (j := j) (hlt) 4 (by decide) (by rw [hx]; rfl) (by omega) (After.here _)
    have Hx := hid hx; clear hx
    go_upto_region 4 with (fail)
    obtain ⟨V, hV⟩ : ∃ V, V = z.w.alloc (.cells #[.int .i64 xd, .int .i64 xf, .int .i64 xk, .int .i64 xi, .int .i64 xo] 24) := ⟨_, rfl⟩
    have hzV : Below z.w.heap.size z.w V := by rw [hV]; exact b_alloc (Below.refl _ _) _
    have hBV : Below w.heap.size w V := b_then z.2 hzV
    have y0 : V.cell? ⟨z.w.heap.size, 0, none⟩ = some (.int .i64 xd) := by rw [hV]; exact bn rfl rfl
    have y1 : V.cell? ⟨z.w.heap.size, 1, none⟩ = some (.int .i64 xf) := by rw [hV]; exact bn rfl rfl
    have y2 : V.cell? ⟨z.w.heap.size, 2, none⟩ = some (.int .i64 xk) := by rw [hV]; exact bn rfl rfl
    have y3 : V.cell? ⟨z.w.heap.size, 3, none⟩ = some (.int .i64 xi) := by rw [hV]; exact bn rfl rfl
    have y4 : V.cell? ⟨z.w.heap.size, 4, none⟩ = some (.int .i64 xo) := by rw [hV]; exact bn rfl rfl
    rw [← hV]
    clear hV x0 x1 x2 x3 x4
    go_wp2_with fail
    refine (add_any x j HXL.out xa xc ⟨xd, xf, xk, xi, xo⟩ HXN.out V (by omega) (HXR.out.below hzV)).mono ?_
    rintro e w9 ⟨v9, rfl, hi9, hB9⟩
    obtain ⟨u9, rfl⟩ : ∃ y : After w, w9 = y.w := ⟨⟨w9, b_then hBV hB9⟩, rfl⟩
    by_cases hae : addE x ⟨xd, xf, xk, xi, xo⟩ = 0
    · have HQ := hid (show allA l (j + 1) = some (addL x ⟨xd, xf, xk, xi, xo⟩) by unfold allA; rw [hA.out]; dsimp only; rw [Hx.out, if_pos hae])
      rw [addV, if_pos hae] at hi9
      rw [hae]
      have HI9 := hid hi9
      clear hae hi9 hB9
      go_wp2_with fail
      go_roundw
      case rel => exact ⟨j + 1, u9, _, by omega, by go_num, rfl, HQ, HI9.out⟩
      case measure => first | (simp [intOf]; done) | (simp [intOf]; omega)
    · have HQ := hid (show allA l nn = none from allA_none_up (j := j + 1) (by unfold allA; rw [hA.out]; dsimp only; rw [Hx.out, if_neg hae]) (by omega))
      have hne : (addE x ⟨xd, xf, xk, xi, xo⟩ != 0) = true := by simpa using hae
      clear hae hi9 hB9
      go_wp2_with fail
      exact bodyPost_ret (v := .tuple #[.slice none 0 0, .bool false]) (by simp [results, Try.results20, go_sem]) rfl ⟨_, by rw [HQ.out]; rfl, by rw [HQ.out]; exact RcIs.nil _, u9.2⟩
end Go.Proofs.Ytdnjpfjiaomlgaa
