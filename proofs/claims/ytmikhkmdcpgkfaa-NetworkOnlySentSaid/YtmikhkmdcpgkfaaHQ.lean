/- What happens to a net: f27. -/
import Derived.Test.YtmikhkmdcpgkfaaHP
import Derived.Test.YtmikhkmdcpgkfaaX
import Derived.Test.YtmikhkmdcpgkfaaS
import Derived.Deep.DeepCutAuto
import Derived.Deep.CutBlock
namespace Go.Proofs.Ytmikhkmdcpgkfaa
open Go.RowKit
open Go.Lib (hid)

@[irreducible] def HapI (V : World) (q : Value) (wx : World) : Prop := ∃ (i : Int) (y : After V), q = .int .i64 i ∧ wx = y.w
theorem HapI.mk {V : World} (i : Int) (y : After V) : HapI V (.int .i64 i) y.w := by unfold HapI; exact ⟨i, y, rfl, rfl⟩
theorem HapI.of {V : World} {q : Value} {wx : World} (h : HapI V q wx) : ∃ (i : Int) (y : After V), q = .int .i64 i ∧ wx = y.w := by unfold HapI at h; exact h
/-- Behind the switch. -/
@[irreducible] def HapC (ok : Nat → Prop) (k : Int) (ps : List Pk) (ls : List (Int × Int)) (w V : World) (bx bp : Nat) (q : Value) (wx : World) : Prop := ∃ (Q : List Pk) (L : List (Int × Int)) (P : Pk) (E : Int) (np : Pk) (bs : List UInt8) (n m : Nat) (qa aa : Option Addr) (qc ac : Nat), q = .int .i64 E ∧ Q.length = n ∧ L.length = m ∧ wx.cell? ⟨bx, 0, none⟩ = some (.slice qa n qc) ∧ wx.cell? ⟨bx, 1, none⟩ = some (.slice aa m ac) ∧ wx.cell? ⟨bp, 0, none⟩ = some (.int .i64 P.fr) ∧ wx.cell? ⟨bp, 1, none⟩ = some (.int .i64 P.to) ∧ wx.cell? ⟨bp, 2, none⟩ = some (.slice P.da P.dn P.dc) ∧ (wx.frozen? ⟨bx, 0, none⟩ = false ∧ wx.frozen? ⟨bx, 1, none⟩ = false ∧ wx.frozen? ⟨bp, 0, none⟩ = false ∧ wx.frozen? ⟨bp, 1, none⟩ = false ∧ wx.frozen? ⟨bp, 2, none⟩ = false) ∧ NetIs (fun g => (ok g ∨ V.heap.size ≤ g)) wx (.agg #[.slice qa n qc, .slice aa m ac]) Q L ∧ DataIs wx np bs ∧ (∀ g off f, np.da = some ⟨g, off, f⟩ → V.heap.size ≤ g) ∧ HapOk k ps ls np Q L P E ∧ Below w.heap.size w wx ∧ bx < wx.heap.size ∧ bp < wx.heap.size
theorem HapC.of {ok : Nat → Prop} {k : Int} {ps : List Pk} {ls : List (Int × Int)} {w V : World} {bx bp : Nat} {q : Value} {wx : World} (h : HapC ok k ps ls w V bx bp q wx) : ∃ (Q : List Pk) (L : List (Int × Int)) (P : Pk) (E : Int) (np : Pk) (bs : List UInt8) (n m : Nat) (qa aa : Option Addr) (qc ac : Nat), q = .int .i64 E ∧ Q.length = n ∧ L.length = m ∧ wx.cell? ⟨bx, 0, none⟩ = some (.slice qa n qc) ∧ wx.cell? ⟨bx, 1, none⟩ = some (.slice aa m ac) ∧ wx.cell? ⟨bp, 0, none⟩ = some (.int .i64 P.fr) ∧ wx.cell? ⟨bp, 1, none⟩ = some (.int .i64 P.to) ∧ wx.cell? ⟨bp, 2, none⟩ = some (.slice P.da P.dn P.dc) ∧ (wx.frozen? ⟨bx, 0, none⟩ = false ∧ wx.frozen? ⟨bx, 1, none⟩ = false ∧ wx.frozen? ⟨bp, 0, none⟩ = false ∧ wx.frozen? ⟨bp, 1, none⟩ = false ∧ wx.frozen? ⟨bp, 2, none⟩ = false) ∧ NetIs (fun g => (ok g ∨ V.heap.size ≤ g)) wx (.agg #[.slice qa n qc, .slice aa m ac]) Q L ∧ DataIs wx np bs ∧ (∀ g off f, np.da = some ⟨g, off, f⟩ → V.heap.size ≤ g) ∧ HapOk k ps ls np Q L P E ∧ Below w.heap.size w wx ∧ bx < wx.heap.size ∧ bp < wx.heap.size := by
  unfold HapC at h
  exact h
theorem HapC.mk {ok : Nat → Prop} {k : Int} {ps : List Pk} {ls : List (Int × Int)} {w V y : World} {bx bp : Nat} {Q : List Pk} {L : List (Int × Int)} {P : Pk} {E : Int} {np : Pk} {bs : List UInt8} {n m : Nat} {qa aa : Option Addr} {qc ac : Nat} {c0 c1 : Value} (hn : Q.length = n) (hm : L.length = m)
    (hnet : NetIs (fun g => ok g ∨ V.heap.size ≤ g) y (.agg #[.slice qa n qc, .slice aa m ac]) Q L) (hB : Below w.heap.size w y) (hb : w.heap.size ≤ bx ∧ bx < V.heap.size ∧ bx ≠ bp) (hok : ∀ g, ok g → g < w.heap.size)
    (x0 : y.cell? ⟨bx, 0, none⟩ = some c0) (x1 : y.cell? ⟨bx, 1, none⟩ = some c1) (fx0 : y.frozen? ⟨bx, 0, none⟩ = false) (fx1 : y.frozen? ⟨bx, 1, none⟩ = false) (p0 : y.cell? ⟨bp, 0, none⟩ = some (.int .i64 P.fr)) (p1 : y.cell? ⟨bp, 1, none⟩ = some (.int .i64 P.to)) (p2 : y.cell? ⟨bp, 2, none⟩ = some (.slice P.da P.dn P.dc)) (fp0 : y.frozen? ⟨bp, 0, none⟩ = false) (fp1 : y.frozen? ⟨bp, 1, none⟩ = false) (fp2 : y.frozen? ⟨bp, 2, none⟩ = false)
    (hs : bp < y.heap.size) (hd : DataIs y np bs) (hdf : ∀ g off f, np.da = some ⟨g, off, f⟩ → V.heap.size ≤ g) (H : HapOk k ps ls np Q L P E) (Z : World) (hZ : Z = (y.setCell ⟨bx, 0, none⟩ (.slice qa n qc)).setCell ⟨bx, 1, none⟩ (.slice aa m ac)) : HapC ok k ps ls w V bx bp (.int .i64 E) Z := by
  subst hZ
  unfold HapC
  have hno : ¬ (ok bx ∨ V.heap.size ≤ bx) := fun h => h.elim (fun h => by have := hok _ h; omega) (fun h => by omega)
  have hbx := cell_lt x0
  refine ⟨Q, L, P, E, np, bs, n, m, qa, aa, qc, ac, rfl, hn, hm, st_off _ (.inl (by decide)) (st_hit _ x0), st_hit _ (st_off _ (.inl (by decide)) x1), st_off _ (.inr hb.2.2) (st_off _ (.inr hb.2.2) p0), st_off _ (.inr hb.2.2) (st_off _ (.inr hb.2.2) p1), st_off _ (.inr hb.2.2) (st_off _ (.inr hb.2.2) p2), ⟨sf _ (sf _ fx0), sf _ (sf _ fx1), sf _ (sf _ fp0), sf _ (sf _ fp1), sf _ (sf _ fp2)⟩, (hnet.set hno _).set hno _, ⟨hd.1, (hd.2.set (fun g off e he => ?_) _).set (fun g off e he => ?_) _⟩, hdf, H, b_set (b_set hB (by omega) _) (by omega) _, by simpa using hbx, by simpa using hs⟩
  · have := hdf g off none e; omega
  · have := hdf g off none e; omega
set_option maxRecDepth 100000 in
set_option maxHeartbeats 8000000 in
theorem happens_any (ok : Nat → Prop) (ps : List Pk) (ls : List (Int × Int)) (v : Value) (kd t a b dt : Int) (w : World) (hp : ps.length ≤ 1000) (hl6 : ls.length ≤ 256) (hok : ∀ g, ok g → g < w.heap.size) (hv : NetIs ok w v ps ls)
    (k0 : 0 ≤ kd) (k1 : kd < 256) (t0 : 0 ≤ t) (t1 : t < 256) (a0 : 0 ≤ a) (a1 : a < 256) (b0 : 0 ≤ b) (b1 : b < 256) (d0 : 0 ≤ dt) (d1 : dt < 256) :
    Calls Try.prog 27 #[v, .agg #[.int .u8 kd, .int .u8 t, .int .u8 a, .int .u8 b, .int .u8 dt]] w fun e w' => ∃ (v' : Value) (Q : List Pk) (L : List (Int × Int)) (P : Pk) (E : Int) (np : Pk) (bs : List UInt8), e = .returned (.tuple #[v', P.v, .int .i64 E]) ∧ NetIs (fun g => ok g ∨ w.heap.size ≤ g) w' v' Q L ∧ DataIs w' np bs ∧ (∀ g off f, np.da = some ⟨g, off, f⟩ → w.heap.size ≤ g) ∧ HapOk (kd % 6) ps ls np Q L P E ∧ Below w.heap.size w w' := by
  have hl : ls.length ≤ 1000 := by omega
  obtain ⟨n, hn⟩ : ∃ n, ps.length = n := ⟨_, rfl⟩
  obtain ⟨l, hll⟩ : ∃ n, ls.length = n := ⟨_, rfl⟩
  obtain ⟨qa, aa, qc, ac, rfl⟩ := hv.form' hn hll
  have HV := hid hv; have HPN := hid hn; have HLN := hid hll; have HOKB := hid hok
  clear hv hn hll hok
  go_enter Try.func27, Try.ntmps27
  go_upto_region 1 with (fail)
  obtain ⟨V, hV⟩ : ∃ V, V = ((((w.alloc (.cells #[.slice qa n qc, .slice aa l ac] 25)).alloc (.cells #[.int .u8 kd, .int .u8 t, .int .u8 a, .int .u8 b, .int .u8 dt] 52)).alloc (.cells #[.slice none 0 0, .slice none 0 0] 25)).alloc (.cells #[.int .i64 0, .int .i64 0, .slice none 0 0] 28)) := ⟨_, rfl⟩
  have n0 : ∀ v : After V, v.w.cell? ⟨w.heap.size, 0, none⟩ = some (.slice qa n qc) := after_cell (by rw [hV]; first | (simp; done) | omega | (simp; omega)) (by rw [hV]; (repeat (first | with_reducible assumption | exact bn (by first | (simp; done) | omega | (simp; omega)) rfl | refine bo (by first | (simp; done) | omega | (simp; omega)) ?_)))
  have fn0 : ∀ v : After V, v.w.frozen? ⟨w.heap.size, 0, none⟩ = false := after_frozen (by rw [hV]; first | (simp; done) | omega | (simp; omega)) (by rw [hV]; (repeat (first | exact fn (by first | (simp; done) | omega | (simp; omega)) | refine fo (by first | (simp; done) | omega | (simp; omega)) ?_)))
  have n1 : ∀ v : After V, v.w.cell? ⟨w.heap.size, 1, none⟩ = some (.slice aa l ac) := after_cell (by rw [hV]; first | (simp; done) | omega | (simp; omega)) (by rw [hV]; (repeat (first | with_reducible assumption | exact bn (by first | (simp; done) | omega | (simp; omega)) rfl | refine bo (by first | (simp; done) | omega | (simp; omega)) ?_)))
  have fn1 : ∀ v : After V, v.w.frozen? ⟨w.heap.size, 1, none⟩ = false := after_frozen (by rw [hV]; first | (simp; done) | omega | (simp; omega)) (by rw [hV]; (repeat (first | exact fn (by first | (simp; done) | omega | (simp; omega)) | refine fo (by first | (simp; done) | omega | (simp; omega)) ?_)))
  have zn : ∀ v : After V, w.heap.size < v.w.heap.size := after_size (by rw [hV]; first | (simp; done) | omega | (simp; omega))
  have m0 : ∀ v : After V, v.w.cell? ⟨w.heap.size + 1, 0, none⟩ = some (.int .u8 kd) := after_cell (by rw [hV]; first | (simp; done) | omega | (simp; omega)) (by rw [hV]; (repeat (first | with_reducible assumption | exact bn (by first | (simp; done) | omega | (simp; omega)) rfl | refine bo (by first | (simp; done) | omega | (simp; omega)) ?_)))
  have fm0 : ∀ v : After V, v.w.frozen? ⟨w.heap.size + 1, 0, none⟩ = false := after_frozen (by rw [hV]; first | (simp; done) | omega | (simp; omega)) (by rw [hV]; (repeat (first | exact fn (by first | (simp; done) | omega | (simp; omega)) | refine fo (by first | (simp; done) | omega | (simp; omega)) ?_)))
  have m1 : ∀ v : After V, v.w.cell? ⟨w.heap.size + 1, 1, none⟩ = some (.int .u8 t) := after_cell (by rw [hV]; first | (simp; done) | omega | (simp; omega)) (by rw [hV]; (repeat (first | with_reducible assumption | exact bn (by first | (simp; done) | omega | (simp; omega)) rfl | refine bo (by first | (simp; done) | omega | (simp; omega)) ?_)))
  have fm1 : ∀ v : After V, v.w.frozen? ⟨w.heap.size + 1, 1, none⟩ = false := after_frozen (by rw [hV]; first | (simp; done) | omega | (simp; omega)) (by rw [hV]; (repeat (first | exact fn (by first | (simp; done) | omega | (simp; omega)) | refine fo (by first | (simp; done) | omega | (simp; omega)) ?_)))
  have m2 : ∀ v : After V, v.w.cell? ⟨w.heap.size + 1, 2, none⟩ = some (.int .u8 a) := after_cell (by rw [hV]; first | (simp; done) | omega | (simp; omega)) (by rw [hV]; (repeat (first | with_reducible assumption | exact bn (by first | (simp; done) | omega | (simp; omega)) rfl | refine bo (by first | (simp; done) | omega | (simp; omega)) ?_)))
  have fm2 : ∀ v : After V, v.w.frozen? ⟨w.heap.size + 1, 2, none⟩ = false := after_frozen (by rw [hV]; first | (simp; done) | omega | (simp; omega)) (by rw [hV]; (repeat (first | exact fn (by first | (simp; done) | omega | (simp; omega)) | refine fo (by first | (simp; done) | omega | (simp; omega)) ?_)))
  have m3 : ∀ v : After V, v.w.cell? ⟨w.heap.size + 1, 3, none⟩ = some (.int .u8 b) := after_cell (by rw [hV]; first | (simp; done) | omega | (simp; omega)) (by rw [hV]; (repeat (first | with_reducible assumption | exact bn (by first | (simp; done) | omega | (simp; omega)) rfl | refine bo (by first | (simp; done) | omega | (simp; omega)) ?_)))
  have fm3 : ∀ v : After V, v.w.frozen? ⟨w.heap.size + 1, 3, none⟩ = false := after_frozen (by rw [hV]; first | (simp; done) | omega | (simp; omega)) (by rw [hV]; (repeat (first | exact fn (by first | (simp; done) | omega | (simp; omega)) | refine fo (by first | (simp; done) | omega | (simp; omega)) ?_)))
  have m4 : ∀ v : After V, v.w.cell? ⟨w.heap.size + 1, 4, none⟩ = some (.int .u8 dt) := after_cell (by rw [hV]; first | (simp; done) | omega | (simp; omega)) (by rw [hV]; (repeat (first | with_reducible assumption | exact bn (by first | (simp; done) | omega | (simp; omega)) rfl | refine bo (by first | (simp; done) | omega | (simp; omega)) ?_)))
  have fm4 : ∀ v : After V, v.w.frozen? ⟨w.heap.size + 1, 4, none⟩ = false := after_frozen (by rw [hV]; first | (simp; done) | omega | (simp; omega)) (by rw [hV]; (repeat (first | exact fn (by first | (simp; done) | omega | (simp; omega)) | refine fo (by first | (simp; done) | omega | (simp; omega)) ?_)))
  have zm : ∀ v : After V, w.heap.size + 1 < v.w.heap.size := after_size (by rw [hV]; first | (simp; done) | omega | (simp; omega))
  have x0 : ∀ v : After V, v.w.cell? ⟨w.heap.size + 1 + 1, 0, none⟩ = some (.slice none 0 0) := after_cell (by rw [hV]; first | (simp; done) | omega | (simp; omega)) (by rw [hV]; (repeat (first | with_reducible assumption | exact bn (by first | (simp; done) | omega | (simp; omega)) rfl | refine bo (by first | (simp; done) | omega | (simp; omega)) ?_)))
  have fx0 : ∀ v : After V, v.w.frozen? ⟨w.heap.size + 1 + 1, 0, none⟩ = false := after_frozen (by rw [hV]; first | (simp; done) | omega | (simp; omega)) (by rw [hV]; (repeat (first | exact fn (by first | (simp; done) | omega | (simp; omega)) | refine fo (by first | (simp; done) | omega | (simp; omega)) ?_)))
  have x1 : ∀ v : After V, v.w.cell? ⟨w.heap.size + 1 + 1, 1, none⟩ = some (.slice none 0 0) := after_cell (by rw [hV]; first | (simp; done) | omega | (simp; omega)) (by rw [hV]; (repeat (first | with_reducible assumption | exact bn (by first | (simp; done) | omega | (simp; omega)) rfl | refine bo (by first | (simp; done) | omega | (simp; omega)) ?_)))
  have fx1 : ∀ v : After V, v.w.frozen? ⟨w.heap.size + 1 + 1, 1, none⟩ = false := after_frozen (by rw [hV]; first | (simp; done) | omega | (simp; omega)) (by rw [hV]; (repeat (first | exact fn (by first | (simp; done) | omega | (simp; omega)) | refine fo (by first | (simp; done) | omega | (simp; omega)) ?_)))
  have zx : ∀ v : After V, w.heap.size + 1 + 1 < v.w.heap.size := after_size (by rw [hV]; first | (simp; done) | omega | (simp; omega))
  have p0 : ∀ v : After V, v.w.cell? ⟨w.heap.size + 1 + 1 + 1, 0, none⟩ = some (.int .i64 0) := after_cell (by rw [hV]; first | (simp; done) | omega | (simp; omega)) (by rw [hV]; (repeat (first | with_reducible assumption | exact bn (by first | (simp; done) | omega | (simp; omega)) rfl | refine bo (by first | (simp; done) | omega | (simp; omega)) ?_)))
  have fp0 : ∀ v : After V, v.w.frozen? ⟨w.heap.size + 1 + 1 + 1, 0, none⟩ = false := after_frozen (by rw [hV]; first | (simp; done) | omega | (simp; omega)) (by rw [hV]; (repeat (first | exact fn (by first | (simp; done) | omega | (simp; omega)) | refine fo (by first | (simp; done) | omega | (simp; omega)) ?_)))
  have p1 : ∀ v : After V, v.w.cell? ⟨w.heap.size + 1 + 1 + 1, 1, none⟩ = some (.int .i64 0) := after_cell (by rw [hV]; first | (simp; done) | omega | (simp; omega)) (by rw [hV]; (repeat (first | with_reducible assumption | exact bn (by first | (simp; done) | omega | (simp; omega)) rfl | refine bo (by first | (simp; done) | omega | (simp; omega)) ?_)))
  have fp1 : ∀ v : After V, v.w.frozen? ⟨w.heap.size + 1 + 1 + 1, 1, none⟩ = false := after_frozen (by rw [hV]; first | (simp; done) | omega | (simp; omega)) (by rw [hV]; (repeat (first | exact fn (by first | (simp; done) | omega | (simp; omega)) | refine fo (by first | (simp; done) | omega | (simp; omega)) ?_)))
  have p2 : ∀ v : After V, v.w.cell? ⟨w.heap.size + 1 + 1 + 1, 2, none⟩ = some (.slice none 0 0) := after_cell (by rw [hV]; first | (simp; done) | omega | (simp; omega)) (by rw [hV]; (repeat (first | with_reducible assumption | exact bn (by first | (simp; done) | omega | (simp; omega)) rfl | refine bo (by first | (simp; done) | omega | (simp; omega)) ?_)))
  have fp2 : ∀ v : After V, v.w.frozen? ⟨w.heap.size + 1 + 1 + 1, 2, none⟩ = false := after_frozen (by rw [hV]; first | (simp; done) | omega | (simp; omega)) (by rw [hV]; (repeat (first | exact fn (by first | (simp; done) | omega | (simp; omega)) | refine fo (by first | (simp; done) | omega | (simp; omega)) ?_)))
  have zp : ∀ v : After V, w.heap.size + 1 + 1 + 1 < v.w.heap.size := after_size (by rw [hV]; first | (simp; done) | omega | (simp; omega))
  have hwV : Below w.heap.size w V := by rw [hV]; exact (by repeat (first | exact Below.refl _ _ | assumption | refine b_then ?_ (by assumption) | refine b_alloc ?_ _ | refine b_drewN ?_ _ | refine b_drew ?_ | refine b_set ?_ (by omega) _ | refine b_set ?_ (by simp) _))
  have WV := hid (after_below hwV)
  rw [← hV]
  obtain ⟨u0, hu⟩ : ∃ u : After V, u.w = V := ⟨After.here V, rfl⟩
  rw [← hu]
  clear hu hV
  have HN := hid (fun v : After V => (HV.out.below (b_then hwV v.2) : NetIs ok v.w _ ps ls))
  have hwV := hid hwV
  have hVs : w.heap.size + 1 + 1 + 1 < V.heap.size := by have := zp (After.here V); exact this
  have e00 : n = 0 ∨ 0 < n := Nat.eq_zero_or_pos n
  go_upto_if 13 with (fail)
  go_cut [7] (fun q wx => HapI V q wx)
  case first =>
    rcases Nat.eq_zero_or_pos n with rfl | hpos
    · go_wp2_with fail
      go_meet
      case rel => first | exact HapI.mk 0 u0 | ((repeat apply Exists.intro); exact ⟨HapI.mk 0 u0, rfl⟩)
    · have e0 : decide ((0 : Int) < (n : Int)) = true := decide_eq_true (by omega)
      have e0' : decide (0 < n) = true := decide_eq_true hpos
      have en : ((n : Int) == 0) = false := beq_eq_false_iff_ne.2 (by omega)
      have r0 : 0 ≤ t % (n : Int) := Int.emod_nonneg _ (by omega)
      have r1 : t % (n : Int) < n := Int.emod_lt_of_pos _ (by omega)
      go_wp2_with fail
      go_meet
      case rel => first | exact HapI.mk _ u0 | ((repeat apply Exists.intro); exact ⟨HapI.mk _ u0, rfl⟩)
  case rest =>
  obtain ⟨i, u1, rfl, rfl⟩ := hcut.of
  clear u0
  go_upto_region 4 with (fail)
  refine wp_region_since (by kernel_rfl) (by kernel_rfl) ?_
  repeat (go_big_quiet_step (fail))
  refine wpQuiet_nil ?_
  intro u9
  obtain ⟨u0, hu0⟩ : ∃ y : After V, y.w = u9.w := ⟨u9, rfl⟩
  obtain rfl : u0 = u9 := Subtype.ext hu0
  clear hu0
  obtain ⟨k6, hk6⟩ : ∃ q, kd % 6 = q := ⟨_, rfl⟩
  have hk0 : 0 ≤ k6 := by omega
  have hk5 : k6 < 6 := by omega
  go_upto_block 0 with (fail)
  rw [hk6]
  have HK6 := hid hk6
  clear hk6
  go_cut [6] (fun q wx => HapC ok k6 ps ls w V (w.heap.size + 1 + 1) (w.heap.size + 1 + 1 + 1) q wx)
  case first =>
    have h6 : k6 = 0 ∨ k6 = 1 ∨ k6 = 2 ∨ k6 = 3 ∨ k6 = 4 ∨ k6 = 5 := by omega
    rcases h6 with rfl | rfl | rfl | rfl | rfl | rfl
    · skip
      obtain ⟨ya, hya⟩ : ∃ y9 : After V, y9.w = u0.w.alloc (.cells #[.int .u8 dt] 5) := ⟨u0.on (b_alloc (Below.refl _ _) _), rfl⟩
      have hda : DataIs ya.w ⟨a % 16, b % 16, some ⟨u0.w.heap.size, 0, none⟩, 1, 1⟩ [UInt8.ofNat dt.toNat] := by
        rw [hya]
        refine ⟨rfl, rd_new _ _ _ ?_⟩
        simp only [List.map_cons, List.map_nil, UInt8.toNat_ofNat']
        rw [show ((dt.toNat % 2 ^ 8 : Nat) : Int) = dt by omega]
      have hdf : V.heap.size ≤ u0.w.heap.size := u0.w_below.size
      go_wp2_with fail
      rw [← hya]
      clear hya
      refine (Send_any _ ps ls ⟨a % 16, b % 16, some ⟨u0.w.heap.size, 0, none⟩, 1, 1⟩ _ ya.w hp hl (HN.out ya)).mono ?_
      rintro e w9 h9
      obtain ⟨v9, rfl, hn9, hB9⟩ := h9.one
      have hda := hda.below hB9
      obtain ⟨u1, rfl⟩ : ∃ y9 : After V, w9 = y9.w := ⟨ya.on hB9, rfl⟩
      obtain ⟨Q, hQ⟩ : ∃ q, sendQ ps ls ⟨a % 16, b % 16, some ⟨u0.w.heap.size, 0, none⟩, 1, 1⟩ = q := ⟨_, rfl⟩
      obtain ⟨L, hL⟩ : ∃ q, sendL ps ls ⟨a % 16, b % 16, some ⟨u0.w.heap.size, 0, none⟩, 1, 1⟩ = q := ⟨_, rfl⟩
      obtain ⟨E, hE⟩ : ∃ q, sendX ps ls ⟨a % 16, b % 16, some ⟨u0.w.heap.size, 0, none⟩, 1, 1⟩ = q := ⟨_, rfl⟩
      rw [hQ, hL] at hn9
      rw [hE]
      have HOK := hid (show HapOk 0 ps ls (⟨a % 16, b % 16, some ⟨u0.w.heap.size, 0, none⟩, 1, 1⟩ : Pk) Q L Pk.zero E by rw [← hQ, ← hL, ← hE]; exact hap_send _ hl6)
      obtain ⟨nq, hnq⟩ : ∃ q, Q.length = q := ⟨_, rfl⟩
      obtain ⟨nl, hnl⟩ : ∃ q, L.length = q := ⟨_, rfl⟩
      obtain ⟨qa2, aa2, qc2, ac2, rfl⟩ := hn9.form' hnq hnl
      have HN9 := hid (hn9.mono (ok' := fun g => ok g ∨ V.heap.size ≤ g) (fun g h => h.elim .inl (fun h => .inr (Nat.le_trans ya.w_below.size h))))
      have HQ := hid hnq; have HL := hid hnl
      have HDA := hid hda; clear hda
      clear hQ hL hE hn9 hB9 hnq hnl
      have y0 := x0 u1
      have y1 := x1 u1
      have fy0 := fx0 u1
      have fy1 := fx1 u1
      have hsz := u1.w_below.size
      have r0 := p0 u1
      have r1 := p1 u1
      have r2 := p2 u1
      have fr0 := fp0 u1
      have fr1 := fp1 u1
      have fr2 := fp2 u1
      go_wp2_with fail
      go_meet
      case rel =>
        have R := HapC.mk (ok := ok) (k := 0) (ps := ps) (ls := ls) (w := w) (V := V) (bx := w.heap.size + 1 + 1) (bp := w.heap.size + 1 + 1 + 1) (P := Pk.zero) (E := E) (np := (⟨a % 16, b % 16, some ⟨u0.w.heap.size, 0, none⟩, 1, 1⟩ : Pk)) (bs := [UInt8.ofNat dt.toNat]) HQ.out HL.out HN9.out (b_then hwV.out u1.2) ⟨by omega, by omega, by omega⟩ HOKB.out (x0 u1) (x1 u1) (fx0 u1) (fx1 u1) (p0 u1) (p1 u1) (p2 u1) (fp0 u1) (fp1 u1) (fp2 u1) (zp u1) HDA.out (fun g off f h => by cases h; exact hdf) HOK.out _ rfl
        first | exact R | ((repeat apply Exists.intro); exact ⟨R, rfl⟩)
    · skip
      go_wp2_with fail
      refine (Deliver_any _ ps ls i _ u0.w hp hl (HN.out u0)).mono ?_
      rintro e w9 h9
      obtain ⟨v9, rfl, hn9, hB9⟩ := h9
      obtain ⟨u1, rfl⟩ : ∃ y9 : After V, w9 = y9.w := ⟨u0.on hB9, rfl⟩
      obtain ⟨Q, hQ⟩ : ∃ q, leftQ ps ls i = q := ⟨_, rfl⟩
      obtain ⟨L, hL⟩ : ∃ q, leftL ps ls i = q := ⟨_, rfl⟩
      obtain ⟨E, hE⟩ : ∃ q, ask ps ls i = q := ⟨_, rfl⟩
      rw [hQ, hL] at hn9
      rw [hE]
      obtain ⟨⟨pf, pt, pa, pn, pc⟩, hP⟩ : ∃ q, delP ps ls i = q := ⟨_, rfl⟩
      rw [hP]
      have HOK := hid (show HapOk 1 ps ls Pk.zero Q L (⟨pf, pt, pa, pn, pc⟩ : Pk) E by rw [← hQ, ← hL, ← hE, ← hP]; exact hap_deliver _ i hl6)
      obtain ⟨nq, hnq⟩ : ∃ q, Q.length = q := ⟨_, rfl⟩
      obtain ⟨nl, hnl⟩ : ∃ q, L.length = q := ⟨_, rfl⟩
      obtain ⟨qa2, aa2, qc2, ac2, rfl⟩ := hn9.form' hnq hnl
      have HN9 := hid (hn9.mono (ok' := fun g => ok g ∨ V.heap.size ≤ g) (fun g h => h.elim .inl (fun h => .inr (Nat.le_trans u0.w_below.size h))))
      have HQ := hid hnq; have HL := hid hnl
      clear hQ hL hE hP hn9 hB9 hnq hnl
      have y0 := x0 u1
      have y1 := x1 u1
      have fy0 := fx0 u1
      have fy1 := fx1 u1
      have hsz := u1.w_below.size
      have r0 := p0 u1
      have r1 := p1 u1
      have r2 := p2 u1
      have fr0 := fp0 u1
      have fr1 := fp1 u1
      have fr2 := fp2 u1
      dsimp only [Pk.v]
      go_wp2_with fail
      go_meet
      case rel =>
        have hok9 : ¬ (ok (w.heap.size + 1 + 1 + 1) ∨ V.heap.size ≤ w.heap.size + 1 + 1 + 1) := fun h => h.elim (fun h => by have := HOKB.out _ h; omega) (fun h => by omega)
        have R := HapC.mk (ok := ok) (k := 1) (ps := ps) (ls := ls) (w := w) (V := V) (bx := w.heap.size + 1 + 1) (bp := w.heap.size + 1 + 1 + 1) (y := (((u1.w.setCell ⟨w.heap.size + 1 + 1 + 1, 0, none⟩ (.int .i64 pf)).setCell ⟨w.heap.size + 1 + 1 + 1, 1, none⟩ (.int .i64 pt)).setCell ⟨w.heap.size + 1 + 1 + 1, 2, none⟩ (.slice pa pn pc))) (P := (⟨pf, pt, pa, pn, pc⟩ : Pk)) (E := E) (np := Pk.zero) (bs := []) HQ.out HL.out (((HN9.out.set hok9 _).set hok9 _).set hok9 _) (b_set (b_set (b_set (b_then hwV.out u1.2) (by omega) _) (by omega) _) (by omega) _) ⟨by omega, by omega, by omega⟩ HOKB.out (st_off _ (.inr (by omega)) (st_off _ (.inr (by omega)) (st_off _ (.inr (by omega)) (x0 u1)))) (st_off _ (.inr (by omega)) (st_off _ (.inr (by omega)) (st_off _ (.inr (by omega)) (x1 u1)))) (sf _ (sf _ (sf _ (fx0 u1)))) (sf _ (sf _ (sf _ (fx1 u1)))) (st_off _ (.inl (by decide)) (st_off _ (.inl (by decide)) (st_hit _ (p0 u1)))) (st_off _ (.inl (by decide)) (st_hit _ (st_off _ (.inl (by decide)) (p1 u1)))) (st_hit _ (st_off _ (.inl (by decide)) (st_off _ (.inl (by decide)) (p2 u1)))) (sf _ (sf _ (sf _ (fp0 u1)))) (sf _ (sf _ (sf _ (fp1 u1)))) (sf _ (sf _ (sf _ (fp2 u1)))) (by simpa using zp u1) ⟨rfl, Rd.nil⟩ (fun g off f h => by cases h) HOK.out _ rfl
        first | exact R | ((repeat apply Exists.intro); exact ⟨R, rfl⟩)
    · skip
      go_wp2_with fail
      refine (Lose_any _ ps ls i _ u0.w hp hl (HN.out u0)).mono ?_
      rintro e w9 h9
      obtain ⟨v9, rfl, hn9, hB9⟩ := h9
      obtain ⟨u1, rfl⟩ : ∃ y9 : After V, w9 = y9.w := ⟨u0.on hB9, rfl⟩
      obtain ⟨Q, hQ⟩ : ∃ q, leftQ ps ls i = q := ⟨_, rfl⟩
      obtain ⟨L, hL⟩ : ∃ q, leftL ps ls i = q := ⟨_, rfl⟩
      obtain ⟨E, hE⟩ : ∃ q, ask ps ls i = q := ⟨_, rfl⟩
      rw [hQ, hL] at hn9
      rw [hE]
      have HOK := hid (show HapOk 2 ps ls Pk.zero Q L Pk.zero E by rw [← hQ, ← hL, ← hE]; exact hap_lose _ i hl6)
      obtain ⟨nq, hnq⟩ : ∃ q, Q.length = q := ⟨_, rfl⟩
      obtain ⟨nl, hnl⟩ : ∃ q, L.length = q := ⟨_, rfl⟩
      obtain ⟨qa2, aa2, qc2, ac2, rfl⟩ := hn9.form' hnq hnl
      have HN9 := hid (hn9.mono (ok' := fun g => ok g ∨ V.heap.size ≤ g) (fun g h => h.elim .inl (fun h => .inr (Nat.le_trans u0.w_below.size h))))
      have HQ := hid hnq; have HL := hid hnl
      clear hQ hL hE hn9 hB9 hnq hnl
      have y0 := x0 u1
      have y1 := x1 u1
      have fy0 := fx0 u1
      have fy1 := fx1 u1
      have hsz := u1.w_below.size
      have r0 := p0 u1
      have r1 := p1 u1
      have r2 := p2 u1
      have fr0 := fp0 u1
      have fr1 := fp1 u1
      have fr2 := fp2 u1
      go_wp2_with fail
      go_meet
      case rel =>
        have R := HapC.mk (ok := ok) (k := 2) (ps := ps) (ls := ls) (w := w) (V := V) (bx := w.heap.size + 1 + 1) (bp := w.heap.size + 1 + 1 + 1) (P := Pk.zero) (E := E) (np := Pk.zero) (bs := []) HQ.out HL.out HN9.out (b_then hwV.out u1.2) ⟨by omega, by omega, by omega⟩ HOKB.out (x0 u1) (x1 u1) (fx0 u1) (fx1 u1) (p0 u1) (p1 u1) (p2 u1) (fp0 u1) (fp1 u1) (fp2 u1) (zp u1) ⟨rfl, Rd.nil⟩ (fun g off f h => by cases h) HOK.out _ rfl
        first | exact R | ((repeat apply Exists.intro); exact ⟨R, rfl⟩)
    · skip
      go_wp2_with fail
      refine (Repeat_any _ ps ls i _ u0.w hp hl (HN.out u0)).mono ?_
      rintro e w9 h9
      obtain ⟨v9, rfl, hn9, hB9⟩ := h9.one
      obtain ⟨u1, rfl⟩ : ∃ y9 : After V, w9 = y9.w := ⟨u0.on hB9, rfl⟩
      obtain ⟨Q, hQ⟩ : ∃ q, repQ ps ls i = q := ⟨_, rfl⟩
      obtain ⟨L, hL⟩ : ∃ q, repL ps ls i = q := ⟨_, rfl⟩
      obtain ⟨E, hE⟩ : ∃ q, repX ps ls i = q := ⟨_, rfl⟩
      rw [hQ, hL] at hn9
      rw [hE]
      have HOK := hid (show HapOk 3 ps ls Pk.zero Q L Pk.zero E by rw [← hQ, ← hL, ← hE]; exact hap_repeat _ i hl6)
      obtain ⟨nq, hnq⟩ : ∃ q, Q.length = q := ⟨_, rfl⟩
      obtain ⟨nl, hnl⟩ : ∃ q, L.length = q := ⟨_, rfl⟩
      obtain ⟨qa2, aa2, qc2, ac2, rfl⟩ := hn9.form' hnq hnl
      have HN9 := hid (hn9.mono (ok' := fun g => ok g ∨ V.heap.size ≤ g) (fun g h => h.elim .inl (fun h => .inr (Nat.le_trans u0.w_below.size h))))
      have HQ := hid hnq; have HL := hid hnl
      clear hQ hL hE hn9 hB9 hnq hnl
      have y0 := x0 u1
      have y1 := x1 u1
      have fy0 := fx0 u1
      have fy1 := fx1 u1
      have hsz := u1.w_below.size
      have r0 := p0 u1
      have r1 := p1 u1
      have r2 := p2 u1
      have fr0 := fp0 u1
      have fr1 := fp1 u1
      have fr2 := fp2 u1
      go_wp2_with fail
      go_meet
      case rel =>
        have R := HapC.mk (ok := ok) (k := 3) (ps := ps) (ls := ls) (w := w) (V := V) (bx := w.heap.size + 1 + 1) (bp := w.heap.size + 1 + 1 + 1) (P := Pk.zero) (E := E) (np := Pk.zero) (bs := []) HQ.out HL.out HN9.out (b_then hwV.out u1.2) ⟨by omega, by omega, by omega⟩ HOKB.out (x0 u1) (x1 u1) (fx0 u1) (fx1 u1) (p0 u1) (p1 u1) (p2 u1) (fp0 u1) (fp1 u1) (fp2 u1) (zp u1) ⟨rfl, Rd.nil⟩ (fun g off f h => by cases h) HOK.out _ rfl
        first | exact R | ((repeat apply Exists.intro); exact ⟨R, rfl⟩)
    · skip
      go_wp2_with fail
      refine (Cut_any _ ps ls (a % 16) (b % 16) true _ u0.w hp hl (HN.out u0)).mono ?_
      rintro e w9 h9
      obtain ⟨v9, rfl, hn9, hB9⟩ := h9
      obtain ⟨u1, rfl⟩ : ∃ y9 : After V, w9 = y9.w := ⟨u0.on hB9, rfl⟩
      obtain ⟨Q, hQ⟩ : ∃ q, cutQ ps ls (a % 16) (b % 16) = q := ⟨_, rfl⟩
      obtain ⟨L, hL⟩ : ∃ q, cutL ps ls (a % 16) (b % 16) true = q := ⟨_, rfl⟩
      obtain ⟨E, hE⟩ : ∃ q, cutE ps ls (a % 16) (b % 16) = q := ⟨_, rfl⟩
      rw [hQ, hL] at hn9
      rw [hE]
      have HOK := hid (show HapOk 4 ps ls Pk.zero Q L Pk.zero E by rw [← hQ, ← hL, ← hE]; exact (hap_cut _ _ _).1)
      obtain ⟨nq, hnq⟩ : ∃ q, Q.length = q := ⟨_, rfl⟩
      obtain ⟨nl, hnl⟩ : ∃ q, L.length = q := ⟨_, rfl⟩
      obtain ⟨qa2, aa2, qc2, ac2, rfl⟩ := hn9.form' hnq hnl
      have HN9 := hid (hn9.mono (ok' := fun g => ok g ∨ V.heap.size ≤ g) (fun g h => h.elim .inl (fun h => .inr (Nat.le_trans u0.w_below.size h))))
      have HQ := hid hnq; have HL := hid hnl
      clear hQ hL hE hn9 hB9 hnq hnl
      have y0 := x0 u1
      have y1 := x1 u1
      have fy0 := fx0 u1
      have fy1 := fx1 u1
      have hsz := u1.w_below.size
      have r0 := p0 u1
      have r1 := p1 u1
      have r2 := p2 u1
      have fr0 := fp0 u1
      have fr1 := fp1 u1
      have fr2 := fp2 u1
      go_wp2_with fail
      go_meet
      case rel =>
        have R := HapC.mk (ok := ok) (k := 4) (ps := ps) (ls := ls) (w := w) (V := V) (bx := w.heap.size + 1 + 1) (bp := w.heap.size + 1 + 1 + 1) (P := Pk.zero) (E := E) (np := Pk.zero) (bs := []) HQ.out HL.out HN9.out (b_then hwV.out u1.2) ⟨by omega, by omega, by omega⟩ HOKB.out (x0 u1) (x1 u1) (fx0 u1) (fx1 u1) (p0 u1) (p1 u1) (p2 u1) (fp0 u1) (fp1 u1) (fp2 u1) (zp u1) ⟨rfl, Rd.nil⟩ (fun g off f h => by cases h) HOK.out _ rfl
        first | exact R | ((repeat apply Exists.intro); exact ⟨R, rfl⟩)
    · skip
      go_wp2_with fail
      refine (Cut_any _ ps ls (a % 16) (b % 16) false _ u0.w hp hl (HN.out u0)).mono ?_
      rintro e w9 h9
      obtain ⟨v9, rfl, hn9, hB9⟩ := h9
      obtain ⟨u1, rfl⟩ : ∃ y9 : After V, w9 = y9.w := ⟨u0.on hB9, rfl⟩
      obtain ⟨Q, hQ⟩ : ∃ q, cutQ ps ls (a % 16) (b % 16) = q := ⟨_, rfl⟩
      obtain ⟨L, hL⟩ : ∃ q, cutL ps ls (a % 16) (b % 16) false = q := ⟨_, rfl⟩
      obtain ⟨E, hE⟩ : ∃ q, cutE ps ls (a % 16) (b % 16) = q := ⟨_, rfl⟩
      rw [hQ, hL] at hn9
      rw [hE]
      have HOK := hid (show HapOk 5 ps ls Pk.zero Q L Pk.zero E by rw [← hQ, ← hL, ← hE]; exact (hap_cut _ _ _).2)
      obtain ⟨nq, hnq⟩ : ∃ q, Q.length = q := ⟨_, rfl⟩
      obtain ⟨nl, hnl⟩ : ∃ q, L.length = q := ⟨_, rfl⟩
      obtain ⟨qa2, aa2, qc2, ac2, rfl⟩ := hn9.form' hnq hnl
      have HN9 := hid (hn9.mono (ok' := fun g => ok g ∨ V.heap.size ≤ g) (fun g h => h.elim .inl (fun h => .inr (Nat.le_trans u0.w_below.size h))))
      have HQ := hid hnq; have HL := hid hnl
      clear hQ hL hE hn9 hB9 hnq hnl
      have y0 := x0 u1
      have y1 := x1 u1
      have fy0 := fx0 u1
      have fy1 := fx1 u1
      have hsz := u1.w_below.size
      have r0 := p0 u1
      have r1 := p1 u1
      have r2 := p2 u1
      have fr0 := fp0 u1
      have fr1 := fp1 u1
      have fr2 := fp2 u1
      go_wp2_with fail
      go_meet
      case rel =>
        have R := HapC.mk (ok := ok) (k := 5) (ps := ps) (ls := ls) (w := w) (V := V) (bx := w.heap.size + 1 + 1) (bp := w.heap.size + 1 + 1 + 1) (P := Pk.zero) (E := E) (np := Pk.zero) (bs := []) HQ.out HL.out HN9.out (b_then hwV.out u1.2) ⟨by omega, by omega, by omega⟩ HOKB.out (x0 u1) (x1 u1) (fx0 u1) (fx1 u1) (p0 u1) (p1 u1) (p2 u1) (fp0 u1) (fp1 u1) (fp2 u1) (zp u1) ⟨rfl, Rd.nil⟩ (fun g off f h => by cases h) HOK.out _ rfl
        first | exact R | ((repeat apply Exists.intro); exact ⟨R, rfl⟩)
  case rest =>
  clear n0 fn0 n1 fn1 m0 fm0 m1 fm1 m2 fm2 m3 fm3 m4 fm4 x0 fx0 x1 fx1 p0 fp0 p1 fp1 p2 fp2 zn zm zx zp
  obtain ⟨Q, L, ⟨pf, pt, pa, pn, pc⟩, E, np, bs, nq, nl, qa2, aa2, qc2, ac2, rfl, hq2, hl2, x0, x1, p0, p1, p2, hfr, hnet, hda, hdf, HH, hbw, hzx, hzp⟩ := hcut.of
  dsimp only at p0 p1 p2
  obtain ⟨fx0, fx1, fp0, fp1, fp2⟩ := hfr
  have HNQ := hid hnet; have HDA := hid hda; have HHO := hid HH; have HBW := hid hbw; have HDF := hid hdf
  clear hcut hnet hda HH hbw hdf hq2 hl2
  go_upto_region 18 with (fail)
  go_region
  generalize hZ : World.drew _ = Z
  have y0 : Z.cell? ⟨w.heap.size + 1 + 1, 0, none⟩ = some (.slice qa2 nq qc2) := by rw [← hZ, World.cell?_drew]; exact st_off _ (.inr (by omega)) (st_off _ (.inr (by omega)) (st_off _ (.inr (by omega)) (st_off _ (.inl (by decide)) (st_hit _ x0))))
  have y1 : Z.cell? ⟨w.heap.size + 1 + 1, 1, none⟩ = some (.slice aa2 nl ac2) := by rw [← hZ, World.cell?_drew]; exact st_off _ (.inr (by omega)) (st_off _ (.inr (by omega)) (st_off _ (.inr (by omega)) (st_hit _ (st_off _ (.inl (by decide)) (x1)))))
  have r0 : Z.cell? ⟨w.heap.size + 1 + 1 + 1, 0, none⟩ = some (.int .i64 pf) := by rw [← hZ, World.cell?_drew]; exact st_off _ (.inl (by decide)) (st_off _ (.inl (by decide)) (st_hit _ (st_off _ (.inr (by omega)) (st_off _ (.inr (by omega)) (p0)))))
  have r1 : Z.cell? ⟨w.heap.size + 1 + 1 + 1, 1, none⟩ = some (.int .i64 pt) := by rw [← hZ, World.cell?_drew]; exact st_off _ (.inl (by decide)) (st_hit _ (st_off _ (.inl (by decide)) (st_off _ (.inr (by omega)) (st_off _ (.inr (by omega)) (p1)))))
  have r2 : Z.cell? ⟨w.heap.size + 1 + 1 + 1, 2, none⟩ = some (.slice pa pn pc) := by rw [← hZ, World.cell?_drew]; exact st_hit _ (st_off _ (.inl (by decide)) (st_off _ (.inl (by decide)) (st_off _ (.inr (by omega)) (st_off _ (.inr (by omega)) (p2)))))
  have hno1 : ¬ (ok (w.heap.size + 1 + 1) ∨ V.heap.size ≤ w.heap.size + 1 + 1) := fun h => h.elim (fun h => by have := HOKB.out _ h; omega) (fun h => by omega)
  have hno2 : ¬ (ok (w.heap.size + 1 + 1 + 1) ∨ V.heap.size ≤ w.heap.size + 1 + 1 + 1) := fun h => h.elim (fun h => by have := HOKB.out _ h; omega) (fun h => by omega)
  have hdf : ∀ (b : Nat), b < V.heap.size → ∀ g off, np.da = some ⟨g, off, none⟩ → b ≠ g := fun b hb g off e => by have := HDF.out g off none e; omega
  have hnet : NetIs (fun g => ok g ∨ w.heap.size ≤ g) Z (.agg #[.slice qa2 nq qc2, .slice aa2 nl ac2]) Q L := by
    rw [← hZ]
    exact ((((((HNQ.out.set hno1 _).set hno1 _).set hno2 _).set hno2 _).set hno2 _).below (Below.refl _ _).drew).mono fun g h => h.imp id (fun h => by omega)
  have hda : DataIs Z np bs := by
    rw [← hZ]
    exact ⟨HDA.out.1, (((((HDA.out.2.set (hdf _ (by omega)) _).set (hdf _ (by omega)) _).set (hdf _ (by omega)) _).set (hdf _ (by omega)) _).set (hdf _ (by omega)) _).below (Below.refl _ _).drew⟩
  have hB : Below w.heap.size w Z := by
    rw [← hZ]
    exact (b_set (b_set (b_set (b_set (b_set HBW.out (by omega) _) (by omega) _) (by omega) _) (by omega) _) (by omega) _).drew
  have HR := hid (And.intro hnet (And.intro hda hB))
  clear hZ hno1 hno2 hdf hnet hda hB x0 x1 p0 p1 p2 fx0 fx1 fp0 fp1 fp2
  go_wp2_with fail
  exact bodyPost_ret (v := .tuple #[.agg #[.slice qa2 nq qc2, .slice aa2 nl ac2], .agg #[.int .i64 pf, .int .i64 pt, .slice pa pn pc], .int .i64 E]) (by simp [results, Try.results27, go_sem, y0, y1, r0, r1, r2]) rfl ⟨_, Q, L, ⟨pf, pt, pa, pn, pc⟩, E, np, bs, rfl, HR.out.1, HR.out.2.1, fun g off f e => by have := HDF.out g off f e; omega, by rw [HK6.out]; exact HHO.out, HR.out.2.2⟩
end Go.Proofs.Ytmikhkmdcpgkfaa
