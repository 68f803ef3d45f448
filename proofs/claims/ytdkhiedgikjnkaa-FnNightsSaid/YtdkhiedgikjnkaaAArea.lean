/- Areas: the statements' own helpers, and areas among the arguments. -/
import Derived.Test.YtdkhiedgikjnkaaAWalk
import Derived.Test.YtdkhiedgikjnkaaOpenS
namespace Go.Proofs.Ytdkhiedgikjnkaa
open Go.ChangeShapes Go.WideShapes Go.ChangeAt Go.RowKit Go.Joins

theorem szIntS_ok (A : Option Addr) (c n : Nat) (w : World) (h : n ≤ 1048576) : Calls Try.prog 46 #[.slice A n c, .int .i64 1048576] w fun e w' => e = .returned (.int .i64 (1048576 - n)) ∧ w = w' := by
  have e2 : ¬ (1048576 - (n : Int) < 0) := by omega
  go_enter Try.func46, Try.ntmps46
  go_wp2
  go_ret
  exact ⟨rfl, rfl⟩
theorem szIntS_no (A : Option Addr) (c n : Nat) (w : World) (h : 1048576 < n) (hm : n ≤ 9223372036854775807) : Calls Try.prog 46 #[.slice A n c, .int .i64 1048576] w fun e w' => e = .returned (.int .i64 (-1)) ∧ w = w' := by
  have e2 : (1048576 - (n : Int) < 0) := by omega
  go_enter Try.func46, Try.ntmps46
  go_wp2
  go_ret
  exact ⟨rfl, rfl⟩
theorem szArea_ok (I H : Int) (A : Option Addr) (c : Nat) (xs : List Int) (w : World) (h : xs.length ≤ 1048576) : Calls Try.prog 16 #[.agg #[.int .i64 I, .int .i64 H, .slice A xs.length c], .int .i64 1048576] w fun e w' => e = .returned (.int .i64 (1048576 - xs.length)) ∧ Below w.heap.size w w' := by
  have e2 : ¬ (1048576 - (xs.length : Int) < 0) := by omega
  go_enter Try.func16, Try.ntmps16
  go_wp2_with (go_at_call 46; refine (szIntS_ok _ _ _ _ h).mono ?_; rintro e w' ⟨rfl, rfl⟩)
  (go_returns; exact ⟨by first | rfl | (simp; done) | (simp; omega), by (repeat' (first | (with_reducible exact Below.refl _ _) | (with_reducible assumption) | (with_reducible refine below_drewN ?_ _) | (with_reducible refine Below.alloc ?_ ?_ _) | (with_reducible refine Below.drew ?_) | (with_reducible refine Below.setCell ?_ ?_ _) | go_size))⟩)
theorem szArea_no (I H : Int) (A : Option Addr) (c : Nat) (xs : List Int) (w : World) (h : 1048576 < xs.length) (hm : xs.length ≤ 9223372036854775807) : Calls Try.prog 16 #[.agg #[.int .i64 I, .int .i64 H, .slice A xs.length c], .int .i64 1048576] w fun e w' => e = .returned (.int .i64 (-1)) ∧ Below w.heap.size w w' := by
  go_enter Try.func16, Try.ntmps16
  go_wp2_with (go_at_call 46; refine (szIntS_no _ _ _ _ h hm).mono ?_; rintro e w' ⟨rfl, rfl⟩)
  (go_returns; exact ⟨by first | rfl | (simp; done) | (simp; omega), by (repeat' (first | (with_reducible exact Below.refl _ _) | (with_reducible assumption) | (with_reducible refine below_drewN ?_ _) | (with_reducible refine Below.alloc ?_ ?_ _) | (with_reducible refine Below.drew ?_) | (with_reducible refine Below.setCell ?_ ?_ _) | go_size))⟩)
theorem own_setBelow {w : World} {base : Nat} {v : Value} {xs : List Int} (h : OwnI w base v xs) {a : Addr} (ha : a.block < base) (u : Value) : OwnI (w.setCell a u) base v xs := ownsRow_setCell_below h ha u
theorem toArea_c (I H : Int) (A : Option Addr) (c : Nat) (xs : List Int) (w : World) (h : RdI w w.heap.size A xs) (hn : xs.length ≤ 1048576) :
    Calls Try.prog 18 #[.agg #[.int .i64 I, .int .i64 H, .slice A xs.length c]] w (RetI w xs (fun v => .agg #[.int .i64 I, .int .i64 H, v])) := by
  go_enter Try.func18, Try.ntmps18
  go_wp2_with (go_at_call 13; refine (toIntS_c A c xs _ ((h.below (by (repeat' (first | (with_reducible exact Below.refl _ _) | (with_reducible assumption) | (with_reducible refine below_drewN ?_ _) | (with_reducible refine Below.alloc ?_ ?_ _) | (with_reducible refine Below.drew ?_) | (with_reducible refine Below.setCell ?_ ?_ _) | go_size)))).more (by go_size)) hn).mono ?_; rintro e w1 ⟨A1, c1, rfl, o1, hb1⟩; have hz1 := hb1.size; (repeat (first | rw [World.size_alloc] at hz1 | rw [World.size_drew] at hz1 | rw [World.heap_drewN] at hz1 | rw [World.size_setCell] at hz1)); have hB : Below w.heap.size w w1 := Below.trans (by (repeat' (first | (with_reducible exact Below.refl _ _) | (with_reducible assumption) | (with_reducible refine below_drewN ?_ _) | (with_reducible refine Below.alloc ?_ ?_ _) | (with_reducible refine Below.drew ?_) | (with_reducible refine Below.setCell ?_ ?_ _) | go_size))) (hb1.mono (by go_size)); have hL1 := hb1; clear hb1; obtain ⟨hc1, hf1⟩ := bcell hL1; have q0 : w1.cell? ⟨w.heap.size + 1 + 1, 0, none⟩ = some (.int .i64 I) := (by rw [hc1 _ (by simp [go_sem])]; simp [go_sem]); have q1 : w1.cell? ⟨w.heap.size + 1 + 1, 1, none⟩ = some (.int .i64 H) := (by rw [hc1 _ (by simp [go_sem])]; simp [go_sem]); have q2 : w1.cell? ⟨w.heap.size + 1 + 1, 2, none⟩ = some (.slice none 0 0) := (by rw [hc1 _ (by simp [go_sem])]; simp [go_sem]); have p0 : w1.cell? ⟨w.heap.size + 1, 0, none⟩ = some (.int .i64 0) := (by rw [hc1 _ (by simp [go_sem])]; simp [go_sem]); have p1 : w1.cell? ⟨w.heap.size + 1, 1, none⟩ = some (.int .i64 0) := (by rw [hc1 _ (by simp [go_sem])]; simp [go_sem]); have p2 : w1.cell? ⟨w.heap.size + 1, 2, none⟩ = some (.slice none 0 0) := (by rw [hc1 _ (by simp [go_sem])]; simp [go_sem]))
  refine bodyPost_ret (v := .agg #[.int .i64 I, .int .i64 H, .slice A1 xs.length c1]) (by simp (maxDischargeDepth := 5) [results, Try.results18, go_sem, p0, p1, p2]) rfl ?_
  refine ⟨A1, c1, rfl, ?_, by (repeat' (first | (with_reducible exact Below.refl _ _) | (with_reducible assumption) | (with_reducible refine below_drewN ?_ _) | (with_reducible refine Below.alloc ?_ ?_ _) | (with_reducible refine Below.drew ?_) | (with_reducible refine Below.setCell ?_ ?_ _) | go_size))⟩
  refine OwnI.weak (base := w.heap.size + 1 + 1 + 1) ?_ (by omega)
  (repeat (with_reducible refine own_setBelow ?_ ?_ _)) <;> first | exact o1.weak (by go_size) | go_size | (simp; done) | (simp; omega)
theorem eqArea_c {B B' : Nat} (I H : Int) (A A' : Option Addr) (c c' : Nat) (xs : List Int) (w : World) (h : RdI w B A xs) (h' : RdI w B' A' xs) (hB : B ≤ w.heap.size) (hB' : B' ≤ w.heap.size) (hm : xs.length ≤ 9223372036854775807) :
    Calls Try.prog 20 #[.agg #[.int .i64 I, .int .i64 H, .slice A xs.length c], .agg #[.int .i64 I, .int .i64 H, .slice A' xs.length c']] w fun e w' => e = .returned (.bool true) ∧ Below w.heap.size w w' := by
  go_enter Try.func20, Try.ntmps20
  go_wp2_with (go_at_call 15; refine (eqIntS_c _ _ _ _ _ _ ((h.alloc hB _).alloc (by simp; omega) _) ((h'.alloc hB' _).alloc (by simp; omega) _) hm).mono ?_; rintro e w' ⟨rfl, nd, rfl⟩)
  (go_returns; exact ⟨by first | rfl | (simp; done) | (simp; omega), by (repeat' (first | (with_reducible exact Below.refl _ _) | (with_reducible assumption) | (with_reducible refine below_drewN ?_ _) | (with_reducible refine Below.alloc ?_ ?_ _) | (with_reducible refine Below.drew ?_) | (with_reducible refine Below.setCell ?_ ?_ _) | go_size))⟩)
theorem cellsArea : Try.prog.cellsOf 29 = 3 := by kernel_rfl
theorem open_area {H : Type} {enc : TypeId × Value → H} {W : World} {base : Nat} {v : Value} {d : DataW H} {p : List MemPlace} (hv : Value.okWide Try.prog W .any base 29 v) (h : DataW.Trod enc Try.prog W 0 (fun _ => true) true 29 v d p) :
    ∃ (I K : Int) (A : Option Addr) (c : Nat) (xs : List Int), v = .agg #[.int .i64 I, .int .i64 K, .slice A xs.length c] ∧ RdI W W.heap.size A xs ∧ xs.length ≤ 9223372036854775807 := by
  obtain ⟨v0, v1, v2, y0, y1, y2, n, rfl, _, _, h0, h1, h2⟩ := open_agg3 Try.underlying29 (by kernel_rfl) cellsArea hv h
  obtain ⟨I, rfl, _⟩ := open_ci h0
  obtain ⟨K, rfl, _⟩ := open_ci h1
  obtain ⟨A, c, xs, rfl, r, hm, _⟩ := open_cis h2
  exact ⟨I, K, A, c, xs, rfl, r, hm⟩
end Go.Proofs.Ytdkhiedgikjnkaa
