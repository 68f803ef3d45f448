/- Tariffs: the statements' own helpers, and tariffs among the arguments. -/
import Derived.Test.YtbfaejacfhblkaaPar
namespace Go.Proofs.Ytbfaejacfhblkaa
open Go.ChangeShapes Go.WideShapes Go.ChangeAt Go.RowKit Go.Joins

theorem szTar_ok (F : Int) (A : Option Addr) (c : Nat) (xs : List (Int × Int)) (w : World) (h : xs.length ≤ 1048576) : Calls Try.prog 15 #[.agg #[.int .i64 F, .slice A xs.length c], .int .i64 1048576] w fun e w' => e = .returned (.int .i64 (1048576 - xs.length)) ∧ Below w.heap.size w w' := by
  have e2 : ¬ (1048576 - (xs.length : Int) < 0) := by omega
  go_enter Try.func15, Try.ntmps15
  go_wp2_with (go_at_call 52; refine (szParS_ok _ _ _ _ h).mono ?_; rintro e w' ⟨rfl, rfl⟩)
  (go_returns; exact ⟨by first | rfl | (simp; done) | (simp; omega), by (repeat' (first | (with_reducible exact Below.refl _ _) | (with_reducible assumption) | (with_reducible refine below_drewN ?_ _) | (with_reducible refine Below.alloc ?_ ?_ _) | (with_reducible refine Below.drew ?_) | (with_reducible refine Below.setCell ?_ ?_ _) | go_size))⟩)
theorem szTar_no (F : Int) (A : Option Addr) (c : Nat) (xs : List (Int × Int)) (w : World) (h : 1048576 < xs.length) (hm : xs.length ≤ 9223372036854775807) : Calls Try.prog 15 #[.agg #[.int .i64 F, .slice A xs.length c], .int .i64 1048576] w fun e w' => e = .returned (.int .i64 (-1)) ∧ Below w.heap.size w w' := by
  go_enter Try.func15, Try.ntmps15
  go_wp2_with (go_at_call 52; refine (szParS_no _ _ _ _ h hm).mono ?_; rintro e w' ⟨rfl, rfl⟩)
  (go_returns; exact ⟨by first | rfl | (simp; done) | (simp; omega), by (repeat' (first | (with_reducible exact Below.refl _ _) | (with_reducible assumption) | (with_reducible refine below_drewN ?_ _) | (with_reducible refine Below.alloc ?_ ?_ _) | (with_reducible refine Below.drew ?_) | (with_reducible refine Below.setCell ?_ ?_ _) | go_size))⟩)
theorem toTar_c (F : Int) (A : Option Addr) (c : Nat) (xs : List (Int × Int)) (w : World) (h : RdP w w.heap.size A xs) (hn : xs.length ≤ 1048576) :
    Calls Try.prog 17 #[.agg #[.int .i64 F, .slice A xs.length c]] w (RetP w xs (fun v => .agg #[.int .i64 F, v])) := by
  go_enter Try.func17, Try.ntmps17
  go_wp2_with (go_at_call 54; refine (toParS_c A c xs _ ((h.below (by (repeat' (first | (with_reducible exact Below.refl _ _) | (with_reducible assumption) | (with_reducible refine below_drewN ?_ _) | (with_reducible refine Below.alloc ?_ ?_ _) | (with_reducible refine Below.drew ?_) | (with_reducible refine Below.setCell ?_ ?_ _) | go_size)))).more (by go_size)) hn).mono ?_; rintro e w1 ⟨A1, c1, rfl, o1, hb1⟩; have hz1 := hb1.size; (repeat (first | rw [World.size_alloc] at hz1 | rw [World.size_drew] at hz1 | rw [World.heap_drewN] at hz1 | rw [World.size_setCell] at hz1)); have hB : Below w.heap.size w w1 := Below.trans (by (repeat' (first | (with_reducible exact Below.refl _ _) | (with_reducible assumption) | (with_reducible refine below_drewN ?_ _) | (with_reducible refine Below.alloc ?_ ?_ _) | (with_reducible refine Below.drew ?_) | (with_reducible refine Below.setCell ?_ ?_ _) | go_size))) (hb1.mono (by go_size)); have hL1 := hb1; clear hb1; obtain ⟨hc1, hf1⟩ := bcell hL1; have q0 : w1.cell? ⟨w.heap.size + 1 + 1, 0, none⟩ = some (.int .i64 F) := (by rw [hc1 _ (by simp [go_sem])]; simp [go_sem]); have q1 : w1.cell? ⟨w.heap.size + 1 + 1, 1, none⟩ = some (.slice none 0 0) := (by rw [hc1 _ (by simp [go_sem])]; simp [go_sem]); have p0 : w1.cell? ⟨w.heap.size + 1, 0, none⟩ = some (.int .i64 0) := (by rw [hc1 _ (by simp [go_sem])]; simp [go_sem]); have p1 : w1.cell? ⟨w.heap.size + 1, 1, none⟩ = some (.slice none 0 0) := (by rw [hc1 _ (by simp [go_sem])]; simp [go_sem]))
  refine bodyPost_ret (v := .agg #[.int .i64 F, .slice A1 xs.length c1]) (by simp (maxDischargeDepth := 5) [results, Try.results17, go_sem, p0, p1]) rfl ?_
  refine ⟨A1, c1, rfl, ?_, by (repeat' (first | (with_reducible exact Below.refl _ _) | (with_reducible assumption) | (with_reducible refine below_drewN ?_ _) | (with_reducible refine Below.alloc ?_ ?_ _) | (with_reducible refine Below.drew ?_) | (with_reducible refine Below.setCell ?_ ?_ _) | go_size))⟩
  refine OwnP.weak (base := w.heap.size + 1 + 1 + 1) ?_ (by omega)
  (repeat (with_reducible refine OwnP.setBelow ?_ ?_ _)) <;> first | exact o1.weak (by go_size) | go_size | (simp; done) | (simp; omega)
theorem eqTar_c {B B' : Nat} (F : Int) (A A' : Option Addr) (c c' : Nat) (xs : List (Int × Int)) (w : World) (h : RdP w B A xs) (h' : RdP w B' A' xs) (hB : B ≤ w.heap.size) (hB' : B' ≤ w.heap.size) (hm : xs.length ≤ 9223372036854775807) :
    Calls Try.prog 19 #[.agg #[.int .i64 F, .slice A xs.length c], .agg #[.int .i64 F, .slice A' xs.length c']] w fun e w' => e = .returned (.bool true) ∧ Below w.heap.size w w' := by
  go_enter Try.func19, Try.ntmps19
  go_wp2_with (go_at_call 56; refine (eqParS_c _ _ _ _ _ _ ((h.alloc hB _).alloc (by simp; omega) _) ((h'.alloc hB' _).alloc (by simp; omega) _) (by simp; omega) (by simp; omega) hm).mono ?_; rintro e w1 ⟨rfl, hb1⟩; have hz1 := hb1.size; (repeat (first | rw [World.size_alloc] at hz1 | rw [World.size_drew] at hz1 | rw [World.heap_drewN] at hz1 | rw [World.size_setCell] at hz1)); have hB : Below w.heap.size w w1 := Below.trans (by (repeat' (first | (with_reducible exact Below.refl _ _) | (with_reducible assumption) | (with_reducible refine below_drewN ?_ _) | (with_reducible refine Below.alloc ?_ ?_ _) | (with_reducible refine Below.drew ?_) | (with_reducible refine Below.setCell ?_ ?_ _) | go_size))) (hb1.mono (by go_size)); have hL1 := hb1; clear hb1; obtain ⟨hc1, hf1⟩ := bcell hL1)
  (go_returns; exact ⟨by first | rfl | (simp; done) | (simp; omega), by (repeat' (first | (with_reducible exact Below.refl _ _) | (with_reducible assumption) | (with_reducible refine below_drewN ?_ _) | (with_reducible refine Below.alloc ?_ ?_ _) | (with_reducible refine Below.drew ?_) | (with_reducible refine Below.setCell ?_ ?_ _) | go_size))⟩)
theorem cellsTar : Try.prog.cellsOf 24 = 2 := by kernel_rfl
theorem open_tar {H : Type} {enc : TypeId × Value → H} {W : World} {base : Nat} {v : Value} {d : DataW H} {p : List MemPlace} (hv : Value.okWide Try.prog W .any base 24 v) (h : DataW.Trod enc Try.prog W 0 (fun _ => true) true 24 v d p) :
    ∃ (F : Int) (A : Option Addr) (c : Nat) (xs : List (Int × Int)), v = .agg #[.int .i64 F, .slice A xs.length c] ∧ RdP W W.heap.size A xs ∧ xs.length ≤ 9223372036854775807 := by
  obtain ⟨v0, v1, y0, y1, n, rfl, _, _, h0, h1⟩ := open_agg2 Try.underlying24 (by kernel_rfl) cellsTar hv h
  obtain ⟨F, rfl, _⟩ := open_ci h0
  obtain ⟨A, c, xs, rfl, r, hm⟩ := open_cps h1
  exact ⟨F, A, c, xs, rfl, r, hm⟩
end Go.Proofs.Ytbfaejacfhblkaa
