/- The great law on costs, walked. -/
import Derived.Test.YtofcienabddpjaaVPlain
import Derived.Test.YtofcienabddpjaaVStep
import Derived.Test.YtofcienabddpjaaVDraw
import Derived.Test.YtofcienabddpjaaQCheap
namespace Go.Proofs.Ytofcienabddpjaa
open Go.RowKit

theorem vBig_c (A : Option Addr) (n c : Nat) (w : World) : Calls Try.prog 13 #[.slice A n c] w fun e w' => e = .returned (.bool (decide ((65536 : Int) < n))) ∧ w = w' := by
  go_enter Try.func13, Try.ntmps13
  go_wp2
  go_ret
  exact ⟨by simp, rfl⟩
theorem own_six {W : World} {base R : Nat} {v : Value} {zs : List Int} (O : OwnI W base v zs) (hR : R < base) (u0 u1 u2 u3 u4 u5 : Value) :
    OwnI ((((((W.setCell ⟨R, 0, none⟩ u0).setCell ⟨R, 1, none⟩ u1).setCell ⟨R, 2, none⟩ u2).setCell ⟨R, 3, none⟩ u3).setCell ⟨R, 4, none⟩ u4).setCell ⟨R, 5, none⟩ u5) R v zs :=
  OwnI.weak (ownsRow_setCell_below (ownsRow_setCell_below (ownsRow_setCell_below (ownsRow_setCell_below (ownsRow_setCell_below (ownsRow_setCell_below O (a := ⟨R, 0, none⟩) hR u0) (a := ⟨R, 1, none⟩) hR u1) (a := ⟨R, 2, none⟩) hR u2) (a := ⟨R, 3, none⟩) hR u3) (a := ⟨R, 4, none⟩) hR u4) (a := ⟨R, 5, none⟩) hR u5) (Nat.le_of_lt hR)
section
variable {V W W' : World} {p b5 o5 : Nat} {E M U : Int} {v : Value}
theorem st_far (h : W.cell? ⟨p, 1, none⟩ = some (.int .i64 E) ∧ W.cell? ⟨p, 2, none⟩ = some (.int .i64 M) ∧ W.cell? ⟨p, 5, none⟩ = some v ∧ W.cell? ⟨b5, o5, none⟩ = some (.int .i64 U) ∧ Below V.heap.size V W) (hb : Below W.heap.size W W') : W'.cell? ⟨p, 1, none⟩ = some (.int .i64 E) ∧ W'.cell? ⟨p, 2, none⟩ = some (.int .i64 M) ∧ W'.cell? ⟨p, 5, none⟩ = some v ∧ W'.cell? ⟨b5, o5, none⟩ = some (.int .i64 U) ∧ Below V.heap.size V W' :=
  ⟨(hb.cell (lt_of_cell (by rw [h.1]; rfl))).trans h.1, (hb.cell (lt_of_cell (by rw [h.2.1]; rfl))).trans h.2.1, (hb.cell (lt_of_cell (by rw [h.2.2.1]; rfl))).trans h.2.2.1, (hb.cell (lt_of_cell (by rw [h.2.2.2.1]; rfl))).trans h.2.2.2.1, h.2.2.2.2.trans (hb.mono h.2.2.2.2.size)⟩
theorem st_alloc (h : W.cell? ⟨p, 1, none⟩ = some (.int .i64 E) ∧ W.cell? ⟨p, 2, none⟩ = some (.int .i64 M) ∧ W.cell? ⟨p, 5, none⟩ = some v ∧ W.cell? ⟨b5, o5, none⟩ = some (.int .i64 U) ∧ Below V.heap.size V W) (o : Obj) : (W.alloc o).cell? ⟨p, 1, none⟩ = some (.int .i64 E) ∧ (W.alloc o).cell? ⟨p, 2, none⟩ = some (.int .i64 M) ∧ (W.alloc o).cell? ⟨p, 5, none⟩ = some v ∧ (W.alloc o).cell? ⟨b5, o5, none⟩ = some (.int .i64 U) ∧ Below V.heap.size V (W.alloc o) := st_far h (below_alloc' (Nat.le_refl _) o)
theorem st_realloc {o o' : Obj} (h : (W.alloc o).cell? ⟨p, 1, none⟩ = some (.int .i64 E) ∧ (W.alloc o).cell? ⟨p, 2, none⟩ = some (.int .i64 M) ∧ (W.alloc o).cell? ⟨p, 5, none⟩ = some v ∧ (W.alloc o).cell? ⟨b5, o5, none⟩ = some (.int .i64 U) ∧ Below V.heap.size V (W.alloc o)) (hV : V.heap.size ≤ W.heap.size) (h1 : p < V.heap.size) (h2 : b5 < V.heap.size) : (W.alloc o').cell? ⟨p, 1, none⟩ = some (.int .i64 E) ∧ (W.alloc o').cell? ⟨p, 2, none⟩ = some (.int .i64 M) ∧ (W.alloc o').cell? ⟨p, 5, none⟩ = some v ∧ (W.alloc o').cell? ⟨b5, o5, none⟩ = some (.int .i64 U) ∧ Below V.heap.size V (W.alloc o') := by
  have e : ∀ q : Addr, q.block < V.heap.size → (W.alloc o').cell? q = (W.alloc o).cell? q := fun q hq => (World.cell?_alloc_lt W o' q (by omega)).trans (World.cell?_alloc_lt W o q (by omega)).symm
  have B := h.2.2.2.2
  exact ⟨(e _ h1).trans h.1, (e _ h1).trans h.2.1, (e _ h1).trans h.2.2.1, (e _ h2).trans h.2.2.2.1, ⟨B.os, B.tape, B.output, by rw [World.size_alloc]; omega, fun i hi => (Below.heap_alloc W o' i (by omega)).trans ((Below.heap_alloc W o i (by omega)).symm.trans (B.block i hi))⟩⟩
theorem st_adrew (h : W.drew.cell? ⟨p, 1, none⟩ = some (.int .i64 E) ∧ W.drew.cell? ⟨p, 2, none⟩ = some (.int .i64 M) ∧ W.drew.cell? ⟨p, 5, none⟩ = some v ∧ W.drew.cell? ⟨b5, o5, none⟩ = some (.int .i64 U) ∧ Below V.heap.size V W.drew) (o : Obj) : (W.alloc o).drew.cell? ⟨p, 1, none⟩ = some (.int .i64 E) ∧ (W.alloc o).drew.cell? ⟨p, 2, none⟩ = some (.int .i64 M) ∧ (W.alloc o).drew.cell? ⟨p, 5, none⟩ = some v ∧ (W.alloc o).drew.cell? ⟨b5, o5, none⟩ = some (.int .i64 U) ∧ Below V.heap.size V (W.alloc o).drew := by
  have B := h.2.2.2.2
  have k := st_alloc (W := W) (V := V) (p := p) (b5 := b5) (o5 := o5) (E := E) (M := M) (U := U) (v := v) ⟨h.1, h.2.1, h.2.2.1, h.2.2.2.1, ⟨B.os, B.tape, B.output, B.size, B.block⟩⟩ o
  exact ⟨k.1, k.2.1, k.2.2.1, k.2.2.2.1, k.2.2.2.2.drew⟩
theorem st_start (h1 : V.cell? ⟨p, 1, none⟩ = some (.int .i64 E)) (h2 : V.cell? ⟨p, 2, none⟩ = some (.int .i64 M)) (h3 : V.cell? ⟨p, 5, none⟩ = some v) (h4 : V.cell? ⟨b5, o5, none⟩ = some (.int .i64 U)) : V.drew.cell? ⟨p, 1, none⟩ = some (.int .i64 E) ∧ V.drew.cell? ⟨p, 2, none⟩ = some (.int .i64 M) ∧ V.drew.cell? ⟨p, 5, none⟩ = some v ∧ V.drew.cell? ⟨b5, o5, none⟩ = some (.int .i64 U) ∧ Below V.heap.size V V.drew := ⟨h1, h2, h3, h4, (Below.refl _ _).drew⟩
theorem st_set3 {tb : Nat} {u0 u1 u2 : Value} (h : W.cell? ⟨p, 1, none⟩ = some (.int .i64 E) ∧ W.cell? ⟨p, 2, none⟩ = some (.int .i64 M) ∧ W.cell? ⟨p, 5, none⟩ = some v ∧ W.cell? ⟨b5, o5, none⟩ = some (.int .i64 U) ∧ Below V.heap.size V W) (h1 : p < V.heap.size) (h2 : b5 < V.heap.size) (ht : V.heap.size ≤ tb) : (((W.setCell ⟨tb, 0, none⟩ u0).setCell ⟨tb, 1, none⟩ u1).setCell ⟨tb, 2, none⟩ u2).cell? ⟨p, 1, none⟩ = some (.int .i64 E) ∧ (((W.setCell ⟨tb, 0, none⟩ u0).setCell ⟨tb, 1, none⟩ u1).setCell ⟨tb, 2, none⟩ u2).cell? ⟨p, 2, none⟩ = some (.int .i64 M) ∧ (((W.setCell ⟨tb, 0, none⟩ u0).setCell ⟨tb, 1, none⟩ u1).setCell ⟨tb, 2, none⟩ u2).cell? ⟨p, 5, none⟩ = some v ∧ (((W.setCell ⟨tb, 0, none⟩ u0).setCell ⟨tb, 1, none⟩ u1).setCell ⟨tb, 2, none⟩ u2).cell? ⟨b5, o5, none⟩ = some (.int .i64 U) ∧ Below V.heap.size V (((W.setCell ⟨tb, 0, none⟩ u0).setCell ⟨tb, 1, none⟩ u1).setCell ⟨tb, 2, none⟩ u2) := by
  have B := ((h.2.2.2.2.setCell (p := ⟨tb, 0, none⟩) ht u0).setCell (p := ⟨tb, 1, none⟩) ht u1).setCell (p := ⟨tb, 2, none⟩) ht u2
  have hV := h.2.2.2.2
  have e : ∀ q : Addr, q.block < V.heap.size → (((W.setCell ⟨tb, 0, none⟩ u0).setCell ⟨tb, 1, none⟩ u1).setCell ⟨tb, 2, none⟩ u2).cell? q = W.cell? q := fun q hq => (B.cell hq).trans (hV.cell hq).symm
  exact ⟨(e _ h1).trans h.1, (e _ h1).trans h.2.1, (e _ h1).trans h.2.2.1, (e _ h2).trans h.2.2.2.1, B⟩
end
/-- A pumping in the law's box. -/
structure LB (W : World) (p : Nat) (L E M P : Int) (A1 A2 : Option Addr) (c1 c2 : Nat) (xs ys : List Int) : Prop where
  pb : PB W p L E M P (.slice A1 xs.length c1) (.slice A2 ys.length c2)
  r1 : RdI W W.heap.size A1 xs
  r2 : RdI W W.heap.size A2 ys
  n1 : A1 = none → c1 = 0
  n2 : A2 = none → c2 = 0
  l1 : xs.length ≤ 14
  l2 : ys.length ≤ 14
theorem LB.below {W W' : World} {p : Nat} {L E M P : Int} {A1 A2 : Option Addr} {c1 c2 : Nat} {xs ys : List Int} (h : LB W p L E M P A1 A2 c1 c2 xs ys) (hb : Below W.heap.size W W') : LB W' p L E M P A1 A2 c1 c2 xs ys :=
  ⟨h.pb.below hb, (h.r1.below hb).more hb.size, (h.r2.below hb).more hb.size, h.n1, h.n2, h.l1, h.l2⟩
theorem LB.new {w w1 : World} {L E M P : Int} {A1 A2 : Option Addr} {c1 c2 : Nat} {xs ys : List Int} (O1 : OwnI w1 w.heap.size (.slice A1 xs.length c1) xs) (O2 : OwnI w1 w.heap.size (.slice A2 ys.length c2) ys) (hx : xs.length ≤ 14) (hy : ys.length ≤ 14) :
    LB (w1.alloc (.cells #[.int .i64 L, .int .i64 E, .int .i64 M, .int .i64 P, .slice A1 xs.length c1, .slice A2 ys.length c2] 28)) w1.heap.size L E M P A1 A2 c1 c2 xs ys :=
  ⟨PB.new _ _ _ _ _ _ _, (O1.rd.alloc (Nat.le_refl _) _).more (by simp), (O2.rd.alloc (Nat.le_refl _) _).more (by simp), own_nilcap O1, own_nilcap O2, hx, hy⟩
section
variable {W : World} {p : Nat} {L E M P : Int} {A1 A2 : Option Addr} {c1 c2 : Nat} {xs ys : List Int}
theorem LB.go (h : LB W p L E M P A1 A2 c1 c2 xs ys) (k l n0 : Int) (ok : Bool) (e : cgo L E M P xs ys k l = (n0, ok)) : Calls Try.prog 15 #[.agg #[.int .i64 L, .int .i64 E, .int .i64 M, .int .i64 P, .slice A1 xs.length c1, .slice A2 ys.length c2], .int .i64 k, .int .i64 l] W fun e w' => e = .returned (.tuple #[.int .i64 n0, .bool ok]) ∧ Below W.heap.size W w' := by
  have := implGo_c L E M P A1 A2 c1 c2 xs ys k l W h.r1 h.r2 (Nat.le_refl _) (Nat.le_refl _) h.n1 h.n2 (by have := h.l1; omega) (by have := h.l2; omega)
  rw [e] at this
  exact this
theorem LB.spec (h : LB W p L E M P A1 A2 c1 c2 xs ys) (k l n0 : Int) (ok : Bool) (e : cgo L E M P xs ys k l = (n0, ok)) : Calls Try.prog 16 #[.agg #[.int .i64 L, .int .i64 E, .int .i64 M, .int .i64 P, .slice A1 xs.length c1, .slice A2 ys.length c2], .int .i64 k, .int .i64 l] W fun e w' => e = .returned (.tuple #[.int .i64 n0, .bool ok]) ∧ Below W.heap.size W w' := by
  have := specGo_c L E M P A1 A2 c1 c2 xs ys k l W h.r1 h.r2 (Nat.le_refl _) (Nat.le_refl _) (by have := h.l1; omega) (by have := h.l2; omega)
  rw [e] at this
  exact this
theorem LB.good (h : LB W p L E M P A1 A2 c1 c2 xs ys) (t : Bool) (e : goodPm L E M P xs ys = t) : Calls Try.prog 17 #[.agg #[.int .i64 L, .int .i64 E, .int .i64 M, .int .i64 P, .slice A1 xs.length c1, .slice A2 ys.length c2]] W fun e w' => e = .returned (.bool t) ∧ Below W.heap.size W w' := by
  have := implPump_c L E M P A1 A2 c1 c2 xs ys W h.r1 h.r2 (Nat.le_refl _) (Nat.le_refl _) h.n1 h.n2 (by have := h.l1; omega) (by have := h.l2; omega)
  rw [e] at this
  exact this
theorem LB.cheap (h : LB W p L E M P A1 A2 c1 c2 xs ys) (zs : List Int) (m : Int) (t : Bool) (e : cheapT E M P L xs ys = (zs, m, t)) : Calls Try.prog 19 #[.agg #[.int .i64 L, .int .i64 E, .int .i64 M, .int .i64 P, .slice A1 xs.length c1, .slice A2 ys.length c2]] W fun e w' => ∃ (A3 : Option Addr) (c3 zl : Nat), zl = zs.length ∧ e = .returned (.tuple #[.slice A3 zl c3, .int .i64 m, .bool t]) ∧ Below W.heap.size W w' := by
  have := implCheap_c L E M P A1 A2 c1 c2 xs ys W h.r1 h.r2 (Nat.le_refl _) (Nat.le_refl _) h.n1 h.n2 (by have := h.l1; omega) (by have := h.l2; omega)
  rw [e] at this
  refine this.mono ?_
  rintro e w' ⟨A3, c3, he, _, hb⟩
  exact ⟨A3, c3, _, rfl, he, hb⟩
theorem LB.shad (h : LB W p L E M P A1 A2 c1 c2 xs ys) (k l n0 : Int) (ok : Bool) (e : shp L E M P xs ys k l = (n0, ok)) : Calls Try.prog 21 #[.agg #[.int .i64 L, .int .i64 E, .int .i64 M, .int .i64 P, .slice A1 xs.length c1, .slice A2 ys.length c2], .int .i64 k, .int .i64 l] W fun e w' => e = .returned (.tuple #[.int .i64 n0, .bool ok]) ∧ Below W.heap.size W w' := by
  have := implShad_c L E M P A1 A2 c1 c2 xs ys k l W h.r1 h.r2 (Nat.le_refl _) (Nat.le_refl _) h.n1 h.n2 (by have := h.l1; omega) (by have := h.l2; omega)
  rw [e] at this
  exact this
theorem LB.sshad (h : LB W p L E M P A1 A2 c1 c2 xs ys) (k l n0 : Int) (ok : Bool) (e : shp L E M P xs ys k l = (n0, ok)) : Calls Try.prog 22 #[.agg #[.int .i64 L, .int .i64 E, .int .i64 M, .int .i64 P, .slice A1 xs.length c1, .slice A2 ys.length c2], .int .i64 k, .int .i64 l] W fun e w' => e = .returned (.tuple #[.int .i64 n0, .bool ok]) ∧ Below W.heap.size W w' := by
  have := specShad_c L E M P A1 A2 c1 c2 xs ys k l W h.r1 h.r2 (Nat.le_refl _) (Nat.le_refl _) (by have := h.l1; omega) (by have := h.l2; omega)
  rw [e] at this
  exact this
end
set_option maxHeartbeats 1000000 in
theorem drawShad_c (A : Option Addr) (n c : Nat) (w : World) (h : RdB w w.heap.size A n) : Calls Try.prog 20 #[.slice A n c] w fun e w' => ∃ (L E M P k l : Int) (A1 A2 : Option Addr) (c1 c2 : Nat) (xs ys : List Int), e = .returned (.tuple #[.agg #[.int .i64 L, .int .i64 E, .int .i64 M, .int .i64 P, .slice A1 xs.length c1, .slice A2 ys.length c2], .int .i64 k, .int .i64 l]) ∧ OwnI w' w.heap.size (.slice A1 xs.length c1) xs ∧ OwnI w' w.heap.size (.slice A2 ys.length c2) ys ∧ xs.length ≤ 14 ∧ ys.length ≤ 14 ∧ Below w.heap.size w w' := by
  go_enter Try.func20, Try.ntmps20
  go_wp2_with fail
  refine (drawGo_c A n c _ ((h.below ((Below.refl _ _).alloc (Nat.le_refl _) _)).more (by simp))).mono ?_
  rintro e w1 ⟨L, E, M, P, k, l, A1, A2, c1, c2, xs, ys, rfl, O1, O2, hx, hy, hb1⟩
  have hz1 := hb1.size; (repeat (first | rw [World.size_alloc] at hz1 | rw [World.size_drew] at hz1 | rw [World.heap_drewN] at hz1 | rw [World.size_setCell] at hz1)); have hB : Below w.heap.size w w1 := Below.trans (by (repeat' (first | (with_reducible exact Below.refl _ _) | (with_reducible assumption) | (with_reducible refine below_drewN ?_ _) | (with_reducible refine Below.alloc ?_ ?_ _) | (with_reducible refine Below.drew ?_) | (with_reducible refine Below.setCell ?_ ?_ _) | go_size))) (hb1.mono (by go_size)); have hL1 := hb1; clear hb1; obtain ⟨hc1, hf1⟩ := bcell hL1
  have o1 := Lib.hid (own_six O1 (R := w.heap.size) (by simp) (.int .i64 L) (.int .i64 E) (.int .i64 M) (.int .i64 P) (.slice A1 xs.length c1) (.slice A2 ys.length c2))
  have o2 := Lib.hid (own_six O2 (R := w.heap.size) (by simp) (.int .i64 L) (.int .i64 E) (.int .i64 M) (.int .i64 P) (.slice A1 xs.length c1) (.slice A2 ys.length c2))
  clear O1 O2
  go_wp2
  go_light
  refine bodyPost_ret (v := .tuple #[.agg #[.int .i64 L, .int .i64 E, .int .i64 M, .int .i64 P, .slice A1 xs.length c1, .slice A2 ys.length c2], .int .i64 k, .int .i64 l]) (by simp (maxDischargeDepth := 8) [results, Try.results20, go_sem, *]) rfl ?_
  refine ⟨_, _, _, _, _, _, _, _, _, _, _, _, rfl, o1.out, o2.out, hx, hy, by (repeat' (first | (with_reducible exact Below.refl _ _) | (with_reducible assumption) | (with_reducible refine below_drewN ?_ _) | (with_reducible refine Below.alloc ?_ ?_ _) | (with_reducible refine Below.drew ?_) | (with_reducible refine Below.setCell ?_ ?_ _) | go_size))⟩
set_option maxRecDepth 100000 in
set_option maxHeartbeats 16000000 in
theorem costs_law (A : Option Addr) (n c : Nat) (w : World) (h : RdB w w.heap.size A n) : Calls Try.prog 3 #[.slice A n c] w fun e w' => e = .returned (.bool true) ∧ Below w.heap.size w w' := by
  by_cases hn : (65536 : Int) < (n : Int)
  · have hd : decide ((65536 : Int) < n) = true := by simp; omega
    go_enter Try.func3, Try.ntmps3
    go_wp2_with (go_at_call 13; refine (vBig_c _ _ _ _).mono ?_; rintro e w' ⟨rfl, rfl⟩)
    (go_returns; exact ⟨by first | rfl | (simp; done) | (simp; omega), by (repeat' (first | (with_reducible exact Below.refl _ _) | (with_reducible assumption) | (with_reducible refine below_drewN ?_ _) | (with_reducible refine Below.alloc ?_ ?_ _) | (with_reducible refine Below.drew ?_) | (with_reducible refine Below.setCell ?_ ?_ _) | go_size))⟩)
  have hd : decide ((65536 : Int) < n) = false := by simp; omega
  go_enter Try.func3, Try.ntmps3
  go_wp2_with fail
  refine (vBig_c _ _ _ _).mono ?_
  rintro e w' ⟨rfl, rfl⟩
  go_wp2_with fail
  refine (drawGo_c A n c _ h).mono ?_
  rintro e w1 ⟨L, E, M, P, k, l, A1, A2, c1, c2, xs, ys, rfl, O1, O2, hx, hy, hb1⟩
  go_upto_region 4 with (fail)
  have X0 := LB.new (L := L) (E := E) (M := M) (P := P) O1 O2 hx hy
  obtain ⟨W, hW⟩ : ∃ W, W = w1.alloc (.cells #[.int .i64 L, .int .i64 E, .int .i64 M, .int .i64 P, .slice A1 xs.length c1, .slice A2 ys.length c2] 28) := ⟨_, rfl⟩
  rw [← hW] at X0 ⊢
  have B0 : Below w.heap.size w W := by rw [hW]; exact hb1.alloc hb1.size _
  have h1 : RdB W W.heap.size A n := (h.below B0).more B0.size
  clear O1 O2 hb1 hW h hx hy
  generalize w1.heap.size = p at *
  obtain ⟨n0, ok, hr⟩ : ∃ n0 ok, cgo L E M P xs ys k l = (n0, ok) := ⟨_, _, rfl⟩
  have HR := Lib.hid hr
  have PX := X0.pb
  obtain ⟨p0, p1, p2, p3, p4, p5⟩ := id PX
  clear PX hr
  go_wp2_with fail
  refine (X0.go k l n0 ok HR.out).mono ?_
  rintro e w2 ⟨rfl, BX⟩
  clear p0 p1 p2 p3 p4 p5
  have X2 := X0.below BX
  obtain ⟨p0, p1, p2, p3, p4, p5⟩ := X2.pb
  go_wp2_with fail
  refine (X2.spec k l n0 ok HR.out).mono ?_
  rintro e w3 ⟨rfl, hb3⟩
  replace BX := stepB BX hb3
  clear p0 p1 p2 p3 p4 p5 hb3 X2
  have X3 := X0.below BX
  obtain ⟨p0, p1, p2, p3, p4, p5⟩ := X3.pb
  go_upto_region 8 with (fail)
  have cond := fun (a : Bool) (s : World) (x : LB s p L E M P A1 A2 c1 c2 xs ys) (q : goodPm L E M P xs ys = a) => x.good a q
  go_cut [86] (fun s wx => s = .bool (decide (0 ≤ k ∧ k < xs.length ∧ goodPm L E M P xs ys = true ∧ E ≤ l ∧ l ≤ M)) ∧ Below W.heap.size W wx)
  case first => as_aux_lemma =>
    by_cases q1 : 0 ≤ k
    · by_cases q2 : k < xs.length
      · have d1 : decide (0 ≤ k) = true := by simp [q1]
        have d2 : decide (k < xs.length) = true := by simp [q2]
        cases g : goodPm L E M P xs ys
        · have G := Lib.hid g
          clear g
          go_wp2_with fail
          refine (X3.good false G.out).mono ?_
          rintro e w4 ⟨rfl, hb4⟩
          have B4 := stepB BX hb4
          clear p0 p1 p2 p3 p4 p5 X3 hb4 BX
          go_wp2_with fail
          go_meet
          exact ⟨by rw [decide_eq_false (fun h => by have := h.2.2.1; rw [G.out] at this; cases this)], B4⟩
        · have G := Lib.hid g
          clear g
          go_wp2_with fail
          refine (X3.good true G.out).mono ?_
          rintro e w4 ⟨rfl, hb4⟩
          have B4 := stepB BX hb4
          clear p0 p1 p2 p3 p4 p5 X3 hb4 BX
          obtain ⟨p0, p1, p2, p3, p4, p5⟩ := (X0.below B4).pb
          by_cases q3 : E ≤ l
          · have d3 : decide (E ≤ l) = true := by simp [q3]
            go_wp2_with fail
            go_meet
            exact ⟨by rw [show decide (0 ≤ k ∧ k < xs.length ∧ goodPm L E M P xs ys = true ∧ E ≤ l ∧ l ≤ M) = decide (l ≤ M) from decide_eq_decide.2 ⟨fun h => h.2.2.2.2, fun h => ⟨q1, q2, G.out, q3, h⟩⟩], B4⟩
          · have d3 : decide (E ≤ l) = false := by simp; omega
            go_wp2_with fail
            go_meet
            exact ⟨by rw [decide_eq_false (fun h => by obtain ⟨a, b, _, d, _⟩ := h; omega)], B4⟩
      · have d1 : decide (0 ≤ k) = true := by simp [q1]
        have d2 : decide (k < xs.length) = false := by simp; omega
        go_wp2_with fail
        go_meet
        exact ⟨by rw [decide_eq_false (fun h => by obtain ⟨a, b, _, d, _⟩ := h; omega)], BX⟩
    · have d1 : decide (0 ≤ k) = false := by simp; omega
      go_wp2_with fail
      go_meet
      exact ⟨by rw [decide_eq_false (fun h => by obtain ⟨a, b, _, d, _⟩ := h; omega)], BX⟩
  case rest => as_aux_lemma =>
    clear p0 p1 p2 p3 p4 p5 X3 BX cond
    obtain ⟨rfl, BX⟩ := hcut
    go_upto_if 86 with (fail)
    go_cut [86] (fun _ wx => Below W.heap.size W wx)
    case first => as_aux_lemma =>
      by_cases cnd : (0 ≤ k ∧ k < xs.length ∧ goodPm L E M P xs ys = true ∧ E ≤ l ∧ l ≤ M)
      · rw [decide_eq_true cnd]
        obtain ⟨q1, q2, g, q3, q4⟩ := cnd
        obtain ⟨kn, rfl⟩ := Int.eq_ofNat_of_zero_le q1
        have gp := goodPm_out g
        have hln : kn < ys.length := by omega
        have HC := HourC.of g hln q3 q4
        have y14 := X0.l2
        have x14 := X0.l1
        have hkx : kn < xs.length := by omega
        have Wk1 : IntKind.i64.wrap ((kn : Int) + 1) = (kn : Int) + 1 := IntWalk.i64_in _ (by omega)
        have NX := fun z => nxT_b (E := E) (M := M) (l := l) (z := z) (u := ys.getD kn 0) (by omega) (HC.hb 0 (by omega) HC.p0).u0
        have hm60 : M ≤ 60 := gp.2.2.2.1
        clear q1 q2 gp q3 q4 g
        generalize tabV E M P L xs ys ys.length (ys.length - (kn + 1)) = gg at HC
        generalize hX : xs.getD kn 0 = X at HC
        generalize hU : ys.getD kn 0 = U at HC NX
        have HX := Lib.hid hX
        have HU := Lib.hid hU
        have P0 := HC.p0
        have P1 := HC.p1
        obtain ⟨pn, rfl⟩ := Int.eq_ofNat_of_zero_le P0
        have hcur := HC.cur
        rw [HR.out, Int.toNat_natCast] at hcur
        have hend := rchV_end (g := gg) (E := E) (M := M) (u := U) (l := l) (c := n0) HC.x0 (pn + 1) (by intro hp; rw [if_neg (by omega)] at hcur; exact congrArg Prod.fst hcur)
        have hok : ok = decide (0 ≤ bstV gg E M X U l (pn + 1)) := by
          by_cases hp : bstV gg E M X U l (pn + 1) < 0
          · rw [if_pos hp] at hcur
            obtain ⟨_, e⟩ := Prod.mk.inj hcur
            rw [e]; simp; omega
          · rw [if_neg hp] at hcur
            obtain ⟨_, e⟩ := Prod.mk.inj hcur
            rw [e]; simp; omega
        have hn0 : 0 ≤ bstV gg E M X U l (pn + 1) → n0 = bstV gg E M X U l (pn + 1) := by intro hp; rw [if_neg (by omega)] at hcur; exact congrArg Prod.fst hcur
        have HEND := Lib.hid (And.intro hend (And.intro hok hn0))
        clear hcur hend hok hn0 hX hU
        go_wp2
        go_loopw [10, 11, 12, 13, 14, 15, 16, 17] (fun rd iv _ _ _ _ _ _ wr => ∃ j : Nat, j ≤ pn + 1 ∧ iv = .int .i64 j ∧ rd = .bool (rchV gg E M X U l n0 j) ∧ Below W.heap.size W wr) (fun _ iv _ _ _ _ _ _ _ => pn + 1 - (intOf iv).toNat)
        case atStart => exact ⟨0, by omega, rfl, rfl, BX⟩
        case round =>
          clear BX
          obtain ⟨j, hj, rfl, rfl, BR⟩ := hrel
          have XR := X0.below BR
          obtain ⟨p0, p1, p2, p3, p4, p5⟩ := XR.pb
          by_cases hlt : j ≤ pn
          · have hi : (j : Int) ≤ (pn : Int) := by omega
            have Wj : IntKind.i64.wrap ((j : Int) + 1) = (j : Int) + 1 := IntWalk.i64_in _ (by omega)
            have hz := HC.hb j (by omega) (by omega)
            have ST := Lib.hid (fun s => StepTank_c l E M j U s hz HC.gd)
            obtain ⟨b5, o5, u5, hA2, hu5, hb5, hc5⟩ := XR.r2.at_ hln
            subst hA2
            obtain rfl : u5 = U := hu5.trans HU.out
            have hkI : (kn : Int) < (ys.length : Int) := by omega
            have hp5 := XR.pb.lt
            have HC' := Lib.hid HC
            have ZZ := Lib.hid hz
            have HL := Lib.hid (And.intro hj hlt)
            clear hu5 hz HC hj hlt
            go_upto_region 13 with (fail)
            go_cut [12, 13, 14, 15] (fun a b' c' d wx => ∃ tb : Nat, a = .pointer (some ⟨tb, 0, none⟩) ∧ b' = .int .i64 (spT M l j) ∧ c' = .int .i64 (msT E M l j u5) ∧ d = .bool true ∧ wx.cell? ⟨tb, 0, none⟩ = some (.int .i64 (nxT E M l j u5)) ∧ Below W.heap.size W wx)
            case first =>
              clear ZZ HC' HEND
              have ALR := Nat.le_refl wr.heap.size
              go_region_held3 (fun w' => w'.cell? ⟨p, 1, none⟩ = some (.int .i64 E) ∧ w'.cell? ⟨p, 2, none⟩ = some (.int .i64 M) ∧ w'.cell? ⟨p, 5, none⟩ = some (.slice (some ⟨b5, o5, none⟩) ys.length c2) ∧ w'.cell? ⟨b5, o5 + kn, none⟩ = some (.int .i64 u5) ∧ Below wr.heap.size wr w')
                (first
                  | ((with_reducible refine st_set3 ?_ hp5 hb5 ?_); (focus (with_reducible assumption)); first | exact ALR | omega)
                  | ((with_reducible refine st_alloc ?_ _); with_reducible assumption)
                  | (with_reducible exact st_realloc (by assumption) (by omega) hp5 hb5)
                  | (with_reducible exact st_start p1 p2 p5 hc5)
                  | (with_reducible exact st_adrew (by assumption) _)
                  | (with_reducible exact st_far (by assumption) hb6)
                  | fail)
                (first | (go_at_call 18; (with_reducible refine (ST.out _).mono ?_); rintro e w6 ⟨rfl, hb6⟩; obtain ⟨hc6, hf6⟩ := bcell hb6; have hs6 := hb6.size; (repeat (first | rw [World.size_alloc] at hs6 | rw [World.size_drew] at hs6 | rw [World.heap_drewN] at hs6))))
              all_goals
                have BQ := stepB BR (‹_ ∧ _ ∧ _ ∧ _ ∧ Below wr.heap.size wr _›).2.2.2.2
                go_wp2_with fail
                go_meet
                exact ⟨_, rfl, rfl, rfl, rfl, by first | (simp [go_sem]; done) | (simp [hc6, go_sem]; done), BQ⟩
            case rest =>
              clear p0 p1 p2 p3 p4 p5 XR BR hc5 hb5 hp5 ST
              obtain ⟨tb, rfl, rfl, rfl, rfl, hcl, BS⟩ := hcut
              have HC := HC'.out
              have hz := ZZ.out
              obtain ⟨hj, hlt⟩ := HL.out
              have gj := HC.go j (by omega) (by omega)
              have hit : rchV gg E M X u5 l n0 (j + 1) = (rchV gg E M X u5 l n0 j || (decide (spT M l j + msT E M l j u5 = 0) && (decide (0 ≤ gg (nxT E M l j u5)) && decide (n0 = X * j + gg (nxT E M l j u5))))) := rfl
              have le : spT M l j + msT E M l j u5 = 0 → 0 ≤ gg (nxT E M l j u5) → 0 ≤ bstV gg E M X u5 l (pn + 1) ∧ bstV gg E M X u5 l (pn + 1) ≤ X * j + gg (nxT E M l j u5) := fun a b => bstV_le HC.x0 (pn + 1) j (by omega) (decide_eq_true a) b
              have hb := hour_b hz
              have hy := HC.g1 (nxT E M l j u5)
              have mX := mulB HC.x0 HC.x1 (show (0 : Int) ≤ j by omega) (show (j : Int) ≤ 10 by have := HC.p1; omega)
              have XS := X0.below BS
              obtain ⟨p0, p1, p2, p3, p4, p5⟩ := XS.pb
              obtain ⟨b4, o4, x4, hA1, hx4, hb4, hc4⟩ := XS.r1.at_ hkx
              subst hA1
              obtain rfl : x4 = X := hx4.trans HX.out
              generalize nxT E M l j u5 = nx at *
              generalize spT M l j = sp at *
              generalize msT E M l j u5 = ms at *
              have Wsm : IntKind.i64.wrap (sp + ms) = sp + ms := IntWalk.i64_in _ (by omega)
              have hkI : (kn : Int) < (xs.length : Int) := by omega
              clear hz HC' ZZ NX hx4
              by_cases q : gg nx < 0
              · rw [if_pos q] at gj
                have GJ := Lib.hid gj
                have QQ := Lib.hid q
                clear gj HC le q
                have LL := Lib.hid (And.intro hb (And.intro hy mX))
                clear hy mX
                have NN : 0 ≤ sp ∧ 0 ≤ ms := ⟨hb.1.1, hb.2.2.1.1⟩
                clear hb
                go_wp2_with fail
                refine (XS.go (kn + 1) nx 0 false GJ.out).mono ?_
                rintro e w7 ⟨rfl, hb7⟩
                have B7 := stepB BS hb7
                clear p0 p1 p2 p3 p4 p5 XS hc4 hb4 hb7 hcl
                by_cases z0 : sp + ms = 0
                · have d1 : decide (0 < sp + ms) = false := by simp; omega
                  have Z0 := Lib.hid z0
                  clear z0
                  go_wp2_with fail
                  go_roundw
                  case rel => first | exact ⟨j + 1, by omega, by go_num, by rw [hit]; simp [show ¬ (0 : Int) ≤ gg nx from by have := QQ.out; omega], B7⟩ | ((repeat apply Exists.intro); exact ⟨⟨j + 1, by omega, by go_num, by rw [hit]; simp [show ¬ (0 : Int) ≤ gg nx from by have := QQ.out; omega], B7⟩, rfl⟩)
                  case measure => simp [intOf]; omega
                · have d1 : decide (0 < sp + ms) = true := by simp; omega
                  have Z0 := Lib.hid z0
                  clear z0
                  go_wp2_with fail
                  go_roundw
                  case rel => first | exact ⟨j + 1, by omega, by go_num, by rw [hit]; simp [show ¬ (0 : Int) ≤ gg nx from by have := QQ.out; omega], B7⟩ | ((repeat apply Exists.intro); exact ⟨⟨j + 1, by omega, by go_num, by rw [hit]; simp [show ¬ (0 : Int) ≤ gg nx from by have := QQ.out; omega], B7⟩, rfl⟩)
                  case measure => simp [intOf]; omega
              · rw [if_neg q] at gj
                have GJ := Lib.hid gj
                have QQ := Lib.hid q
                have NN : 0 ≤ sp ∧ 0 ≤ ms := ⟨hb.1.1, hb.2.2.1.1⟩
                have WXj : IntKind.i64.wrap (x4 * (j : Int)) = x4 * (j : Int) := IntWalk.i64_in _ (by omega)
                have WXy : IntKind.i64.wrap (x4 * (j : Int) + gg nx) = x4 * (j : Int) + gg nx := IntWalk.i64_in _ (by omega)
                have le' := fun a => le a (by omega)
                clear gj HC le q hb hy mX
                go_wp2_with fail
                refine (XS.go (kn + 1) nx (gg nx) true GJ.out).mono ?_
                rintro e w7 ⟨rfl, hb7⟩
                have B7 := stepB BS hb7
                have hc5 := (hb7.cell (p := ⟨b4, o4 + kn, none⟩) hb4).trans hc4
                clear p0 p1 p2 p3 p4 p5 XS hc4 hb4 hb7 hcl
                obtain ⟨p0, p1, p2, p3, p4, p5⟩ := (X0.below B7).pb
                by_cases z0 : sp + ms = 0
                · have d1 : decide (0 < sp + ms) = false := by simp; omega
                  have l0 := le' z0
                  have hok : ok = true := by rw [HEND.out.2.1]; exact decide_eq_true l0.1
                  have hnn : n0 ≤ x4 * j + gg nx := by rw [HEND.out.2.2 l0.1]; exact l0.2
                  subst hok
                  have d2 : decide (x4 * (j : Int) + gg nx < n0) = false := by simp; omega
                  have Z0 := Lib.hid z0
                  clear z0 l0 le' hnn NN
                  have h0g : (0 : Int) ≤ gg nx := by have := QQ.out; omega
                  have H0G := Lib.hid h0g
                  clear h0g
                  cases hr : rchV gg E M x4 u5 l n0 j
                  · by_cases e0 : n0 = x4 * j + gg nx
                    · have d3 : (n0 == x4 * (j : Int) + gg nx) = true := by simp [e0]
                      have d4 : decide (n0 = x4 * (j : Int) + gg nx) = true := decide_eq_true e0
                      have E0 := Lib.hid e0
                      have HRR := Lib.hid hr
                      clear e0 hr
                      go_wp2_with fail
                      go_roundw
                      case rel => first | exact ⟨j + 1, by omega, by go_num, by rw [hit]; simp [HRR.out, Z0.out, H0G.out, d4], B7⟩ | ((repeat apply Exists.intro); exact ⟨⟨j + 1, by omega, by go_num, by rw [hit]; simp [HRR.out, Z0.out, H0G.out, d4], B7⟩, rfl⟩)
                      case measure => simp [intOf]; omega
                    · have d3 : (n0 == x4 * (j : Int) + gg nx) = false := by simp [e0]
                      have d4 : decide (n0 = x4 * (j : Int) + gg nx) = false := decide_eq_false e0
                      have E0 := Lib.hid e0
                      have HRR := Lib.hid hr
                      clear e0 hr
                      go_wp2_with fail
                      go_roundw
                      case rel => first | exact ⟨j + 1, by omega, by go_num, by rw [hit]; simp [HRR.out, Z0.out, H0G.out, d4], B7⟩ | ((repeat apply Exists.intro); exact ⟨⟨j + 1, by omega, by go_num, by rw [hit]; simp [HRR.out, Z0.out, H0G.out, d4], B7⟩, rfl⟩)
                      case measure => simp [intOf]; omega
                  · have HRR := Lib.hid hr
                    clear hr
                    go_wp2_with fail
                    go_roundw
                    case rel => first | exact ⟨j + 1, by omega, by go_num, by rw [hit]; simp [HRR.out], B7⟩ | ((repeat apply Exists.intro); exact ⟨⟨j + 1, by omega, by go_num, by rw [hit]; simp [HRR.out], B7⟩, rfl⟩)
                    case measure => simp [intOf]; omega
                · have d1 : decide (0 < sp + ms) = true := by simp; omega
                  have Z0 := Lib.hid z0
                  clear z0
                  go_wp2_with fail
                  go_roundw
                  case rel => first | exact ⟨j + 1, by omega, by go_num, by rw [hit]; simp [Z0.out], B7⟩ | ((repeat apply Exists.intro); exact ⟨⟨j + 1, by omega, by go_num, by rw [hit]; simp [Z0.out], B7⟩, rfl⟩)
                  case measure => simp [intOf]; omega
          · obtain rfl : j = pn + 1 := by omega
            have hi : ¬ (((pn + 1 : Nat) : Int) ≤ (pn : Int)) := by omega
            rw [HEND.out.1, ← HEND.out.2.1]
            cases ok
            all_goals
              go_wp2_with fail
              go_meet
              exact BR
      · rw [decide_eq_false cnd]
        go_wp2_with fail
        go_meet
        exact BX
    case rest => as_aux_lemma =>
      clear BX
      have BX := hcut
      clear hcut
      have X4 := X0.below BX
      obtain ⟨p0, p1, p2, p3, p4, p5⟩ := X4.pb
      obtain ⟨zs, mm, fnd, hch⟩ : ∃ zs mm fnd, cheapT E M P L xs ys = (zs, mm, fnd) := ⟨_, _, _, rfl⟩
      have CH := Lib.hid hch
      clear hch
      go_wp2_with fail
      refine (X4.cheap zs mm fnd CH.out).mono ?_
      rintro e w5 ⟨A3, c3, zl, hzl, rfl, hb5⟩
      have ZL := Lib.hid hzl
      clear hzl
      replace BX := stepB BX hb5
      clear p0 p1 p2 p3 p4 p5 X4 hb5
      obtain ⟨p0, p1, p2, p3, p4, p5⟩ := (X0.below BX).pb
      go_upto_if 170 with (fail)
      go_cut [170] (fun _ wx => Below W.heap.size W wx)
      case first => as_aux_lemma =>
        cases fnd
        · go_wp2_with fail
          go_meet
          exact BX
        · have cf := cgo_first (L := L) (E := E) (M := M) (P := P) (xs := xs) (ys := ys) (by rw [CH.out])
          rw [CH.out] at cf
          have C1 := Lib.hid cf.1
          obtain rfl : zl = xs.length := ZL.out.trans cf.2
          clear cf ZL
          go_wp2_with fail
          refine ((X0.below BX).go 0 L mm true C1.out).mono ?_
          rintro e w6 ⟨rfl, hb6⟩
          replace BX := stepB BX hb6
          clear p0 p1 p2 p3 p4 p5 hb6
          obtain ⟨p0, p1, p2, p3, p4, p5⟩ := (X0.below BX).pb
          go_wp2_with fail
          go_meet
          exact BX
      case rest => as_aux_lemma =>
        clear BX p0 p1 p2 p3 p4 p5
        have BX := B0.trans (hcut.mono B0.size)
        have h2 : RdB wc wc.heap.size A n := (h1.below hcut).more hcut.size
        clear hcut CH HR X0 B0 h1
        go_wp2_with fail
        refine (drawShad_c A n c _ h2).mono ?_
        clear h2
        rintro e w1 ⟨L, E, M, P, k, l, A1, A2, c1, c2, xs, ys, rfl, O1, O2, hx, hy, hb1⟩
        go_upto_region 29 with (fail)
        have X0 := LB.new (L := L) (E := E) (M := M) (P := P) O1 O2 hx hy
        obtain ⟨W2, hW⟩ : ∃ W, W = w1.alloc (.cells #[.int .i64 L, .int .i64 E, .int .i64 M, .int .i64 P, .slice A1 xs.length c1, .slice A2 ys.length c2] 28) := ⟨_, rfl⟩
        rw [← hW] at X0 ⊢
        replace BX : Below w.heap.size w W2 := by rw [hW]; exact (stepB BX hb1).alloc (stepB BX hb1).size _
        clear O1 O2 hb1 hW hx hy
        generalize w1.heap.size = p2 at *
        obtain ⟨n1, ok1, hr⟩ : ∃ n0 ok, shp L E M P xs ys k l = (n0, ok) := ⟨_, _, rfl⟩
        have HR := Lib.hid hr
        clear hr
        obtain ⟨p0, p1, p2, p3, p4, p5⟩ := X0.pb
        go_wp2_with fail
        refine (X0.shad k l n1 ok1 HR.out).mono ?_
        rintro e w7 ⟨rfl, hb7⟩
        have BY := stepB BX hb7
        clear p0 p1 p2 p3 p4 p5
        obtain ⟨p0, p1, p2, p3, p4, p5⟩ := (X0.below hb7).pb
        go_wp2_with fail
        refine ((X0.below hb7).sshad k l n1 ok1 HR.out).mono ?_
        rintro e w8 ⟨rfl, hb8⟩
        have BZ := stepB BY hb8
        clear p0 p1 p2 p3 p4 p5 BY BX hb7 hb8 X0
        cases ok1
        all_goals
          go_wp2
          go_returns
          exact ⟨rfl, BZ⟩
end Go.Proofs.Ytofcienabddpjaa
