/- Contracts: what the great law on costs draws. -/
import Derived.Test.YtofcienabddpjaaVPump
namespace Go.Proofs.Ytofcienabddpjaa
open Go.RowKit

section
variable {W W' : World} {p b : Nat} {L E M P : Int} {s1 s2 : Value}
theorem pbc_drew (h : W.cell? ⟨p, 0, none⟩ = some (.int .i64 L) ∧ W.cell? ⟨p, 1, none⟩ = some (.int .i64 E) ∧ W.cell? ⟨p, 2, none⟩ = some (.int .i64 M) ∧ W.cell? ⟨p, 3, none⟩ = some (.int .i64 P) ∧ W.cell? ⟨p, 4, none⟩ = some s1 ∧ W.cell? ⟨p, 5, none⟩ = some s2) : W.drew.cell? ⟨p, 0, none⟩ = some (.int .i64 L) ∧ W.drew.cell? ⟨p, 1, none⟩ = some (.int .i64 E) ∧ W.drew.cell? ⟨p, 2, none⟩ = some (.int .i64 M) ∧ W.drew.cell? ⟨p, 3, none⟩ = some (.int .i64 P) ∧ W.drew.cell? ⟨p, 4, none⟩ = some s1 ∧ W.drew.cell? ⟨p, 5, none⟩ = some s2 := h
theorem pbc_far (h : W.cell? ⟨p, 0, none⟩ = some (.int .i64 L) ∧ W.cell? ⟨p, 1, none⟩ = some (.int .i64 E) ∧ W.cell? ⟨p, 2, none⟩ = some (.int .i64 M) ∧ W.cell? ⟨p, 3, none⟩ = some (.int .i64 P) ∧ W.cell? ⟨p, 4, none⟩ = some s1 ∧ W.cell? ⟨p, 5, none⟩ = some s2) (g : W.grownBy W' (some b)) (hb : p ≠ b) : W'.cell? ⟨p, 0, none⟩ = some (.int .i64 L) ∧ W'.cell? ⟨p, 1, none⟩ = some (.int .i64 E) ∧ W'.cell? ⟨p, 2, none⟩ = some (.int .i64 M) ∧ W'.cell? ⟨p, 3, none⟩ = some (.int .i64 P) ∧ W'.cell? ⟨p, 4, none⟩ = some s1 ∧ W'.cell? ⟨p, 5, none⟩ = some s2 := by
  have e := g.block p (lt_of_cell (a := ⟨p, 0, none⟩) (by rw [h.1]; rfl)) (fun q => hb (Option.some.inj q))
  exact ⟨(World.cell?_of_block e).trans h.1, (World.cell?_of_block e).trans h.2.1, (World.cell?_of_block e).trans h.2.2.1, (World.cell?_of_block e).trans h.2.2.2.1, (World.cell?_of_block e).trans h.2.2.2.2.1, (World.cell?_of_block e).trans h.2.2.2.2.2⟩
theorem pbc_set (h : W.cell? ⟨p, 0, none⟩ = some (.int .i64 L) ∧ W.cell? ⟨p, 1, none⟩ = some (.int .i64 E) ∧ W.cell? ⟨p, 2, none⟩ = some (.int .i64 M) ∧ W.cell? ⟨p, 3, none⟩ = some (.int .i64 P) ∧ W.cell? ⟨p, 4, none⟩ = some s1 ∧ W.cell? ⟨p, 5, none⟩ = some s2) {a : Addr} (hb : ¬ p = a.block) (v : Value) : (W.setCell a v).cell? ⟨p, 0, none⟩ = some (.int .i64 L) ∧ (W.setCell a v).cell? ⟨p, 1, none⟩ = some (.int .i64 E) ∧ (W.setCell a v).cell? ⟨p, 2, none⟩ = some (.int .i64 M) ∧ (W.setCell a v).cell? ⟨p, 3, none⟩ = some (.int .i64 P) ∧ (W.setCell a v).cell? ⟨p, 4, none⟩ = some s1 ∧ (W.setCell a v).cell? ⟨p, 5, none⟩ = some s2 := by
  have e := heap_setCell_other W a p v (fun q => hb q)
  exact ⟨(World.cell?_of_block e).trans h.1, (World.cell?_of_block e).trans h.2.1, (World.cell?_of_block e).trans h.2.2.1, (World.cell?_of_block e).trans h.2.2.2.1, (World.cell?_of_block e).trans h.2.2.2.2.1, (World.cell?_of_block e).trans h.2.2.2.2.2⟩
end
theorem pbc_six {W : World} {p R : Nat} {L E M P : Int} {s1 s2 u0 u1 u2 u3 u4 u5 : Value} (h : W.cell? ⟨p, 0, none⟩ = some (.int .i64 L) ∧ W.cell? ⟨p, 1, none⟩ = some (.int .i64 E) ∧ W.cell? ⟨p, 2, none⟩ = some (.int .i64 M) ∧ W.cell? ⟨p, 3, none⟩ = some (.int .i64 P) ∧ W.cell? ⟨p, 4, none⟩ = some s1 ∧ W.cell? ⟨p, 5, none⟩ = some s2) (hb : ¬ p = R) :
    ((((((W.setCell ⟨R, 0, none⟩ u0).setCell ⟨R, 1, none⟩ u1).setCell ⟨R, 2, none⟩ u2).setCell ⟨R, 3, none⟩ u3).setCell ⟨R, 4, none⟩ u4).setCell ⟨R, 5, none⟩ u5).cell? ⟨p, 0, none⟩ = some (.int .i64 L) ∧ ((((((W.setCell ⟨R, 0, none⟩ u0).setCell ⟨R, 1, none⟩ u1).setCell ⟨R, 2, none⟩ u2).setCell ⟨R, 3, none⟩ u3).setCell ⟨R, 4, none⟩ u4).setCell ⟨R, 5, none⟩ u5).cell? ⟨p, 1, none⟩ = some (.int .i64 E) ∧ ((((((W.setCell ⟨R, 0, none⟩ u0).setCell ⟨R, 1, none⟩ u1).setCell ⟨R, 2, none⟩ u2).setCell ⟨R, 3, none⟩ u3).setCell ⟨R, 4, none⟩ u4).setCell ⟨R, 5, none⟩ u5).cell? ⟨p, 2, none⟩ = some (.int .i64 M) ∧ ((((((W.setCell ⟨R, 0, none⟩ u0).setCell ⟨R, 1, none⟩ u1).setCell ⟨R, 2, none⟩ u2).setCell ⟨R, 3, none⟩ u3).setCell ⟨R, 4, none⟩ u4).setCell ⟨R, 5, none⟩ u5).cell? ⟨p, 3, none⟩ = some (.int .i64 P) ∧ ((((((W.setCell ⟨R, 0, none⟩ u0).setCell ⟨R, 1, none⟩ u1).setCell ⟨R, 2, none⟩ u2).setCell ⟨R, 3, none⟩ u3).setCell ⟨R, 4, none⟩ u4).setCell ⟨R, 5, none⟩ u5).cell? ⟨p, 4, none⟩ = some s1 ∧ ((((((W.setCell ⟨R, 0, none⟩ u0).setCell ⟨R, 1, none⟩ u1).setCell ⟨R, 2, none⟩ u2).setCell ⟨R, 3, none⟩ u3).setCell ⟨R, 4, none⟩ u4).setCell ⟨R, 5, none⟩ u5).cell? ⟨p, 5, none⟩ = some s2 :=
  pbc_set (pbc_set (pbc_set (pbc_set (pbc_set (pbc_set h (a := ⟨R, 0, none⟩) hb _) (a := ⟨R, 1, none⟩) hb _) (a := ⟨R, 2, none⟩) hb _) (a := ⟨R, 3, none⟩) hb _) (a := ⟨R, 4, none⟩) hb _) (a := ⟨R, 5, none⟩) hb _
theorem pick_e (b : Nat) (A : Option Addr) (n c m : Nat) (q : Int) (w : World) (h : Cur w b A n c m) (hm : m ≤ 100000000) (hq : q ≤ 60000) :
    Calls Try.prog 44 #[.pointer (some ⟨b, 0, none⟩), .int .i64 q] w fun e w' => ∃ z : Int, e = .returned (.int .i64 z) ∧ Cur w' b A n c (m + 2) ∧ w.grownBy w' (some b) :=
  (pick_c b A n c m q w h hm hq).mono fun _ _ ⟨z, _, _, he, C, g⟩ => ⟨z, he, C, g⟩
set_option maxRecDepth 100000 in
set_option maxHeartbeats 4000000 in
theorem drawGo_c (A : Option Addr) (n c : Nat) (w : World) (h : RdB w w.heap.size A n) :
    Calls Try.prog 14 #[.slice A n c] w fun e w' => ∃ (L E M P k l : Int) (A1 A2 : Option Addr) (c1 c2 : Nat) (xs ys : List Int), e = .returned (.tuple #[.agg #[.int .i64 L, .int .i64 E, .int .i64 M, .int .i64 P, .slice A1 xs.length c1, .slice A2 ys.length c2], .int .i64 k, .int .i64 l]) ∧ OwnI w' w.heap.size (.slice A1 xs.length c1) xs ∧ OwnI w' w.heap.size (.slice A2 ys.length c2) ys ∧ xs.length ≤ 14 ∧ ys.length ≤ 14 ∧ Below w.heap.size w w' := by
  go_enter Try.func14, Try.ntmps14
  go_wp2_with fail
  obtain ⟨W0, hW0⟩ : ∃ W, W = w.alloc (.cells #[.int .i64 0, .int .i64 0, .int .i64 0, .int .i64 0, .slice none 0 0, .slice none 0 0] 28) := ⟨_, rfl⟩
  obtain ⟨W, hW⟩ : ∃ W, W = W0.alloc (.cells #[.slice A n c, .int .i64 0, .int .u64 0] 60) := ⟨_, rfl⟩
  rw [← hW0, ← hW]
  have B0 : Below w.heap.size w W := by rw [hW, hW0]; exact ((Below.refl _ _).alloc (Nat.le_refl _) _).alloc (by simp only [World.size_alloc]; omega) _
  have sb : W0.heap.size = w.heap.size + 1 := by rw [hW0]; simp
  have sW : W.heap.size = w.heap.size + 1 + 1 := by rw [hW, World.size_alloc, sb]
  have C0 : Cur W W0.heap.size A n c 0 := by rw [hW]; exact Cur.new _ _ (by rw [sb, hW0]; exact (h.below ((Below.refl _ _).alloc (Nat.le_refl _) _)).more (by omega))
  have rB0 : QB W w.heap.size 0 0 0 0 (.slice none 0 0) (.slice none 0 0) := by rw [hW, hW0]; exact (QB.new _ _ _ _ _ _ _).alloc _
  rw [sb] at C0
  clear hW hW0 sb h
  obtain ⟨b, hb⟩ : ∃ b, b = w.heap.size + 1 := ⟨_, rfl⟩
  rw [← hb] at C0 ⊢
  have hb1 : w.heap.size ≤ b := by omega
  have hrb : w.heap.size ≠ b := by omega
  have hbW : b < W.heap.size := by omega
  refine (pumping_c b A n c 0 W C0 (by omega)).mono ?_
  rintro e w1 ⟨L, E, M, P, s1, s2, xs, ys, rfl, C1, g1, O1, hx, hy⟩
  have B1 := below_grown (Nat.le_refl _) B0 g1 hb1
  have rB1 := rB0.kept g1 (fun e => hrb (Option.some.inj e))
  have s1' := g1.size
  obtain ⟨A1, c1, rfl⟩ := O1.o1.shape
  obtain ⟨A2, c2, rfl⟩ := O1.o2.shape
  clear g1 C0 B0 rB0 hb
  go_upto_region 3 with (fail)
  obtain ⟨W2, hW2⟩ : ∃ W2, W2 = w1.alloc (.cells #[.int .i64 L, .int .i64 E, .int .i64 M, .int .i64 P, .slice A1 xs.length c1, .slice A2 ys.length c2] 28) := ⟨_, rfl⟩
  rw [← hW2]
  have C2 : Cur W2 b A n c 100 := by rw [hW2]; exact C1.alloc _
  have rB2 : QB W2 w.heap.size 0 0 0 0 (.slice none 0 0) (.slice none 0 0) := by rw [hW2]; exact rB1.alloc _
  have q2 : QB W2 w1.heap.size L E M P (.slice A1 xs.length c1) (.slice A2 ys.length c2) := by rw [hW2]; exact QB.new _ _ _ _ _ _ _
  have O2 := O1.alloc (.cells #[.int .i64 L, .int .i64 E, .int .i64 M, .int .i64 P, .slice A1 xs.length c1, .slice A2 ys.length c2] 28)
  rw [← hW2] at O2
  have B2 : Below w.heap.size w W2 := by rw [hW2]; exact B1.alloc (by omega) _
  have G2 := World.grownBy.refl W2 (some b)
  have hpb : w1.heap.size ≠ b := by omega
  have hpr : ¬ w1.heap.size = w.heap.size := by omega
  have hrp : ¬ w.heap.size = w1.heap.size := by omega
  have S0 : W2.cell? ⟨w1.heap.size, 0, none⟩ = some (.int .i64 L) ∧ W2.cell? ⟨w1.heap.size, 1, none⟩ = some (.int .i64 E) ∧ W2.cell? ⟨w1.heap.size, 2, none⟩ = some (.int .i64 M) ∧ W2.cell? ⟨w1.heap.size, 3, none⟩ = some (.int .i64 P) ∧ W2.cell? ⟨w1.heap.size, 4, none⟩ = some (.slice A1 xs.length c1) ∧ W2.cell? ⟨w1.heap.size, 5, none⟩ = some (.slice A2 ys.length c2) := ⟨q2.p0, q2.p1, q2.p2, q2.p3, q2.p4, q2.p5⟩
  have hwl : IntKind.i64.wrap ((xs.length : Int) + 2) = (xs.length : Int) + 2 := IntWalk.i64_in _ (by omega)
  clear hW2 C1 rB1 O1 B1 q2
  generalize w1.heap.size = p at *
  have OH := Lib.hid O2
  have BH := Lib.hid B2
  have XH := Lib.hid (And.intro hx hy)
  clear O2 B2 hy
  go_region_held3 (fun w' => w'.cell? ⟨p, 0, none⟩ = some (.int .i64 L) ∧ w'.cell? ⟨p, 1, none⟩ = some (.int .i64 E) ∧ w'.cell? ⟨p, 2, none⟩ = some (.int .i64 M) ∧ w'.cell? ⟨p, 3, none⟩ = some (.int .i64 P) ∧ w'.cell? ⟨p, 4, none⟩ = some (.slice A1 xs.length c1) ∧ w'.cell? ⟨p, 5, none⟩ = some (.slice A2 ys.length c2))
    (first
      | ((with_reducible refine pbc_six ?_ hpr); with_reducible assumption)
      | (with_reducible exact pbc_drew S0)
      | (with_reducible exact pbc_far (by assumption) g6 hpb)
      | (with_reducible exact pbc_far (by assumption) g5 hpb)
      | (with_reducible exact pbc_far (by assumption) g4 hpb)
      | (with_reducible exact pbc_far (by assumption) g3 hpb))
    (first | (go_at_call 44; (with_reducible refine (pick_e b A n c 100 _ _ C2.drew (by omega) (by first | omega | (rw [hwl]; omega))).mono ?_); rintro e w3 ⟨x3, rfl, C3, g3⟩; have G3 := grown_trans G2 (grown_undrew g3); have rB3 := rB2.drew.kept g3 (fun e => hrb (Option.some.inj e)); obtain ⟨r0, r1, r2, r3, r4, r5, h0, h1, h2, h3, h4, h5⟩ := id rB3; clear rB2 G2 C2) | (go_at_call 44; (with_reducible refine (pick_e b A n c 102 _ _ C3 (by omega) (by first | omega | (rw [hwl]; omega))).mono ?_); rintro e w4 ⟨x4, rfl, C4, g4⟩; have G4 := grown_trans G3 g4; clear r0 r1 r2 r3 r4 r5 h0 h1 h2 h3 h4 h5; have rB4 := rB3.kept g4 (fun e => hrb (Option.some.inj e)); obtain ⟨r0, r1, r2, r3, r4, r5, h0, h1, h2, h3, h4, h5⟩ := id rB4; clear rB3 G3 C3) | (go_at_call 44; (with_reducible refine (pick_e b A n c 104 _ _ C4 (by omega) (by first | omega | (rw [hwl]; omega))).mono ?_); rintro e w5 ⟨x5, rfl, C5, g5⟩; have G5 := grown_trans G4 g5; clear r0 r1 r2 r3 r4 r5 h0 h1 h2 h3 h4 h5; have rB5 := rB4.kept g5 (fun e => hrb (Option.some.inj e)); obtain ⟨r0, r1, r2, r3, r4, r5, h0, h1, h2, h3, h4, h5⟩ := id rB5; clear rB4 G4 C4) | (go_at_call 44; (with_reducible refine (pick_e b A n c 106 _ _ C5 (by omega) (by first | omega | (rw [hwl]; omega))).mono ?_); rintro e w6 ⟨x6, rfl, C6, g6⟩; have G6 := grown_trans G5 g6; clear r0 r1 r2 r3 r4 r5 h0 h1 h2 h3 h4 h5; have rB6 := rB5.kept g6 (fun e => hrb (Option.some.inj e)); obtain ⟨r0, r1, r2, r3, r4, r5, h0, h1, h2, h3, h4, h5⟩ := id rB6; clear rB5 G5 C5))
  have O7 := own3_far OH.out G6 hbW
  have B7 := below_grown (Nat.le_refl _) BH.out G6 hb1
  have hRW : w.heap.size < W.heap.size := by omega
  clear S0 g3 g4 g5 g6
  go_wp2
  go_light
  refine bodyPost_ret (v := .tuple #[.agg #[.int .i64 L, .int .i64 E, .int .i64 M, .int .i64 P, .slice A1 xs.length c1, .slice A2 ys.length c2], .int .i64 (IntKind.i64.wrap (x3 - IntKind.i64.wrap (x4.tdiv 8))), .int .i64 (IntKind.i64.wrap (IntKind.i64.wrap (E + x5) - IntKind.i64.wrap (x6.tdiv 8)))]) (by simp (maxDischargeDepth := 8) [results, Try.results14, go_sem, *]) rfl ?_
  have O8 := own3_weak ((((((O7.set (a := ⟨w.heap.size, 0, none⟩) hRW (.int .i64 L)).set (a := ⟨w.heap.size, 1, none⟩) hRW (.int .i64 E)).set (a := ⟨w.heap.size, 2, none⟩) hRW (.int .i64 M)).set (a := ⟨w.heap.size, 3, none⟩) hRW (.int .i64 P)).set (a := ⟨w.heap.size, 4, none⟩) hRW (.slice A1 xs.length c1)).set (a := ⟨w.heap.size, 5, none⟩) hRW (.slice A2 ys.length c2)) (Nat.le_of_lt hRW)
  exact ⟨L, E, M, P, _, _, A1, A2, c1, c2, xs, ys, rfl, O8.o1, O8.o2, XH.out.1, XH.out.2, by (repeat' (first | (with_reducible exact Below.refl _ _) | (with_reducible assumption) | (with_reducible refine below_drewN ?_ _) | (with_reducible refine Below.alloc ?_ ?_ _) | (with_reducible refine Below.drew ?_) | (with_reducible refine Below.setCell ?_ ?_ _) | go_size))⟩
end Go.Proofs.Ytofcienabddpjaa
