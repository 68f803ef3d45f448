/- Contracts: what the great laws on parcels draw. -/
import Derived.Test.YtjpijcmfnckmaaaDPipe
import Derived.BigRegion
namespace Go.Proofs.Ytjpijcmfnckmaaa
open Go.RowKit

theorem grown_one (w : World) (a : Addr) (u : Value) : w.grownBy (w.setCell a u) (some a.block) :=
  ⟨rfl, rfl, rfl, by rw [World.size_setCell]; exact Nat.le_refl _, fun k _ hne => heap_setCell_other w a k u (fun e => hne (by rw [e]))⟩
/-- A list, a parcel's box and the result's box while they are drawn. -/
structure DPW (W0 wr : World) (b : Nat) (A : Option Addr) (n c m : Nat) (v : Value) (ys : List (Int × Int)) (R p : Nat) (V G : Int) : Prop where
  pw : PipW W0 wr b A n c m v ys
  p0 : wr.cell? ⟨p, 0, none⟩ = some (.int .i64 V)
  p1 : wr.cell? ⟨p, 1, none⟩ = some (.int .i64 G)
  q0 : wr.frozen? ⟨p, 0, none⟩ = false
  q1 : wr.frozen? ⟨p, 1, none⟩ = false
  r0 : wr.cell? ⟨R, 0, none⟩ = some (.int .i64 0)
  r1 : wr.cell? ⟨R, 1, none⟩ = some (.int .i64 0)
  s0 : wr.frozen? ⟨R, 0, none⟩ = false
  s1 : wr.frozen? ⟨R, 1, none⟩ = false
  lr : R < b
  lp : W0.heap.size ≤ p
  ne : v.ownBlock ≠ some p
theorem dcell {w w' : World} {row : Option Nat} {a : Addr} {u : Value} (g : w.grownBy w' row) (hr : row ≠ some a.block) (h : w.cell? a = some u) : w'.cell? a = some u :=
  (World.cell?_of_block (g.block a.block (lt_of_cell (by rw [h]; rfl)) (fun e => hr e.symm))).trans h
theorem dfroz {w w' : World} {row : Option Nat} {a : Addr} {u : Value} (g : w.grownBy w' row) (hr : row ≠ some a.block) (h : w.cell? a = some u) (f : w.frozen? a = false) : w'.frozen? a = false :=
  (World.frozen?_of_block (g.block a.block (lt_of_cell (by rw [h]; rfl)) (fun e => hr e.symm))).trans f
theorem DPW.far {W0 wr w' : World} {b : Nat} {A : Option Addr} {n c m m' : Nat} {v : Value} {ys : List (Int × Int)} {R p : Nat} {V G : Int} (h : DPW W0 wr b A n c m v ys R p V G) (C : Cur w' b A n c m') (g : wr.grownBy w' (some b)) : DPW W0 w' b A n c m' v ys R p V G := by
  have l := h.pw.lt
  have lr := h.lr
  have lp := h.lp
  have hp : some b ≠ some p := fun e => by have := Option.some.inj e; omega
  have hR : some b ≠ some R := fun e => by have := Option.some.inj e; omega
  exact ⟨h.pw.far C g, dcell g hp h.p0, dcell g hp h.p1, dfroz g hp h.p0 h.q0, dfroz g hp h.p1 h.q1, dcell g hR h.r0, dcell g hR h.r1, dfroz g hR h.r0 h.s0, dfroz g hR h.r1 h.s1, lr, lp, h.ne⟩
theorem PipW.setp {w wr : World} {b : Nat} {A : Option Addr} {n c m : Nat} {v : Value} {ys : List (Int × Int)} (h : PipW w wr b A n c m v ys) {a : Addr} (ha : w.heap.size ≤ a.block) (hn : v.ownBlock ≠ some a.block) (u : Value) : PipW w (wr.setCell a u) b A n c m v ys :=
  ⟨h.cur.setOther (by have := h.lt; omega) u, grown_set h.gr ha u, h.own.kept (grown_one wr a u) (by cases e : v.ownBlock with | none => exact .inl rfl | some k => exact .inr (fun q => hn (by rw [e, q]))), h.lt⟩
theorem DPW.set0 {W0 wr : World} {b : Nat} {A : Option Addr} {n c m : Nat} {v : Value} {ys : List (Int × Int)} {R p : Nat} {V G : Int} (h : DPW W0 wr b A n c m v ys R p V G) (X : Int) : DPW W0 (wr.setCell ⟨p, 0, none⟩ (.int .i64 X)) b A n c m v ys R p X G := by
  have l := h.pw.lt
  have lr := h.lr
  have lp := h.lp
  have hpr : ¬ R = p := by omega
  have hpr2 : ¬ p = R := by omega
  obtain ⟨pw, p0, p1, q0, q1, r0, r1, s0, s1, _, _, ne⟩ := h
  exact ⟨pw.setp (a := ⟨p, 0, none⟩) lp ne _, by simp [*, go_sem], by simp [*, go_sem], by simp [*, go_sem], by simp [*, go_sem], by simp [*, go_sem], by simp [*, go_sem], by simp [*, go_sem], by simp [*, go_sem], lr, lp, ne⟩
theorem DPW.set1 {W0 wr : World} {b : Nat} {A : Option Addr} {n c m : Nat} {v : Value} {ys : List (Int × Int)} {R p : Nat} {V G : Int} (h : DPW W0 wr b A n c m v ys R p V G) (X : Int) : DPW W0 (wr.setCell ⟨p, 1, none⟩ (.int .i64 X)) b A n c m v ys R p V X := by
  have l := h.pw.lt
  have lr := h.lr
  have lp := h.lp
  have hpr : ¬ R = p := by omega
  have hpr2 : ¬ p = R := by omega
  obtain ⟨pw, p0, p1, q0, q1, r0, r1, s0, s1, _, _, ne⟩ := h
  exact ⟨pw.setp (a := ⟨p, 1, none⟩) lp ne _, by simp [*, go_sem], by simp [*, go_sem], by simp [*, go_sem], by simp [*, go_sem], by simp [*, go_sem], by simp [*, go_sem], by simp [*, go_sem], by simp [*, go_sem], lr, lp, ne⟩
set_option maxRecDepth 100000 in
set_option maxHeartbeats 4000000 in
theorem drawPush_c (A : Option Addr) (n c : Nat) (w : World) (h : RdB w w.heap.size A n) : Calls Try.prog 15 #[.slice A n c] w fun e w' => ∃ (A1 : Option Addr) (c1 : Nat) (ys : List (Int × Int)) (V G : Int), e = .returned (.tuple #[.slice A1 ys.length c1, .agg #[.int .i64 V, .int .i64 G]]) ∧ OwnP w' w.heap.size (.slice A1 ys.length c1) ys ∧ ys.length ≤ 16 ∧ Below w.heap.size w w' := by
  go_enter Try.func15, Try.ntmps15
  go_upto_region 2 with (fail)
  obtain ⟨W, hW⟩ : ∃ W, W = (w.alloc (.cells #[.int .i64 0, .int .i64 0] 26)).alloc (.cells #[.slice A n c, .int .i64 0, .int .u64 0] 58) := ⟨_, rfl⟩
  rw [← hW]
  have C0 : Cur W (w.heap.size + 1) A n c 0 := by
    have := Cur.new (w := w.alloc (.cells #[.int .i64 0, .int .i64 0] 26)) (A := A) (n := n) c 58 ((h.below ((Below.refl _ _).alloc (Nat.le_refl _) _)).more (by simp))
    rw [World.size_alloc] at this
    rw [hW]; exact this
  have B0 : Below w.heap.size w W := by rw [hW]; exact ((Below.refl _ _).alloc (Nat.le_refl _) _).alloc (by simp) _
  have r0 : W.cell? ⟨w.heap.size, 0, none⟩ = some (.int .i64 0) := by rw [hW]; simp [go_sem]
  have r1 : W.cell? ⟨w.heap.size, 1, none⟩ = some (.int .i64 0) := by rw [hW]; simp [go_sem]
  have s0 : W.frozen? ⟨w.heap.size, 0, none⟩ = false := by rw [hW]; simp [go_sem]
  have s1 : W.frozen? ⟨w.heap.size, 1, none⟩ = false := by rw [hW]; simp [go_sem]
  have sW : W.heap.size = w.heap.size + 1 + 1 := by rw [hW]; simp
  clear hW h
  obtain ⟨b, hb⟩ : ∃ b, b = w.heap.size + 1 := ⟨_, rfl⟩
  rw [← hb] at C0 ⊢
  have lb : w.heap.size < b := by omega
  have lW : b < W.heap.size := by omega
  clear hb sW
  go_wp2_with fail
  refine (pipeful_c b A n c 0 W C0 (by omega)).mono ?_
  rintro e w1 ⟨A1, c1, ys, rfl, C1, g1, o1, hl⟩
  go_wp2_with fail
  refine (parcel_c b A n c _ w1 C1 (by omega)).mono ?_
  rintro e w2 ⟨V, G, V0, V1, G0, G1, rfl, C2, g2⟩
  go_upto_region 4 with (fail)
  have P2 : PipW W w2 b A n c _ (.slice A1 ys.length c1) ys := ⟨C2, grown_trans g1 g2, ownP_far o1 g2 (by omega), by omega⟩
  have nb : some b ≠ some w.heap.size := fun e => by have := Option.some.inj e; omega
  have R0 := dcell P2.gr nb r0
  have R1 := dcell P2.gr nb r1
  have S0 := dfroz P2.gr nb r0 s0
  have S1 := dfroz P2.gr nb r1 s1
  have zr := P2.room
  have wl : w.heap.size < w2.heap.size := by omega
  obtain ⟨w3, hW⟩ : ∃ X, X = w2.alloc (.cells #[.int .i64 V, .int .i64 G] 26) := ⟨_, rfl⟩
  rw [← hW]
  have D : DPW W w3 b A n c 108 (.slice A1 ys.length c1) ys w.heap.size w2.heap.size V G := by
    have hb3 : Below w2.heap.size w2 w3 := by rw [hW]; exact (Below.refl _ _).alloc (Nat.le_refl _) _
    refine ⟨P2.below hb3, by rw [hW]; exact World.cell?_alloc_new w2 _ _ 0, by rw [hW]; exact World.cell?_alloc_new w2 _ _ 1, by rw [hW]; simp [go_sem], by rw [hW]; simp [go_sem], (hb3.cell (p := ⟨w.heap.size, 0, none⟩) wl).trans R0, (hb3.cell (p := ⟨w.heap.size, 1, none⟩) wl).trans R1, (hb3.frozen (p := ⟨w.heap.size, 0, none⟩) wl).trans S0, (hb3.frozen (p := ⟨w.heap.size, 1, none⟩) wl).trans S1, by omega, zr, fun e => ?_⟩
    have := (P2.own.lt _ e).2
    omega
  have DH := Lib.hid D
  clear D hW P2 R0 R1 S0 S1 r0 r1 s0 s1 C0 C1 C2 g1 g2 o1 V0 V1 G0 G1 nb zr wl
  generalize w2.heap.size = p at *
  go_cut [20] (fun tv wx => ∃ t : Bool, tv = .bool (decide (0 < ys.length) && t) ∧ DPW W wx b A n c 110 (.slice A1 ys.length c1) ys w.heap.size p V G)
  case first =>
    by_cases h0 : 0 < ys.length
    · have hi : (0 : Int) < (ys.length : Int) := by omega
      have hd : decide ((0 : Int) < (ys.length : Int)) = true := decide_eq_true hi
      have OC := Lib.hid (one_c b A n c 108 5 w3 DH.out.pw.cur (by omega) (by omega))
      go_wp2_with fail
      refine OC.out.mono ?_
      rintro e w4 ⟨t, rfl, C4, g4⟩
      have D4 := Lib.hid (DH.out.far C4 g4)
      clear C4 g4 OC
      go_wp2_with fail
      go_meet
      exact ⟨t, by simp [h0], D4.out⟩
    · have hd : decide ((0 : Int) < (ys.length : Int)) = false := decide_eq_false (by omega)
      go_wp2_with fail
      go_meet
      exact ⟨true, by simp [h0], ⟨DH.out.pw.weak (by omega), DH.out.p0, DH.out.p1, DH.out.q0, DH.out.q1, DH.out.r0, DH.out.r1, DH.out.s0, DH.out.s1, DH.out.lr, DH.out.lp, DH.out.ne⟩⟩
  case rest =>
    clear DH
    obtain ⟨t, rfl, D⟩ := hcut
    have DH := Lib.hid D
    clear D
    go_upto_if 20 with (fail)
    go_cut [20] (fun _ wx => ∃ X : Int, DPW W wx b A n c 110 (.slice A1 ys.length c1) ys w.heap.size p V X)
    case first =>
      by_cases h0 : 0 < ys.length ∧ t = true
      · obtain ⟨h0, rfl⟩ := h0
        have hd : (decide (0 < ys.length) && true) = true := by simp [h0]
        rw [hd]
        obtain ⟨g, off, x, y, hA, hxy, hg, hx, hy⟩ := DH.out.pw.own.rd.at_ h0
        subst hA
        have hi : (0 : Int) < (ys.length : Int) := by omega
        have p1 := DH.out.p1
        have q1 := DH.out.q1
        go_wp2_with fail
        go_meet
        exact ⟨_, DH.out.set1 _⟩
      · have hd : (decide (0 < ys.length) && t) = false := by
          cases t
          · simp
          · rw [decide_eq_false (fun q => h0 ⟨q, rfl⟩)]; rfl
        rw [hd]
        clear h0
        go_wp2_with fail
        go_meet
        exact ⟨_, DH.out⟩
    case rest =>
      clear DH
      obtain ⟨X, D⟩ := hcut
      have OC := Lib.hid (one_c b A n c 110 8 wc D.pw.cur (by omega) (by omega))
      have DH := Lib.hid D
      clear D
      go_wp2_with fail
      refine OC.out.mono ?_
      rintro e w5 ⟨t2, rfl, C5, g5⟩
      have D5 := DH.out.far C5 g5
      clear C5 g5 OC DH
      cases t2
      · go_upto_region 8 with (fail)
        obtain ⟨pw, p0, p1, q0, q1, r0, r1, s0, s1, lr, lp, ne⟩ := id D5
        clear D5
        have B6 := below_grown (Nat.le_refl _) B0 pw.gr (by omega)
        have O6 := Lib.hid (((pw.own.setBelow (a := ⟨w.heap.size, 0, none⟩) (by show w.heap.size < _; omega) (.int .i64 V)).setBelow (a := ⟨w.heap.size, 1, none⟩) (by show w.heap.size < _; omega) (.int .i64 X)).weak (base' := w.heap.size) (by omega))
        have hpr : ¬ w.heap.size = p := by omega
        have hpr2 : ¬ p = w.heap.size := by omega
        clear pw ne q0 q1
        go_big_region
        go_wp2
        refine bodyPost_ret (v := .tuple #[.slice A1 ys.length c1, .agg #[.int .i64 V, .int .i64 X]]) (by simp (maxDischargeDepth := 6) [results, Try.results15, go_sem, *]) rfl ?_
        exact ⟨A1, c1, ys, V, X, rfl, O6.out, hl, by (repeat' (first | (with_reducible exact Below.refl _ _) | (with_reducible assumption) | (with_reducible refine below_drewN ?_ _) | (with_reducible refine Below.alloc ?_ ?_ _) | (with_reducible refine Below.drew ?_) | (with_reducible refine Below.setCell ?_ ?_ _) | go_size))⟩
      · have D6 := D5.set0 200
        have p0 := D5.p0
        have q0 := D5.q0
        clear D5
        go_upto_region 8 with (fail)
        clear p0 q0
        generalize w5.setCell ⟨p, 0, none⟩ (.int .i64 200) = w6 at *
        obtain ⟨pw, p0, p1, q0, q1, r0, r1, s0, s1, lr, lp, ne⟩ := id D6
        clear D6
        have B6 := below_grown (Nat.le_refl _) B0 pw.gr (by omega)
        have O6 := Lib.hid (((pw.own.setBelow (a := ⟨w.heap.size, 0, none⟩) (by show w.heap.size < _; omega) (.int .i64 200)).setBelow (a := ⟨w.heap.size, 1, none⟩) (by show w.heap.size < _; omega) (.int .i64 X)).weak (base' := w.heap.size) (by omega))
        have hpr : ¬ w.heap.size = p := by omega
        have hpr2 : ¬ p = w.heap.size := by omega
        clear pw ne q0 q1
        go_big_region
        go_wp2
        refine bodyPost_ret (v := .tuple #[.slice A1 ys.length c1, .agg #[.int .i64 200, .int .i64 X]]) (by simp (maxDischargeDepth := 6) [results, Try.results15, go_sem, *]) rfl ?_
        exact ⟨A1, c1, ys, 200, X, rfl, O6.out, hl, by (repeat' (first | (with_reducible exact Below.refl _ _) | (with_reducible assumption) | (with_reducible refine below_drewN ?_ _) | (with_reducible refine Below.alloc ?_ ?_ _) | (with_reducible refine Below.drew ?_) | (with_reducible refine Below.setCell ?_ ?_ _) | go_size))⟩
theorem drawPipe_c (A : Option Addr) (n c : Nat) (w : World) (h : RdB w w.heap.size A n) : Calls Try.prog 64 #[.slice A n c] w fun e w' => ∃ (A1 : Option Addr) (c1 : Nat) (ys : List (Int × Int)), e = .returned (.slice A1 ys.length c1) ∧ OwnP w' w.heap.size (.slice A1 ys.length c1) ys ∧ ys.length ≤ 16 ∧ Below w.heap.size w w' := by
  go_enter Try.func64, Try.ntmps64
  go_upto_region 2 with (fail)
  obtain ⟨W, hW⟩ : ∃ W, W = w.alloc (.cells #[.slice A n c, .int .i64 0, .int .u64 0] 58) := ⟨_, rfl⟩
  rw [← hW]
  have C0 : Cur W w.heap.size A n c 0 := by rw [hW]; exact Cur.new _ _ h
  have B0 : Below w.heap.size w W := by rw [hW]; exact (Below.refl _ _).alloc (Nat.le_refl _) _
  have lW : w.heap.size ≤ W.heap.size := B0.size
  clear hW h
  go_wp2_with fail
  refine (pipeful_c w.heap.size A n c 0 W C0 (by omega)).mono ?_
  rintro e w1 ⟨A1, c1, ys, rfl, C1, g1, o1, hl⟩
  have B1 := below_grown (Nat.le_refl _) B0 g1 (Nat.le_refl _)
  have O1 := Lib.hid (o1.weak lW)
  clear C1 g1 o1 C0
  go_wp2
  go_returns
  exact ⟨A1, c1, ys, rfl, O1.out, hl, B1⟩
theorem drawLeast_c (A : Option Addr) (n c : Nat) (w : World) (h : RdB w w.heap.size A n) : Calls Try.prog 43 #[.slice A n c] w fun e w' => ∃ (A1 : Option Addr) (c1 : Nat) (ys : List (Int × Int)), e = .returned (.slice A1 ys.length c1) ∧ OwnP w' w.heap.size (.slice A1 ys.length c1) ys ∧ ys.length ≤ 16 ∧ Below w.heap.size w w' := by
  go_enter Try.func43, Try.ntmps43
  go_wp2_with fail
  refine (drawPipe_c A n c w h).mono ?_
  rintro e w1 ⟨A1, c1, ys, rfl, o1, hl, b1⟩
  have O1 := Lib.hid o1
  clear o1
  go_wp2
  go_returns
  exact ⟨A1, c1, ys, rfl, O1.out, hl, b1⟩
theorem drawGradeAt_c (A : Option Addr) (n c : Nat) (w : World) (h : RdB w w.heap.size A n) : Calls Try.prog 23 #[.slice A n c] w fun e w' => ∃ (A1 : Option Addr) (c1 : Nat) (ys : List (Int × Int)) (z : Int), e = .returned (.tuple #[.slice A1 ys.length c1, .int .i64 z]) ∧ (-1 ≤ z ∧ z ≤ 10001) ∧ OwnP w' w.heap.size (.slice A1 ys.length c1) ys ∧ ys.length ≤ 16 ∧ Below w.heap.size w w' := by
  go_enter Try.func23, Try.ntmps23
  go_upto_region 2 with (fail)
  obtain ⟨W, hW⟩ : ∃ W, W = w.alloc (.cells #[.slice A n c, .int .i64 0, .int .u64 0] 58) := ⟨_, rfl⟩
  rw [← hW]
  have C0 : Cur W w.heap.size A n c 0 := by rw [hW]; exact Cur.new _ _ h
  have B0 : Below w.heap.size w W := by rw [hW]; exact (Below.refl _ _).alloc (Nat.le_refl _) _
  have lW : w.heap.size < W.heap.size := C0.lt
  clear hW h
  go_wp2_with fail
  refine (pipeful_c w.heap.size A n c 0 W C0 (by omega)).mono ?_
  rintro e w1 ⟨A1, c1, ys, rfl, C1, g1, o1, hl⟩
  go_wp2_with fail
  refine (pick_c w.heap.size A n c _ 100 w1 C1 (by omega) (by omega)).mono ?_
  rintro e w2 ⟨x, x0, x1, rfl, C2, g2⟩
  go_wp2_with fail
  refine (pick_c w.heap.size A n c _ 9 w2 C2 (by omega) (by omega)).mono ?_
  rintro e w3 ⟨y, y0, y1, rfl, C3, g3⟩
  have B1 := below_grown (Nat.le_refl _) B0 (grown_trans g1 (grown_trans g2 g3)) (Nat.le_refl _)
  have O1 := Lib.hid ((ownP_far (ownP_far o1 g2 lW) g3 lW).weak (base' := w.heap.size) (by omega))
  have dy : y.tdiv 8 = y / 8 := Int.tdiv_eq_ediv_of_nonneg y0
  have W8 : IntKind.i64.wrap (y / 8) = y / 8 := IntWalk.i64_in _ (by omega)
  have Wx : IntKind.i64.wrap (x - y / 8) = x - y / 8 := IntWalk.i64_in _ (by omega)
  clear C1 C2 C3 g1 g2 g3 o1 C0 lW
  go_wp2
  go_returns
  exact ⟨A1, c1, ys, x - y / 8, by simp [*], by omega, O1.out, hl, B1⟩
theorem drawFlush_c (A : Option Addr) (n c : Nat) (w : World) (h : RdB w w.heap.size A n) : Calls Try.prog 44 #[.slice A n c] w fun e w' => ∃ (A1 : Option Addr) (c1 : Nat) (ys : List (Int × Int)) (z : Int), e = .returned (.tuple #[.slice A1 ys.length c1, .int .i64 z]) ∧ (-1 ≤ z ∧ z ≤ 10001) ∧ OwnP w' w.heap.size (.slice A1 ys.length c1) ys ∧ ys.length ≤ 16 ∧ Below w.heap.size w w' := by
  go_enter Try.func44, Try.ntmps44
  go_upto_region 2 with (fail)
  obtain ⟨W, hW⟩ : ∃ W, W = w.alloc (.cells #[.slice A n c, .int .i64 0, .int .u64 0] 58) := ⟨_, rfl⟩
  rw [← hW]
  have C0 : Cur W w.heap.size A n c 0 := by rw [hW]; exact Cur.new _ _ h
  have B0 : Below w.heap.size w W := by rw [hW]; exact (Below.refl _ _).alloc (Nat.le_refl _) _
  have lW : w.heap.size < W.heap.size := C0.lt
  clear hW h
  go_wp2_with fail
  refine (pipeful_c w.heap.size A n c 0 W C0 (by omega)).mono ?_
  rintro e w1 ⟨A1, c1, ys, rfl, C1, g1, o1, hl⟩
  go_wp2_with fail
  refine (amongL_c w.heap.size A n c _ [0, 4, 5, 10, 50, 100, 10000, 10001, -1] w1 C1 _ _ _ _ (by omega) rfl rfl rfl (by simp) (by simp)).mono ?_
  rintro e w2 ⟨z, hz, rfl, C2, g2⟩
  have zb : -1 ≤ z ∧ z ≤ 10001 := by simp at hz; omega
  have B1 := below_grown (Nat.le_refl _) B0 (grown_trans g1 g2) (Nat.le_refl _)
  have O1 := Lib.hid ((ownP_far o1 g2 lW).weak (base' := w.heap.size) (by omega))
  clear C1 C2 g1 g2 o1 C0 lW hz
  go_wp2
  go_returns
  exact ⟨A1, c1, ys, z, rfl, zb, O1.out, hl, B1⟩
theorem drawDecay_c (A : Option Addr) (n c : Nat) (w : World) (h : RdB w w.heap.size A n) : Calls Try.prog 42 #[.slice A n c] w fun e w' => ∃ (A1 : Option Addr) (c1 : Nat) (ys : List (Int × Int)) (z d : Int), e = .returned (.tuple #[.slice A1 ys.length c1, .int .i64 z, .int .i64 d]) ∧ (-1 ≤ z ∧ z ≤ 102) ∧ (0 ≤ d ∧ d ≤ 101) ∧ OwnP w' w.heap.size (.slice A1 ys.length c1) ys ∧ ys.length ≤ 16 ∧ Below w.heap.size w w' := by
  go_enter Try.func42, Try.ntmps42
  go_upto_region 2 with (fail)
  obtain ⟨W, hW⟩ : ∃ W, W = w.alloc (.cells #[.slice A n c, .int .i64 0, .int .u64 0] 58) := ⟨_, rfl⟩
  rw [← hW]
  have C0 : Cur W w.heap.size A n c 0 := by rw [hW]; exact Cur.new _ _ h
  have B0 : Below w.heap.size w W := by rw [hW]; exact (Below.refl _ _).alloc (Nat.le_refl _) _
  have lW : w.heap.size < W.heap.size := C0.lt
  clear hW h
  go_wp2_with fail
  refine (amongL_c w.heap.size A n c _ [1, 2, 3, 10, 100, 0, 101] W C0 _ _ _ _ (by omega) rfl rfl rfl (by simp) (by simp)).mono ?_
  rintro e w1 ⟨d, hd, rfl, C1, g1⟩
  have db : 0 ≤ d ∧ d ≤ 101 := by simp at hd; omega
  have l1 := g1.size
  clear hd
  go_wp2_with fail
  refine (pipeful_c w.heap.size A n c _ w1 C1 (by omega)).mono ?_
  rintro e w2 ⟨A1, c1, ys, rfl, C2, g2, o2, hl⟩
  have dy : d.tdiv 2 = d / 2 := Int.tdiv_eq_ediv_of_nonneg db.1
  have W2 : IntKind.i64.wrap (d / 2) = d / 2 := IntWalk.i64_in _ (by omega)
  have W1 : IntKind.i64.wrap (d - 1) = d - 1 := IntWalk.i64_in _ (by omega)
  have W3 : IntKind.i64.wrap (d + 1) = d + 1 := IntWalk.i64_in _ (by omega)
  go_wp2_with fail
  refine (amongL_c w.heap.size A n c _ [d, d - 1, d / 2, 0, d + 1, -1, d - 1] w2 C2 _ _ _ _ (by omega) rfl rfl rfl (by simp) (by simp)).mono ?_
  rintro e w3 ⟨z, hz, rfl, C3, g3⟩
  have zb : -1 ≤ z ∧ z ≤ 102 := by simp at hz; omega
  have B1 := below_grown (Nat.le_refl _) B0 (grown_trans g1 (grown_trans g2 g3)) (Nat.le_refl _)
  have O1 := Lib.hid ((ownP_far o2 g3 (by omega)).weak (base' := w.heap.size) (by omega))
  clear C1 C2 C3 g1 g2 g3 o2 C0 lW hz dy W2 W1 W3
  go_wp2
  go_returns
  exact ⟨A1, c1, ys, z, d, rfl, zb, db, O1.out, hl, B1⟩
end Go.Proofs.Ytjpijcmfnckmaaa
