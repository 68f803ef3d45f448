/- Contracts: places and rules drawn. -/
import Derived.Test.YtakpoalcfjedlaaZRule
import Derived.Test.YtakpoalcfjedlaaDrawR
import Derived.BigRegion
namespace Go.Proofs.Ytakpoalcfjedlaa
open Go.RowKit

def lenV : Value → Nat
  | .slice _ n _ => n
  | _ => 0
/-- A list while it is drawn. -/
structure PlcW (w wr : World) (b : Nat) (A : Option Addr) (n c m : Nat) (v : Value) (ys : List Int) : Prop where
  cur : Cur wr b A n c m
  gr : w.grownBy wr (some b)
  own : OwnI wr w.heap.size v ys
  lt : b < w.heap.size
theorem PlcW.far {w wr w' : World} {b : Nat} {A : Option Addr} {n c m m' : Nat} {v : Value} {ys : List Int} (h : PlcW w wr b A n c m v ys) (C : Cur w' b A n c m') (g : wr.grownBy w' (some b)) : PlcW w w' b A n c m' v ys :=
  ⟨C, grown_trans h.gr g, own_far h.own g h.lt, h.lt⟩
theorem PlcW.app {w wr w' : World} {b : Nat} {A : Option Addr} {n c m : Nat} {v v' : Value} {ys zs : List Int} (h : PlcW w wr b A n c m v ys) (o : OwnI w' w.heap.size v' zs) (g : wr.grownBy w' v.ownBlock) : PlcW w w' b A n c m v' zs := by
  have q := own_ge h.own
  have l := h.lt
  exact ⟨h.cur.kept g (fun k hk => by have := q _ hk; omega), grown_own h.gr g q, o, l⟩
theorem PlcW.weak {w wr : World} {b : Nat} {A : Option Addr} {n c m m' : Nat} {v : Value} {ys : List Int} (h : PlcW w wr b A n c m v ys) (hm : m ≤ m') : PlcW w wr b A n c m' v ys := ⟨h.cur.weak hm, h.gr, h.own, h.lt⟩
theorem PlcW.room {w wr : World} {b : Nat} {A : Option Addr} {n c m : Nat} {v : Value} {ys : List Int} (h : PlcW w wr b A n c m v ys) : w.heap.size ≤ wr.heap.size := h.gr.size
set_option maxHeartbeats 4000000 in
theorem places12_c (b : Nat) (A : Option Addr) (n c m : Nat) (w : World) (h : Cur w b A n c m) (hm : m ≤ 900000) :
    Calls Try.prog 56 #[.pointer (some ⟨b, 0, none⟩)] w fun e w' => ∃ (A1 : Option Addr) (c1 : Nat) (ys : List Int), e = .returned (.slice A1 ys.length c1) ∧ Cur w' b A n c (m + 100) ∧ w.grownBy w' (some b) ∧ OwnI w' w.heap.size (.slice A1 ys.length c1) ys ∧ ys.length ≤ 14 := by
  have hlt := h.lt
  go_enter Try.func56, Try.ntmps56
  go_upto_region 2 with (fail)
  obtain ⟨w0, hW⟩ : ∃ W, W = w.alloc (.cells #[] 3) := ⟨_, rfl⟩
  rw [← hW]
  have P0 : PlcW w w0 b A n c m (.slice (some ⟨w.heap.size, 0, none⟩) 0 0) [] := by
    rw [hW]
    exact ⟨h.alloc _, World.grownBy_alloc _ _ _, own_empty w _ (Nat.le_refl _), hlt⟩
  clear hW h
  go_wp2_with fail
  refine (pick_c b A n c m 7 w0 P0.cur (by omega) (by omega)).mono ?_
  rintro e w1 ⟨x, x0, x1, rfl, C1, g1⟩
  have P1 := P0.far C1 g1
  obtain ⟨k0, rfl⟩ := Int.eq_ofNat_of_zero_le x0
  have PH := Lib.hid P1
  have k5 : k0 ≤ 7 := by omega
  clear P0 C1 g1 x0 x1 P1
  go_wp2
  go_loopw [3, 4] (fun lv nv wr => ∃ (k : Nat) (v : Value) (ys : List Int), k ≤ 7 ∧ nv = .int .i64 k ∧ v = lv ∧ ys.length + k ≤ 7 ∧ PlcW w wr b A n c (m + 16 - 2 * k) v ys) (fun _ nv _ => (intOf nv).toNat)
  case atStart => exact ⟨k0, _, [], by omega, rfl, rfl, by simp; omega, PH.out.weak (by omega)⟩
  case round =>
    clear PH k5
    obtain ⟨k, v, ys, hk, rfl, rfl, hl, P⟩ := hrel
    by_cases hk0 : 0 < k
    · obtain ⟨k, rfl⟩ : ∃ j, k = j + 1 := ⟨k - 1, by omega⟩
      have hi : (0 : Int) < ((k + 1 : Nat) : Int) := by omega
      have Wk : IntKind.i64.wrap (((k + 1 : Nat) : Int) - 1) = (k : Int) := by rw [show (((k + 1 : Nat) : Int) - 1) = (k : Int) by omega]; exact IntWalk.i64_in _ (by omega)
      have PC := Lib.hid (fun (q k k' : Nat) (cs : Array Value) (e1 : q = wr.heap.size) (e2 : k = 8) (e3 : cs = (([0, 5, 10, 40, 41, 90, 300, 1000] : List Int).map (Value.int .i64)).toArray) => amongL_c b A n c _ [0, 5, 10, 40, 41, 90, 300, 1000] wr P.cur q k k' cs (by omega) e1 e2 e3 (by simp) (by simp))
      have PH := Lib.hid P
      clear P
      go_wp2_with fail
      refine (PC.out _ _ _ _ rfl rfl rfl).mono ?_
      rintro e w2 ⟨z, hz, rfl, C2, g2⟩
      have P2 := PH.out.far C2 g2
      have zr := P2.room
      clear C2 g2 PC PH hz
      go_wp2_with (at_builtin; (refine wpList_appK (wr := w2) rfl (.tmp 12) (.tmp 16) rfl w.heap.size _ _ _ _ rfl P2.own rfl (by omega) (by omega) (by omega) ?_; intro v4 w4 q4 g4 l4))
      have P4 := P2.app q4 g4
      have PH := Lib.hid P4
      clear P2 P4 q4 g4 l4
      go_roundw
      case rel => exact ⟨k, v4, ys ++ [z], by omega, by go_num, rfl, by simp; omega, PH.out.weak (by omega)⟩
      case measure => simp [intOf]
    · obtain rfl : k = 0 := by omega
      have PC := Lib.hid (pick_c b A n c _ 30 wr P.cur (by omega) (by omega))
      have PH := Lib.hid P
      clear P
      go_wp2_with fail
      refine PC.out.mono ?_
      rintro e w2 ⟨x, x0, x1, rfl, C2, g2⟩
      have P2 := PH.out.far C2 g2
      clear C2 g2 PC PH
      by_cases c0 : x = 0
      · subst c0
        have PC := Lib.hid (fun (q k k' : Nat) (cs : Array Value) (e1 : q = w2.heap.size) (e2 : k = 2) (e3 : cs = (([-1, 1001] : List Int).map (Value.int .i64)).toArray) => amongL_c b A n c _ [-1, 1001] w2 P2.cur q k k' cs (by omega) e1 e2 e3 (by simp) (by simp))
        have PH := Lib.hid P2
        have c1b : ((0 : Int) == 1) = false := by simp
        clear P2
        go_wp2_with fail
        refine (PC.out _ _ _ _ rfl rfl rfl).mono ?_
        rintro e w3 ⟨z, hz, rfl, C3, g3⟩
        have P3 := PH.out.far C3 g3
        have zr := P3.room
        clear C3 g3 PC PH hz
        go_wp2_with (at_builtin; (refine wpList_appK (wr := w3) rfl (.tmp 22) (.tmp 26) rfl w.heap.size _ _ _ _ rfl P3.own rfl (by omega) (by omega) (by omega) ?_; intro v4 w4 q4 g4 l4))
        have P4 := P3.app q4 g4
        obtain ⟨A1, c1, rfl⟩ := P4.own.shape
        have PH := Lib.hid P4
        clear P3 P4 q4 g4 l4
        go_wp2
        go_returns
        exact ⟨A1, c1, _, rfl, PH.out.cur.weak (by omega), PH.out.gr, PH.out.own, by simp; omega⟩
      by_cases c1 : x = 1
      · subst c1
        have PH := Lib.hid P2
        clear P2
        go_wp2
        go_loopw [3] (fun lv wr => ∃ (v : Value) (ys : List Int), v = lv ∧ ys.length ≤ 13 ∧ PlcW w wr b A n c (m + 20 + 2 * ys.length) v ys) (fun lv _ => 14 - lenV lv)
        case atStart => exact ⟨_, ys, rfl, by omega, PH.out.weak (by omega)⟩
        case round =>
          clear PH hl
          obtain ⟨v, ys, rfl, hl, P⟩ := hrel
          obtain ⟨A1, c1, rfl⟩ := P.own.shape
          have PC := Lib.hid (pick_c b A n c _ 2 wr P.cur (by omega) (by omega))
          have PH := Lib.hid P
          clear P
          go_wp2_with fail
          refine PC.out.mono ?_
          rintro e w3 ⟨z, z0, z1, rfl, C3, g3⟩
          have P3 := PH.out.far C3 g3
          have zr := P3.room
          have Wz : IntKind.i64.wrap (12 + z) = 12 + z := IntWalk.i64_in _ (by omega)
          clear C3 g3 PC PH
          by_cases t1 : (ys.length : Int) < 12 + z
          · have d1 : decide ((ys.length : Int) < 12 + z) = true := decide_eq_true t1
            go_wp2_with (at_builtin; (refine wpList_appK (wr := w3) rfl (.tmp 36) (.tmp 39) rfl w.heap.size _ _ _ _ rfl P3.own rfl (by omega) (by omega) (by omega) ?_; intro v4 w4 q4 g4 l4))
            have P4 := P3.app q4 g4
            obtain ⟨A2, c2, hv⟩ := P4.own.shape
            have PH := Lib.hid P4
            have l5 : lenV v4 = ys.length + 1 := by rw [hv]; simp [lenV]
            have LH := Lib.hid l5
            clear P3 P4 q4 g4 l4 hv l5
            go_roundw
            case rel => exact ⟨_, _, rfl, by simp; omega, PH.out.weak (by simp; omega)⟩
            case measure => show 14 - lenV v4 < _; rw [LH.out]; simp [lenV]; omega
          · have d1 : decide ((ys.length : Int) < 12 + z) = false := decide_eq_false t1
            have PH := Lib.hid P3
            clear P3
            go_wp2
            go_returns
            exact ⟨A1, c1, ys, rfl, PH.out.cur.weak (by omega), PH.out.gr, PH.out.own, by omega⟩
      have c0b : (x == 0) = false := by simp [c0]
      have c1b : (x == 1) = false := by simp [c1]
      obtain ⟨A1, c1', rfl⟩ := P2.own.shape
      have PH := Lib.hid P2
      clear P2
      go_wp2
      go_returns
      exact ⟨A1, c1', ys, rfl, PH.out.cur.weak (by omega), PH.out.gr, PH.out.own, by omega⟩
/-- A rule's box and the result's box while they are drawn. -/
structure RuW (w wr : World) (b : Nat) (A : Option Addr) (n c m : Nat) (R p : Nat) (V G : Int) : Prop where
  cur : Cur wr b A n c m
  gr : w.grownBy wr (some b)
  p0 : wr.cell? ⟨p, 0, none⟩ = some (.int .i64 V)
  p1 : wr.cell? ⟨p, 1, none⟩ = some (.int .i64 G)
  q0 : wr.frozen? ⟨p, 0, none⟩ = false
  q1 : wr.frozen? ⟨p, 1, none⟩ = false
  r0 : wr.cell? ⟨R, 0, none⟩ = some (.int .i64 0)
  r1 : wr.cell? ⟨R, 1, none⟩ = some (.int .i64 0)
  s0 : wr.frozen? ⟨R, 0, none⟩ = false
  s1 : wr.frozen? ⟨R, 1, none⟩ = false
  lb : b < w.heap.size
  lr : w.heap.size ≤ R
  lp : R < p
theorem dcell {w w' : World} {row : Option Nat} {a : Addr} {u : Value} (g : w.grownBy w' row) (hr : row ≠ some a.block) (h : w.cell? a = some u) : w'.cell? a = some u :=
  (World.cell?_of_block (g.block a.block (lt_of_cell (by rw [h]; rfl)) (fun e => hr e.symm))).trans h
theorem dfroz {w w' : World} {row : Option Nat} {a : Addr} {u : Value} (g : w.grownBy w' row) (hr : row ≠ some a.block) (h : w.cell? a = some u) (f : w.frozen? a = false) : w'.frozen? a = false :=
  (World.frozen?_of_block (g.block a.block (lt_of_cell (by rw [h]; rfl)) (fun e => hr e.symm))).trans f
theorem RuW.far {w wr w' : World} {b : Nat} {A : Option Addr} {n c m m' : Nat} {R p : Nat} {V G : Int} (h : RuW w wr b A n c m R p V G) (C : Cur w' b A n c m') (g : wr.grownBy w' (some b)) : RuW w w' b A n c m' R p V G := by
  have l := h.lb
  have lr := h.lr
  have lp := h.lp
  have hp : some b ≠ some p := fun e => by have := Option.some.inj e; omega
  have hR : some b ≠ some R := fun e => by have := Option.some.inj e; omega
  exact ⟨C, grown_trans h.gr g, dcell g hp h.p0, dcell g hp h.p1, dfroz g hp h.p0 h.q0, dfroz g hp h.p1 h.q1, dcell g hR h.r0, dcell g hR h.r1, dfroz g hR h.r0 h.s0, dfroz g hR h.r1 h.s1, l, lr, lp⟩
set_option maxHeartbeats 4000000 in
theorem zoneRule_c (b : Nat) (A : Option Addr) (n c m : Nat) (w : World) (h : Cur w b A n c m) (hm : m ≤ 900000) :
    Calls Try.prog 57 #[.pointer (some ⟨b, 0, none⟩)] w fun e w' => ∃ L M : Int, (0 ≤ L ∧ L ≤ 300) ∧ (0 ≤ M ∧ M ≤ 300) ∧ e = .returned (.agg #[.int .i64 L, .int .i64 M]) ∧ Cur w' b A n c (m + 10) ∧ w.grownBy w' (some b) := by
  have hlt := h.lt
  go_enter Try.func57, Try.ntmps57
  go_upto_region 1 with (fail)
  obtain ⟨w0, hW⟩ : ∃ W, W = w.alloc (.cells #[.int .i64 0, .int .i64 0] 33) := ⟨_, rfl⟩
  rw [← hW]
  have C0 : Cur w0 b A n c m := by rw [hW]; exact h.alloc _
  have G0 : w.grownBy w0 (some b) := by rw [hW]; exact World.grownBy_alloc _ _ _
  have r0 : w0.cell? ⟨w.heap.size, 0, none⟩ = some (.int .i64 0) := by rw [hW]; exact World.cell?_alloc_new w _ _ 0
  have r1 : w0.cell? ⟨w.heap.size, 1, none⟩ = some (.int .i64 0) := by rw [hW]; exact World.cell?_alloc_new w _ _ 1
  have s0 : w0.frozen? ⟨w.heap.size, 0, none⟩ = false := by rw [hW]; simp [go_sem]
  have s1 : w0.frozen? ⟨w.heap.size, 1, none⟩ = false := by rw [hW]; simp [go_sem]
  have z0 : w.heap.size < w0.heap.size := lt_of_cell (a := ⟨w.heap.size, 0, none⟩) (by rw [r0]; rfl)
  have nR : some b ≠ some w.heap.size := fun e => by have := Option.some.inj e; omega
  have RH := Lib.hid (And.intro r0 (And.intro r1 (And.intro s0 s1)))
  clear hW h r0 r1 s0 s1
  go_wp2_with fail
  refine (amongL_c b A n c m [1, 10, 20, 200] w0 C0 _ _ _ _ (by omega) rfl rfl rfl (by simp) (by simp)).mono ?_
  rintro e w1 ⟨x, hx, rfl, C1, g1⟩
  have xb : 1 ≤ x ∧ x ≤ 200 := by simp at hx; omega
  clear hx
  go_wp2_with fail
  refine (amongL_c b A n c _ [0, 5, 30, 100] w1 C1 _ _ _ _ (by omega) rfl rfl rfl (by simp) (by simp)).mono ?_
  rintro e w2 ⟨y, hy, rfl, C2, g2⟩
  have yb : 0 ≤ y ∧ y ≤ 100 := by simp at hy; omega
  have Wx : IntKind.i64.wrap (x + y) = x + y := IntWalk.i64_in _ (by omega)
  clear hy
  go_wp2_with fail
  go_at_call 53
  refine (l1Least_c _ _ _).mono ?_
  rintro e w' ⟨rfl, rfl⟩
  have mb : 0 ≤ minI (x + y) 200 ∧ minI (x + y) 200 ≤ 200 := by unfold minI; split <;> omega
  generalize minI (x + y) 200 = M at *
  have g12 := grown_trans g1 g2
  go_upto_region 3 with (fail)
  obtain ⟨w3, hW⟩ : ∃ X, X = w2.alloc (.cells #[.int .i64 x, .int .i64 M] 33) := ⟨_, rfl⟩
  rw [← hW]
  have z2 := g12.size
  have D : RuW w w3 b A n c (m + 4) w.heap.size w2.heap.size x M := by
    have hb3 : Below w2.heap.size w2 w3 := by rw [hW]; exact (Below.refl _ _).alloc (Nat.le_refl _) _
    obtain ⟨r0, r1, s0, s1⟩ := RH.out
    have wl : w.heap.size < w2.heap.size := by omega
    exact ⟨C2.below hb3, grown_trans (grown_trans G0 g12) (grown_below hb3), by rw [hW]; exact World.cell?_alloc_new w2 _ _ 0, by rw [hW]; exact World.cell?_alloc_new w2 _ _ 1, by rw [hW]; simp [go_sem], by rw [hW]; simp [go_sem], (hb3.cell (p := ⟨w.heap.size, 0, none⟩) wl).trans (dcell g12 nR r0), (hb3.cell (p := ⟨w.heap.size, 1, none⟩) wl).trans (dcell g12 nR r1), (hb3.frozen (p := ⟨w.heap.size, 0, none⟩) wl).trans (dfroz g12 nR r0 s0), (hb3.frozen (p := ⟨w.heap.size, 1, none⟩) wl).trans (dfroz g12 nR r1 s1), hlt, Nat.le_refl _, wl⟩
  clear hW C0 C1 C2 G0 RH g1 g2 g12 z0 z2 nR Wx yb
  generalize w2.heap.size = p at *
  have PC := Lib.hid (pick_c b A n c _ 40 w3 D.cur (by omega) (by omega))
  have DH := Lib.hid D
  clear D
  go_wp2_with fail
  refine PC.out.mono ?_
  rintro e w4 ⟨t, t0, t1, rfl, C4, g4⟩
  have D4 := DH.out.far C4 g4
  clear C4 g4 PC DH
  by_cases c0 : t = 0
  · subst c0
    have c1b : ((0 : Int) == 1) = false := by simp
    have WM : IntKind.i64.wrap (M + 1) = M + 1 := IntWalk.i64_in _ (by omega)
    have PC := Lib.hid (fun (q k k' : Nat) (cs : Array Value) (e1 : q = w4.heap.size) (e2 : k = 2) (e3 : cs = (([0, M + 1] : List Int).map (Value.int .i64)).toArray) => amongL_c b A n c _ [0, M + 1] w4 D4.cur q k k' cs (by omega) e1 e2 e3 (by simp) (by simp))
    have p1 := D4.p1
    have DH := Lib.hid D4
    clear D4
    go_wp2_with fail
    refine (PC.out _ _ _ _ rfl rfl rfl).mono ?_
    rintro e w5 ⟨z, hz, rfl, C5, g5⟩
    have zb : 0 ≤ z ∧ z ≤ 300 := by simp at hz; omega
    have D5 := DH.out.far C5 g5
    clear p1
    obtain ⟨cu, gr, p0, p1, q0, q1, r0, r1, s0, s1, lb, lr, lp⟩ := id D5
    have hpr : ¬ w.heap.size = p := by omega
    have hpr2 : ¬ p = w.heap.size := by omega
    clear C5 g5 PC DH D5 hz
    go_wp2
    refine bodyPost_ret (v := .agg #[.int .i64 z, .int .i64 M]) (by simp (maxDischargeDepth := 6) [results, Try.results57, go_sem, *]) rfl ?_
    exact ⟨z, M, zb, by omega, rfl, (((cu.setOther (a := ⟨p, 0, none⟩) (by show b < p; omega) _).setOther (a := ⟨w.heap.size, 0, none⟩) (by show b < w.heap.size; omega) _).setOther (a := ⟨w.heap.size, 1, none⟩) (by show b < w.heap.size; omega) _).weak (by omega), grown_set (grown_set (grown_set gr (a := ⟨p, 0, none⟩) (by show w.heap.size ≤ p; omega) _) (a := ⟨w.heap.size, 0, none⟩) (Nat.le_refl _) _) (a := ⟨w.heap.size, 1, none⟩) (Nat.le_refl _) _⟩
  by_cases c1 : t = 1
  · subst c1
    obtain ⟨cu, gr, p0, p1, q0, q1, r0, r1, s0, s1, lb, lr, lp⟩ := id D4
    have hpr : ¬ w.heap.size = p := by omega
    have hpr2 : ¬ p = w.heap.size := by omega
    clear D4
    go_wp2
    refine bodyPost_ret (v := .agg #[.int .i64 x, .int .i64 201]) (by simp (maxDischargeDepth := 6) [results, Try.results57, go_sem, *]) rfl ?_
    exact ⟨x, 201, by omega, by omega, rfl, (((cu.setOther (a := ⟨p, 1, none⟩) (by show b < p; omega) _).setOther (a := ⟨w.heap.size, 0, none⟩) (by show b < w.heap.size; omega) _).setOther (a := ⟨w.heap.size, 1, none⟩) (by show b < w.heap.size; omega) _).weak (by omega), grown_set (grown_set (grown_set gr (a := ⟨p, 1, none⟩) (by show w.heap.size ≤ p; omega) _) (a := ⟨w.heap.size, 0, none⟩) (Nat.le_refl _) _) (a := ⟨w.heap.size, 1, none⟩) (Nat.le_refl _) _⟩
  have c0b : (t == 0) = false := by simp [c0]
  have c1b : (t == 1) = false := by simp [c1]
  obtain ⟨cu, gr, p0, p1, q0, q1, r0, r1, s0, s1, lb, lr, lp⟩ := id D4
  have hpr : ¬ w.heap.size = p := by omega
  have hpr2 : ¬ p = w.heap.size := by omega
  clear D4
  go_wp2
  refine bodyPost_ret (v := .agg #[.int .i64 x, .int .i64 M]) (by simp (maxDischargeDepth := 6) [results, Try.results57, go_sem, *]) rfl ?_
  exact ⟨x, M, by omega, by omega, rfl, ((cu.setOther (a := ⟨w.heap.size, 0, none⟩) (by show b < w.heap.size; omega) _).setOther (a := ⟨w.heap.size, 1, none⟩) (by show b < w.heap.size; omega) _).weak (by omega), grown_set (grown_set gr (a := ⟨w.heap.size, 0, none⟩) (Nat.le_refl _) _) (a := ⟨w.heap.size, 1, none⟩) (Nat.le_refl _) _⟩
end Go.Proofs.Ytakpoalcfjedlaa
