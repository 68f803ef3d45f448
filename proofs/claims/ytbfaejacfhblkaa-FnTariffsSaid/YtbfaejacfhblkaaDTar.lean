/- Contracts: tariffs drawn. -/
import Derived.Test.YtbfaejacfhblkaaCur3
import Derived.Test.YtbfaejacfhblkaaDrawR
import Derived.Test.YtbfaejacfhblkaaPApp
namespace Go.Proofs.Ytbfaejacfhblkaa
open Go.RowKit

/-- A list of pairs that can be read, in a block from lo on. -/
def RdL (w : World) (lo : Nat) (A : Option Addr) (xs : List (Int × Int)) : Prop :=
  0 < xs.length → ∃ b off, A = some ⟨b, off, none⟩ ∧ lo ≤ b ∧ b < w.heap.size ∧ ∀ (j : Nat) (u : Value), (pc xs)[j]? = some u → w.cell? ⟨b, off + j, none⟩ = some u
theorem RdL.keep {w w' : World} {lo : Nat} {A : Option Addr} {xs : List (Int × Int)} (h : RdL w lo A xs) (hs : w.heap.size ≤ w'.heap.size) (hk : ∀ q : Addr, lo ≤ q.block → q.block < w.heap.size → w'.cell? q = w.cell? q) : RdL w' lo A xs := fun hp => by
  obtain ⟨b, off, hA, hl, hb, hc⟩ := h hp
  exact ⟨b, off, hA, hl, by omega, fun j u hj => (hk ⟨b, off + j, none⟩ hl hb).trans (hc j u hj)⟩
theorem RdL.far {w w' : World} {lo b : Nat} {A : Option Addr} {xs : List (Int × Int)} (h : RdL w lo A xs) (g : w.grownBy w' (some b)) (hb : b < lo) : RdL w' lo A xs :=
  h.keep g.size fun p hp hl => World.cell?_of_block (g.block p.block hl (fun e => by have := Option.some.inj e; omega))
theorem RdL.below {w w' : World} {lo : Nat} {A : Option Addr} {xs : List (Int × Int)} (h : RdL w lo A xs) (hb : Below w.heap.size w w') : RdL w' lo A xs := h.keep hb.size fun _ _ hl => hb.cell hl
theorem RdL.set {w : World} {lo : Nat} {A : Option Addr} {xs : List (Int × Int)} (h : RdL w lo A xs) {a : Addr} (ha : a.block < lo) (u : Value) : RdL (w.setCell a u) lo A xs :=
  h.keep (by rw [World.size_setCell]; exact Nat.le_refl _) fun p hp _ => World.cell?_of_block (heap_setCell_other w a p.block u (by omega))
theorem RdL.weak {w : World} {lo lo' : Nat} {A : Option Addr} {xs : List (Int × Int)} (h : RdL w lo A xs) (hl : lo' ≤ lo) : RdL w lo' A xs := fun hp => by
  obtain ⟨b, off, hA, h1, hb, hc⟩ := h hp
  exact ⟨b, off, hA, by omega, hb, hc⟩
theorem RdL.ofOwn {w : World} {base n c : Nat} {A : Option Addr} {xs : List (Int × Int)} (h : OwnP w base (.slice A n c) xs) : RdL w base A xs := fun hp => by
  obtain ⟨g, cap, hv, h1, h2⟩ := h.head hp
  simp only [Value.slice.injEq] at hv
  obtain ⟨rfl, _, _⟩ := hv
  have r := h.rd hp
  obtain ⟨b, off, hA, hb, hc⟩ := r
  simp only [Option.some.injEq, Addr.mk.injEq, and_true] at hA
  obtain ⟨rfl, rfl⟩ := hA
  exact ⟨g, 0, rfl, h1, hb, hc⟩
theorem RdL.rd {w : World} {lo : Nat} {A : Option Addr} {xs : List (Int × Int)} (h : RdL w lo A xs) : RdP w w.heap.size A xs := fun hp => by
  obtain ⟨b, off, hA, _, hb, hc⟩ := h hp
  exact ⟨b, off, hA, hb, hc⟩
theorem ownP_ge {w : World} {base : Nat} {v : Value} {l : List (Int × Int)} (o : OwnP w base v l) : ∀ k, v.ownBlock = some k → base ≤ k := fun k hk => (o.lt k hk).1
/-- A tariff's box and the result's box while they are drawn. -/
structure TaW (w wr : World) (b : Nat) (A : Option Addr) (n c m : Nat) (R p : Nat) (F : Int) (v : Value) (xs : List (Int × Int)) : Prop where
  cur : Cur wr b A n c m
  gr : w.grownBy wr (some b)
  p0 : wr.cell? ⟨p, 0, none⟩ = some (.int .i64 F)
  p1 : wr.cell? ⟨p, 1, none⟩ = some v
  q0 : wr.frozen? ⟨p, 0, none⟩ = false
  q1 : wr.frozen? ⟨p, 1, none⟩ = false
  r0 : wr.cell? ⟨R, 0, none⟩ = some (.int .i64 0)
  r1 : wr.cell? ⟨R, 1, none⟩ = some (.slice none 0 0)
  s0 : wr.frozen? ⟨R, 0, none⟩ = false
  s1 : wr.frozen? ⟨R, 1, none⟩ = false
  own : OwnP wr (p + 1) v xs
  lb : b < w.heap.size
  lr : w.heap.size ≤ R
  lp : R < p
  pl : p < wr.heap.size
theorem tcell {w w' : World} {row : Option Nat} {a : Addr} {u : Value} (g : w.grownBy w' row) (hr : row ≠ some a.block) (h : w.cell? a = some u) : w'.cell? a = some u :=
  (World.cell?_of_block (g.block a.block (lt_of_cell (by rw [h]; rfl)) (fun e => hr e.symm))).trans h
theorem tfroz {w w' : World} {row : Option Nat} {a : Addr} {u : Value} (g : w.grownBy w' row) (hr : row ≠ some a.block) (h : w.cell? a = some u) (f : w.frozen? a = false) : w'.frozen? a = false :=
  (World.frozen?_of_block (g.block a.block (lt_of_cell (by rw [h]; rfl)) (fun e => hr e.symm))).trans f
section
variable {w wr w' : World} {b : Nat} {A : Option Addr} {n c m m' : Nat} {R p : Nat} {F : Int} {v v' : Value} {xs xs' : List (Int × Int)}
theorem TaW.far (h : TaW w wr b A n c m R p F v xs) (C : Cur w' b A n c m') (g : wr.grownBy w' (some b)) : TaW w w' b A n c m' R p F v xs := by
  have l := h.lb
  have lr := h.lr
  have lp := h.lp
  have hp : some b ≠ some p := fun e => by have := Option.some.inj e; omega
  have hR : some b ≠ some R := fun e => by have := Option.some.inj e; omega
  exact ⟨C, grown_trans h.gr g, tcell g hp h.p0, tcell g hp h.p1, tfroz g hp h.p0 h.q0, tfroz g hp h.p1 h.q1, tcell g hR h.r0, tcell g hR h.r1, tfroz g hR h.r0 h.s0, tfroz g hR h.r1 h.s1, h.own.kept g (.inr (fun q => by have := ownP_ge h.own b q; omega)), l, lr, lp, Nat.lt_of_lt_of_le h.pl g.size⟩
theorem TaW.below (h : TaW w wr b A n c m R p F v xs) (hb : Below wr.heap.size wr w') : TaW w w' b A n c m R p F v xs :=
  h.far (h.cur.below hb) (grown_below hb)
theorem TaW.alloc (h : TaW w wr b A n c m R p F v xs) (o : Obj) : TaW w (wr.alloc o) b A n c m R p F v xs := h.below ((Below.refl _ _).alloc (Nat.le_refl _) o)
theorem TaW.weak (h : TaW w wr b A n c m R p F v xs) (hm : m ≤ m') : TaW w wr b A n c m' R p F v xs :=
  ⟨h.cur.weak hm, h.gr, h.p0, h.p1, h.q0, h.q1, h.r0, h.r1, h.s0, h.s1, h.own, h.lb, h.lr, h.lp, h.pl⟩
/-- Behind an append: the new list is not yet in the box. -/
structure TaA (w w' : World) (b : Nat) (A : Option Addr) (n c m : Nat) (R p : Nat) (F : Int) (v v' : Value) (xs' : List (Int × Int)) : Prop where
  cur : Cur w' b A n c m
  gr : w.grownBy w' (some b)
  p0 : w'.cell? ⟨p, 0, none⟩ = some (.int .i64 F)
  p1 : w'.cell? ⟨p, 1, none⟩ = some v
  q0 : w'.frozen? ⟨p, 0, none⟩ = false
  q1 : w'.frozen? ⟨p, 1, none⟩ = false
  r0 : w'.cell? ⟨R, 0, none⟩ = some (.int .i64 0)
  r1 : w'.cell? ⟨R, 1, none⟩ = some (.slice none 0 0)
  s0 : w'.frozen? ⟨R, 0, none⟩ = false
  s1 : w'.frozen? ⟨R, 1, none⟩ = false
  own : OwnP w' (p + 1) v' xs'
  lb : b < w.heap.size
  lr : w.heap.size ≤ R
  lp : R < p
  pl : p < w'.heap.size
theorem TaW.app (h : TaW w wr b A n c m R p F v xs) (o : OwnP w' (p + 1) v' xs') (g : wr.grownBy w' v.ownBlock) : TaA w w' b A n c m R p F v v' xs' := by
  have q := ownP_ge h.own
  have l := h.lb
  have lr := h.lr
  have lp := h.lp
  have hp : v.ownBlock ≠ some p := fun e => by have := q p e; omega
  have hR : v.ownBlock ≠ some R := fun e => by have := q R e; omega
  exact ⟨h.cur.kept g (fun k hk => by have := q k hk; omega), grown_own h.gr g (fun k hk => by have := q k hk; omega), tcell g hp h.p0, tcell g hp h.p1, tfroz g hp h.p0 h.q0, tfroz g hp h.p1 h.q1, tcell g hR h.r0, tcell g hR h.r1, tfroz g hR h.r0 h.s0, tfroz g hR h.r1 h.s1, o, l, lr, lp, Nat.lt_of_lt_of_le h.pl g.size⟩
theorem TaA.drew (h : TaA w w' b A n c m R p F v v' xs') : TaA w w'.drew b A n c m R p F v v' xs' := ⟨h.cur.drew, grown_drew h.gr, h.p0, h.p1, h.q0, h.q1, h.r0, h.r1, h.s0, h.s1, h.own, h.lb, h.lr, h.lp, h.pl⟩
theorem TaW.drewW (h : TaW w wr b A n c m R p F v xs) : TaW w wr.drew b A n c m R p F v xs := ⟨h.cur.drew, grown_drew h.gr, h.p0, h.p1, h.q0, h.q1, h.r0, h.r1, h.s0, h.s1, h.own, h.lb, h.lr, h.lp, h.pl⟩
theorem TaA.set (h : TaA w w' b A n c m R p F v v' xs') : TaW w (w'.setCell ⟨p, 1, none⟩ v') b A n c m R p F v' xs' := by
  have l := h.lb
  have lr := h.lr
  have lp := h.lp
  have h1 : ¬ R = p := by omega
  have h2 : ¬ p = R := by omega
  obtain ⟨cu, gr, p0, p1, q0, q1, r0, r1, s0, s1, ow, _, _, _, pl⟩ := h
  exact ⟨cu.setOther (a := ⟨p, 1, none⟩) (by show b < p; omega) _, grown_set gr (a := ⟨p, 1, none⟩) (by show w.heap.size ≤ p; omega) _, by simp [*, go_sem], by simp [*, go_sem], by simp [*, go_sem], by simp [*, go_sem], by simp [*, go_sem], by simp [*, go_sem], by simp [*, go_sem], by simp [*, go_sem], ow.setBelow (a := ⟨p, 1, none⟩) (by show p < p + 1; omega) _, l, lr, lp, by rw [World.size_setCell]; exact pl⟩
theorem TaW.set0 (h : TaW w wr b A n c m R p F v xs) (X : Int) : TaW w (wr.setCell ⟨p, 0, none⟩ (.int .i64 X)) b A n c m R p X v xs := by
  have l := h.lb
  have lr := h.lr
  have lp := h.lp
  have h1 : ¬ R = p := by omega
  have h2 : ¬ p = R := by omega
  obtain ⟨cu, gr, p0, p1, q0, q1, r0, r1, s0, s1, ow, _, _, _, pl⟩ := h
  exact ⟨cu.setOther (a := ⟨p, 0, none⟩) (by show b < p; omega) _, grown_set gr (a := ⟨p, 0, none⟩) (by show w.heap.size ≤ p; omega) _, by simp [*, go_sem], by simp [*, go_sem], by simp [*, go_sem], by simp [*, go_sem], by simp [*, go_sem], by simp [*, go_sem], by simp [*, go_sem], by simp [*, go_sem], ow.setBelow (a := ⟨p, 0, none⟩) (by show p < p + 1; omega) _, l, lr, lp, by rw [World.size_setCell]; exact pl⟩
end
theorem grown_oneT (w : World) (a : Addr) (u : Value) : w.grownBy (w.setCell a u) (some a.block) :=
  ⟨rfl, rfl, rfl, by rw [World.size_setCell]; exact Nat.le_refl _, fun k _ hne => heap_setCell_other w a k u (fun e => hne (by rw [e]))⟩
theorem TaW.setq {w wr : World} {b : Nat} {A : Option Addr} {n c m : Nat} {R p : Nat} {F : Int} {v : Value} {xs : List (Int × Int)} (h : TaW w wr b A n c m R p F v xs) {a : Addr} (hq : p < a.block) (hn : v.ownBlock ≠ some a.block) (u : Value) : TaW w (wr.setCell a u) b A n c m R p F v xs := by
  have l := h.lb
  have lr := h.lr
  have lp := h.lp
  have g := grown_oneT wr a u
  have hp : some a.block ≠ some p := fun e => by have := Option.some.inj e; omega
  have hR : some a.block ≠ some R := fun e => by have := Option.some.inj e; omega
  exact ⟨h.cur.setOther (by omega) u, grown_set h.gr (by omega) u, tcell g hp h.p0, tcell g hp h.p1, tfroz g hp h.p0 h.q0, tfroz g hp h.p1 h.q1, tcell g hR h.r0, tcell g hR h.r1, tfroz g hR h.r0 h.s0, tfroz g hR h.r1 h.s1, h.own.kept g (by cases e : v.ownBlock with | none => exact .inl rfl | some k => exact .inr (fun q => hn (by rw [e, q]))), l, lr, lp, by rw [World.size_setCell]; exact h.pl⟩
theorem RdL.lit {w : World} {t : TypeId} (pre ys : List (Int × Int)) (cs : Array Value) (off : Nat) (hcs : cs.toList = pc (pre ++ ys)) (ho : off = pre.length * 2) : RdL (w.alloc (.cells cs t)) w.heap.size (some ⟨w.heap.size, off, none⟩) ys := fun _ => by
  refine ⟨w.heap.size, off, rfl, Nat.le_refl _, by simp, fun j u hj => ?_⟩
  rw [World.cell?_alloc_new]
  have e : cs[off + j]? = cs.toList[off + j]? := by simp
  rw [e, hcs, pc_append, List.getElem?_append_right (by rw [pc_length]; omega), pc_length, show off + j - pre.length * 2 = j by omega]
  exact hj
/-- A block's box. -/
structure QxW (W : World) (q : Nat) (X Y : Int) : Prop where
  t0 : W.cell? ⟨q, 0, none⟩ = some (.int .i64 X)
  t1 : W.cell? ⟨q, 1, none⟩ = some (.int .i64 Y)
  f0 : W.frozen? ⟨q, 0, none⟩ = false
  f1 : W.frozen? ⟨q, 1, none⟩ = false
theorem QxW.set0 {W : World} {q : Nat} {X Y : Int} (h : QxW W q X Y) (Z : Int) : QxW (W.setCell ⟨q, 0, none⟩ (.int .i64 Z)) q Z Y := by
  obtain ⟨a, b, c, d⟩ := h
  exact ⟨by simp [*, go_sem], by simp [*, go_sem], by simp [*, go_sem], by simp [*, go_sem]⟩
theorem QxW.set1 {W : World} {q : Nat} {X Y : Int} (h : QxW W q X Y) (Z : Int) : QxW (W.setCell ⟨q, 1, none⟩ (.int .i64 Z)) q X Z := by
  obtain ⟨a, b, c, d⟩ := h
  exact ⟨by simp [*, go_sem], by simp [*, go_sem], by simp [*, go_sem], by simp [*, go_sem]⟩
theorem QxW.kept {W W' : World} {q : Nat} {X Y : Int} {row : Option Nat} (h : QxW W q X Y) (g : W.grownBy W' row) (hr : row ≠ some q) : QxW W' q X Y := ⟨tcell g hr h.t0, tcell g hr h.t1, tfroz g hr h.t0 h.f0, tfroz g hr h.t1 h.f1⟩
set_option maxRecDepth 100000 in
set_option maxHeartbeats 8000000 in
theorem tariff_c (b : Nat) (A : Option Addr) (n c m : Nat) (w : World) (h : Cur w b A n c m) (hm : m ≤ 900000) :
    Calls Try.prog 72 #[.pointer (some ⟨b, 0, none⟩)] w fun e w' => ∃ (F : Int) (A1 : Option Addr) (c1 : Nat) (xs : List (Int × Int)), e = .returned (.agg #[.int .i64 F, .slice A1 xs.length c1]) ∧ Cur w' b A n c (m + 60) ∧ w.grownBy w' (some b) ∧ RdL w' w.heap.size A1 xs ∧ xs.length ≤ 6 := by
  have hlt := h.lt
  go_enter Try.func72, Try.ntmps72
  go_upto_region 1 with (fail)
  obtain ⟨w0, hW⟩ : ∃ W, W = w.alloc (.cells #[.int .i64 0, .slice none 0 0] 29) := ⟨_, rfl⟩
  rw [← hW]
  have C0 : Cur w0 b A n c m := by rw [hW]; exact h.alloc _
  have G0 : w.grownBy w0 (some b) := by rw [hW]; exact World.grownBy_alloc _ _ _
  have r0 : w0.cell? ⟨w.heap.size, 0, none⟩ = some (.int .i64 0) := by rw [hW]; exact World.cell?_alloc_new w _ _ 0
  have r1 : w0.cell? ⟨w.heap.size, 1, none⟩ = some (.slice none 0 0) := by rw [hW]; exact World.cell?_alloc_new w _ _ 1
  have s0 : w0.frozen? ⟨w.heap.size, 0, none⟩ = false := by rw [hW]; simp [go_sem]
  have s1 : w0.frozen? ⟨w.heap.size, 1, none⟩ = false := by rw [hW]; simp [go_sem]
  have z0 : w.heap.size < w0.heap.size := lt_of_cell (a := ⟨w.heap.size, 0, none⟩) (by rw [r0]; rfl)
  have nR : some b ≠ some w.heap.size := fun e => by have := Option.some.inj e; omega
  have RH := Lib.hid (And.intro r0 (And.intro r1 (And.intro s0 s1)))
  clear hW h r0 r1 s0 s1
  go_wp2_with fail
  refine (amongL_c b A n c m [0, 0, 500, 100000] w0 C0 _ _ _ _ (by omega) rfl rfl rfl (by simp) (by simp)).mono ?_
  rintro e w2 ⟨F, hF, rfl, C2, g2⟩
  clear hF
  go_upto_region 3 with (fail)
  obtain ⟨w3, hW⟩ : ∃ X, X = w2.alloc (.cells #[.int .i64 F, .slice none 0 0] 29) := ⟨_, rfl⟩
  rw [← hW]
  have z2 := g2.size
  have D : TaW w w3 b A n c (m + 2) w.heap.size w2.heap.size F (.slice none 0 0) [] := by
    have hb3 : Below w2.heap.size w2 w3 := by rw [hW]; exact (Below.refl _ _).alloc (Nat.le_refl _) _
    obtain ⟨r0, r1, s0, s1⟩ := RH.out
    have wl : w.heap.size < w2.heap.size := by omega
    exact ⟨C2.below hb3, grown_trans (grown_trans G0 g2) (grown_below hb3), by rw [hW]; exact World.cell?_alloc_new w2 _ _ 0, by rw [hW]; exact World.cell?_alloc_new w2 _ _ 1, by rw [hW]; simp [go_sem], by rw [hW]; simp [go_sem], (hb3.cell (p := ⟨w.heap.size, 0, none⟩) wl).trans (tcell g2 nR r0), (hb3.cell (p := ⟨w.heap.size, 1, none⟩) wl).trans (tcell g2 nR r1), (hb3.frozen (p := ⟨w.heap.size, 0, none⟩) wl).trans (tfroz g2 nR r0 s0), (hb3.frozen (p := ⟨w.heap.size, 1, none⟩) wl).trans (tfroz g2 nR r1 s1), OwnP.nil _ _, hlt, Nat.le_refl _, wl, by rw [hW]; simp⟩
  clear hW C0 C2 G0 RH g2 z0 z2 nR
  generalize w2.heap.size = p at *
  have PC := Lib.hid (pick_c b A n c _ 5 w3 D.cur (by omega) (by omega))
  have DH := Lib.hid D
  clear D
  go_wp2_with fail
  refine PC.out.mono ?_
  rintro e w4 ⟨x, x0, x1, rfl, C4, g4⟩
  have DH4 := Lib.hid (DH.out.far C4 g4)
  obtain ⟨k0, rfl⟩ := Int.eq_ofNat_of_zero_le x0
  have k5 : k0 ≤ 5 := by omega
  clear C4 g4 PC DH x0 x1
  go_wp2
  go_loopw [4, 5] (fun uv nv wr => ∃ (k : Nat) (v : Value) (xs : List (Int × Int)) (u : Int), k ≤ 5 ∧ nv = .int .i64 k ∧ uv = .int .i64 u ∧ xs.length + k ≤ 5 ∧ 0 ≤ u ∧ u + 20000 * k ≤ 100000 ∧ TaW w wr b A n c (m + 24 - 4 * k) w.heap.size p F v xs) (fun _ nv _ => (intOf nv).toNat)
  case atStart => exact ⟨k0, _, [], 0, by omega, rfl, rfl, by simp; omega, by omega, by omega, DH4.out.weak (by omega)⟩
  case round =>
    clear DH4 k5
    obtain ⟨k, v, xs, u, hk, rfl, rfl, hl, u0, u1, D⟩ := hrel
    by_cases hk0 : 0 < k
    · obtain ⟨k, rfl⟩ : ∃ j, k = j + 1 := ⟨k - 1, by omega⟩
      have hi : (0 : Int) < ((k + 1 : Nat) : Int) := by omega
      have Wk : IntKind.i64.wrap (((k + 1 : Nat) : Int) - 1) = (k : Int) := by rw [show (((k + 1 : Nat) : Int) - 1) = (k : Int) by omega]; exact IntWalk.i64_in _ (by omega)
      have PC := Lib.hid (fun (q k k' : Nat) (cs : Array Value) (e1 : q = wr.heap.size) (e2 : k = 5) (e3 : cs = (([1, 10, 50, 100, 20000] : List Int).map (Value.int .i64)).toArray) => amongL_c b A n c _ [1, 10, 50, 100, 20000] wr D.cur q k k' cs (by omega) e1 e2 e3 (by simp) (by simp))
      have DH := Lib.hid D
      clear D
      go_wp2_with fail
      refine (PC.out _ _ _ _ rfl rfl rfl).mono ?_
      rintro e w5 ⟨y, hy, rfl, C5, g5⟩
      have yb : 1 ≤ y ∧ y ≤ 20000 := by simp at hy; omega
      have D5 := DH.out.far C5 g5
      have Wu : IntKind.i64.wrap (u + y) = u + y := IntWalk.i64_in _ (by omega)
      have xl : xs.length ≤ 65536 := by omega
      have p0 := D5.p0
      have p1 := D5.p1
      have q1 := D5.q1
      clear C5 g5 PC DH hy
      go_upto_region 7 with (fail)
      go_region_law (first | (refine step_callr rfl 73 #[.pointer (some ⟨b, 0, none⟩), .slice (some ⟨w5.heap.size, 0, none⟩) 6 6] (by go_simp) (amongD_r b A n c _ [0, 1, 5, 5, 20, 1000] w5 D5.cur _ _ _ _ (by omega) (by rfl) (by rfl) (by rfl) (by simp) (by simp)) ?_; rintro e w6 ⟨z, rfl, hz6, C6, g6⟩; have g6' : w5.grownBy w6 (some b) := (by first | exact grown_undrew g6 | exact g6); have D6 := D5.far C6 g6'; clear p0 p1 q1; have p1 := D6.p1; have q1 := D6.q1) | (refine step_appPs rfl (.tmp 24) (.tmp 30) (by rfl) (p + 1) v _ _ _ [(u + y, z)] (by rfl) (D6.own.alloc _) (by rfl) (RdP.lit w6 (u + y) z _) (by omega) (by simp) (by rw [World.size_alloc]; have := D6.pl; omega) ?_; intro v7 w7 o7 g7 _; obtain ⟨zs, hzs⟩ : ∃ e, e = xs ++ [(u + y, z)] := ⟨_, rfl⟩; rw [← hzs] at o7; have HL := Lib.hid (show zs.length = xs.length + 1 by rw [hzs]; simp); clear hzs; obtain ⟨Aq, cq, eqv⟩ := o7.shape; subst eqv; have A7 := Lib.hid ((D6.alloc _).app o7 g7); clear o7 g7 p1 q1; have p1 := A7.out.p1; have q1 := A7.out.q1))
      all_goals
        have D8 := Lib.hid A7.out.set
        clear D5 D6 A7 g6 g6' C6 hz6 p1 q1
        go_wp2
        go_roundw
        case rel => first | exact ⟨k, _, zs, u + y, by omega, by go_num, rfl, by have := HL.out; omega, by omega, by omega, D8.out.weak (by omega)⟩ | exact ⟨k, _, zs, u + y, by omega, by go_num, rfl, by have := HL.out; omega, by omega, by omega, D8.out.drewW.weak (by omega)⟩
        case measure => simp [intOf]
    · obtain rfl : k = 0 := by omega
      have hi : ¬ (0 : Int) < ((0 : Nat) : Int) := by omega
      have xl : xs.length ≤ 65536 := by omega
      have p0 := D.p0
      have p1 := D.p1
      have q1 := D.q1
      go_upto_region 8 with (fail)
      go_cut [40] (fun _ wx => ∃ (v : Value) (xs : List (Int × Int)), 0 < xs.length ∧ xs.length ≤ 6 ∧ TaW w wx b A n c (m + 26) w.heap.size p F v xs)
      case first =>
        go_region_law (first | (refine step_callr rfl 73 #[.pointer (some ⟨b, 0, none⟩), .slice (some ⟨wr.heap.size, 0, none⟩) 5 5] (by go_simp) (amongD_r b A n c _ [0, 2, 5, 30, 1000] wr D.cur _ _ _ _ (by omega) (by rfl) (by rfl) (by rfl) (by simp) (by simp)) ?_; rintro e w6 ⟨z, rfl, hz6, C6, g6⟩; have g6' : wr.grownBy w6 (some b) := (by first | exact grown_undrew g6 | exact g6); have D6 := D.far C6 g6'; clear p0 p1 q1; have p1 := D6.p1; have q1 := D6.q1) | (refine step_appPs rfl (.tmp 34) (.tmp 39) (by rfl) (p + 1) v _ _ _ [(100000, z)] (by rfl) (D6.own.alloc _) (by rfl) (RdP.lit w6 (100000) z _) (by omega) (by simp) (by rw [World.size_alloc]; have := D6.pl; omega) ?_; intro v7 w7 o7 g7 _; obtain ⟨zs, hzs⟩ : ∃ e, e = xs ++ [(100000, z)] := ⟨_, rfl⟩; rw [← hzs] at o7; have HL := Lib.hid (show zs.length = xs.length + 1 by rw [hzs]; simp); clear hzs; obtain ⟨Aq, cq, eqv⟩ := o7.shape; subst eqv; have A7 := Lib.hid ((D6.alloc _).app o7 g7); clear o7 g7 p1 q1; have p1 := A7.out.p1; have q1 := A7.out.q1))
        all_goals
          have D8 := Lib.hid A7.out.set
          clear D D6 A7 g6 g6' C6 hz6 p1 q1
          go_wp2
          go_meet
          first | exact ⟨_, zs, by have := HL.out; omega, by have := HL.out; omega, D8.out.weak (by omega)⟩ | exact ⟨_, zs, by have := HL.out; omega, by have := HL.out; omega, D8.out.drewW.weak (by omega)⟩
      case rest =>
        clear D p0 p1 q1 xl hl u0 u1
        obtain ⟨v, xs, xp, xl, D⟩ := hcut
        obtain ⟨g, cap, hv, hg1, hg2⟩ := D.own.head xp
        subst hv
        have p1 := D.p1
        have PC := Lib.hid (pick_c b A n c _ (xs.length : Int) wc D.cur (by omega) (by omega))
        have DH := Lib.hid D
        clear D
        go_wp2_with fail
        refine PC.out.mono ?_
        rintro e w6 ⟨x, x0, x1, rfl, C6, g6⟩
        have D6 := DH.out.far C6 g6
        clear C6 g6 PC DH p1
        obtain ⟨j, rfl⟩ := Int.eq_ofNat_of_zero_le x0
        have hj : j < xs.length := by omega
        have hji : (j : Int) < (xs.length : Int) := by omega
        obtain ⟨y0, y1, hc0, hc1⟩ := D6.own.cells2 hj
        have p1 := D6.p1
        have DH := Lib.hid D6
        clear D6 x0 x1
        go_upto_region 11 with (fail)
        obtain ⟨w7, hW⟩ : ∃ X, X = w6.alloc (.cells #[.int .i64 y0, .int .i64 y1] 63) := ⟨_, rfl⟩
        rw [← hW]
        have hb7 : Below w6.heap.size w6 w7 := by rw [hW]; exact (Below.refl _ _).alloc (Nat.le_refl _) _
        have D7 := DH.out.below hb7
        have t0 : w7.cell? ⟨w6.heap.size, 0, none⟩ = some (.int .i64 y0) := by rw [hW]; exact World.cell?_alloc_new w6 _ _ 0
        have t1 : w7.cell? ⟨w6.heap.size, 1, none⟩ = some (.int .i64 y1) := by rw [hW]; exact World.cell?_alloc_new w6 _ _ 1
        have f0 : w7.frozen? ⟨w6.heap.size, 0, none⟩ = false := by rw [hW]; simp [go_sem]
        have f1 : w7.frozen? ⟨w6.heap.size, 1, none⟩ = false := by rw [hW]; simp [go_sem]
        have pq : p < w6.heap.size := DH.out.pl
        have gq : g < w6.heap.size := (DH.out.own.lt g rfl).2
        clear hW hb7 DH hc0 hc1 p1
        generalize w6.heap.size = q at *
        have XQ : QxW w7 q y0 y1 := ⟨t0, t1, f0, f1⟩
        have PC := Lib.hid (pick_c b A n c _ 40 w7 D7.cur (by omega) (by omega))
        have DH := Lib.hid (And.intro D7 XQ)
        clear D7 XQ t0 t1 f0 f1
        go_wp2_with fail
        refine PC.out.mono ?_
        rintro e w8 ⟨t, tt0, tt1, rfl, C8, g8⟩
        have D8 := DH.out.1.far C8 g8
        have X8 := DH.out.2.kept g8 (fun e => by have := Option.some.inj e; have := DH.out.1.lb; have := DH.out.1.lr; have := DH.out.1.lp; omega)
        clear C8 g8 PC DH
        by_cases c0 : t = 0
        · skip
          subst c0
          have c1b : ((0 : Int) == 1) = false := by simp
          have c2b : ((0 : Int) == 2) = false := by simp
          have c3b : ((0 : Int) == 3) = false := by simp
          have c4b : ((0 : Int) == 4) = false := by simp
          have PC := Lib.hid (fun (q k k' : Nat) (cs : Array Value) (e1 : q = w8.heap.size) (e2 : k = 2) (e3 : cs = (([-1, 100001] : List Int).map (Value.int .i64)).toArray) => amongL_c b A n c _ [-1, 100001] w8 D8.cur q k k' cs (by omega) e1 e2 e3 (by simp) (by simp))
          have p0 := D8.p0
          have q0 := D8.q0
          have t0 := X8.t0
          have t1 := X8.t1
          have f0 := X8.f0
          have f1 := X8.f1
          have nq : some b ≠ some q := fun e => by have := Option.some.inj e; have := D8.lb; have := D8.lr; have := D8.lp; omega
          have gne : (Value.slice (some ⟨g, 0, none⟩) xs.length cap).ownBlock ≠ some q := fun e => by simp only [Value.ownBlock, Option.some.injEq] at e; omega
          have DH := Lib.hid (And.intro D8 X8)
          clear D8 X8 p0 q0 t0 t1 f0 f1
          go_wp2_with fail
          refine (PC.out _ _ _ _ rfl rfl rfl).mono ?_
          rintro e w9 ⟨z, hz, rfl, C9, g9⟩
          have D9 := DH.out.1.far C9 g9
          have X9 := DH.out.2.kept g9 nq
          clear C9 g9 PC DH hz nq
          have DZ := D9.set0 z
          have XZ := X9.kept (grown_oneT w9 ⟨p, 0, none⟩ (.int .i64 z)) (fun e => by have := Option.some.inj e; simp only at this; omega)
          have p0 := D9.p0
          have q0 := D9.q0
          clear D9 X9 gne
          go_upto_region 24 with (fail)
          clear p0 q0
          generalize w9.setCell ⟨p, 0, none⟩ (.int .i64 z) = wz at *
          obtain ⟨cu, gr, p0, p1, q0, q1, r0, r1, s0, s1, ow, lb, lr, lp, pl⟩ := id DZ
          obtain ⟨t0, t1, f0, f1⟩ := id XZ
          obtain ⟨y2, y3, hc0, hc1⟩ := ow.cells2 hj
          have fz0 := ow.frozenAt (j * 2)
          have fz1 := ow.frozenAt (j * 2 + 1)
          have st := ow.store hj y0 y1
          have gp : p < g := by have := (ow.lt g rfl).1; omega
          have n1 : ¬ p = g := by omega
          have n2 : ¬ g = p := by omega
          have n3 : ¬ w.heap.size = g := by omega
          have n4 : ¬ g = w.heap.size := by omega
          have n5 : ¬ w.heap.size = p := by omega
          have n6 : ¬ p = w.heap.size := by omega
          have bg : b < g := by omega
          have bR : b < w.heap.size := lb
          have wg : w.heap.size ≤ g := by omega
          have Rp : w.heap.size < p + 1 := by omega
          have OH := Lib.hid (And.intro st (And.intro cu gr))
          clear st cu gr ow DZ XZ
          go_wp2
          refine bodyPost_ret (v := .agg #[.int .i64 z, .slice (some ⟨g, 0, none⟩) xs.length cap]) (by simp (maxDischargeDepth := 6) [results, Try.results72, go_sem, *]) rfl ?_
          refine ⟨z, some ⟨g, 0, none⟩, cap, xs.set j (y0, y1), by rw [List.length_set], ?_, ?_, ?_, by rw [List.length_set]; exact xl⟩
          · exact ((((OH.out.2.1.setOther (a := ⟨g, j * 2, none⟩) bg _).setOther (a := ⟨g, j * 2 + 1, none⟩) bg _).setOther (a := ⟨w.heap.size, 0, none⟩) bR _).setOther (a := ⟨w.heap.size, 1, none⟩) bR _).weak (by omega)
          · exact grown_set (grown_set (grown_set (grown_set OH.out.2.2 (a := ⟨g, j * 2, none⟩) wg _) (a := ⟨g, j * 2 + 1, none⟩) wg _) (a := ⟨w.heap.size, 0, none⟩) (Nat.le_refl _) _) (a := ⟨w.heap.size, 1, none⟩) (Nat.le_refl _) _
          · exact (((RdL.ofOwn OH.out.1.1).set (a := ⟨w.heap.size, 0, none⟩) Rp _).set (a := ⟨w.heap.size, 1, none⟩) Rp _).weak (by omega)
        by_cases c1 : t = 1
        · skip
          subst c1
          have c2b : ((1 : Int) == 2) = false := by simp
          have c3b : ((1 : Int) == 3) = false := by simp
          have c4b : ((1 : Int) == 4) = false := by simp
          have c0b : ((1 : Int) == 0) = false := by simp
          have PC := Lib.hid (fun (q k k' : Nat) (cs : Array Value) (e1 : q = w8.heap.size) (e2 : k = 4) (e3 : cs = (([0, 1, 99999, 100001] : List Int).map (Value.int .i64)).toArray) => amongL_c b A n c _ [0, 1, 99999, 100001] w8 D8.cur q k k' cs (by omega) e1 e2 e3 (by simp) (by simp))
          have p0 := D8.p0
          have q0 := D8.q0
          have t0 := X8.t0
          have t1 := X8.t1
          have f0 := X8.f0
          have f1 := X8.f1
          have nq : some b ≠ some q := fun e => by have := Option.some.inj e; have := D8.lb; have := D8.lr; have := D8.lp; omega
          have gne : (Value.slice (some ⟨g, 0, none⟩) xs.length cap).ownBlock ≠ some q := fun e => by simp only [Value.ownBlock, Option.some.injEq] at e; omega
          have DH := Lib.hid (And.intro D8 X8)
          clear D8 X8 p0 q0 t0 t1 f0 f1
          go_wp2_with fail
          refine (PC.out _ _ _ _ rfl rfl rfl).mono ?_
          rintro e w9 ⟨z, hz, rfl, C9, g9⟩
          have D9 := DH.out.1.far C9 g9
          have X9 := DH.out.2.kept g9 nq
          clear C9 g9 PC DH hz nq
          have DZ := D9.setq (a := ⟨q, 0, none⟩) (by show p < q; omega) gne (.int .i64 z)
          have XZ := X9.set0 z
          have t0 := X9.t0
          have f0 := X9.f0
          clear D9 X9 gne
          go_upto_region 24 with (fail)
          clear t0 f0
          generalize w9.setCell ⟨q, 0, none⟩ (.int .i64 z) = wz at *
          obtain ⟨cu, gr, p0, p1, q0, q1, r0, r1, s0, s1, ow, lb, lr, lp, pl⟩ := id DZ
          obtain ⟨t0, t1, f0, f1⟩ := id XZ
          obtain ⟨y2, y3, hc0, hc1⟩ := ow.cells2 hj
          have fz0 := ow.frozenAt (j * 2)
          have fz1 := ow.frozenAt (j * 2 + 1)
          have st := ow.store hj z y1
          have gp : p < g := by have := (ow.lt g rfl).1; omega
          have n1 : ¬ p = g := by omega
          have n2 : ¬ g = p := by omega
          have n3 : ¬ w.heap.size = g := by omega
          have n4 : ¬ g = w.heap.size := by omega
          have n5 : ¬ w.heap.size = p := by omega
          have n6 : ¬ p = w.heap.size := by omega
          have bg : b < g := by omega
          have bR : b < w.heap.size := lb
          have wg : w.heap.size ≤ g := by omega
          have Rp : w.heap.size < p + 1 := by omega
          have OH := Lib.hid (And.intro st (And.intro cu gr))
          clear st cu gr ow DZ XZ
          go_wp2
          refine bodyPost_ret (v := .agg #[.int .i64 F, .slice (some ⟨g, 0, none⟩) xs.length cap]) (by simp (maxDischargeDepth := 6) [results, Try.results72, go_sem, *]) rfl ?_
          refine ⟨F, some ⟨g, 0, none⟩, cap, xs.set j (z, y1), by rw [List.length_set], ?_, ?_, ?_, by rw [List.length_set]; exact xl⟩
          · exact ((((OH.out.2.1.setOther (a := ⟨g, j * 2, none⟩) bg _).setOther (a := ⟨g, j * 2 + 1, none⟩) bg _).setOther (a := ⟨w.heap.size, 0, none⟩) bR _).setOther (a := ⟨w.heap.size, 1, none⟩) bR _).weak (by omega)
          · exact grown_set (grown_set (grown_set (grown_set OH.out.2.2 (a := ⟨g, j * 2, none⟩) wg _) (a := ⟨g, j * 2 + 1, none⟩) wg _) (a := ⟨w.heap.size, 0, none⟩) (Nat.le_refl _) _) (a := ⟨w.heap.size, 1, none⟩) (Nat.le_refl _) _
          · exact (((RdL.ofOwn OH.out.1.1).set (a := ⟨w.heap.size, 0, none⟩) Rp _).set (a := ⟨w.heap.size, 1, none⟩) Rp _).weak (by omega)
        by_cases c2 : t = 2
        · skip
          subst c2
          have c3b : ((2 : Int) == 3) = false := by simp
          have c4b : ((2 : Int) == 4) = false := by simp
          have c0b : ((2 : Int) == 0) = false := by simp
          have c1b : ((2 : Int) == 1) = false := by simp
          have PC := Lib.hid (fun (q k k' : Nat) (cs : Array Value) (e1 : q = w8.heap.size) (e2 : k = 2) (e3 : cs = (([-1, 1001] : List Int).map (Value.int .i64)).toArray) => amongL_c b A n c _ [-1, 1001] w8 D8.cur q k k' cs (by omega) e1 e2 e3 (by simp) (by simp))
          have p0 := D8.p0
          have q0 := D8.q0
          have t0 := X8.t0
          have t1 := X8.t1
          have f0 := X8.f0
          have f1 := X8.f1
          have nq : some b ≠ some q := fun e => by have := Option.some.inj e; have := D8.lb; have := D8.lr; have := D8.lp; omega
          have gne : (Value.slice (some ⟨g, 0, none⟩) xs.length cap).ownBlock ≠ some q := fun e => by simp only [Value.ownBlock, Option.some.injEq] at e; omega
          have DH := Lib.hid (And.intro D8 X8)
          clear D8 X8 p0 q0 t0 t1 f0 f1
          go_wp2_with fail
          refine (PC.out _ _ _ _ rfl rfl rfl).mono ?_
          rintro e w9 ⟨z, hz, rfl, C9, g9⟩
          have D9 := DH.out.1.far C9 g9
          have X9 := DH.out.2.kept g9 nq
          clear C9 g9 PC DH hz nq
          have DZ := D9.setq (a := ⟨q, 1, none⟩) (by show p < q; omega) gne (.int .i64 z)
          have XZ := X9.set1 z
          have t1 := X9.t1
          have f1 := X9.f1
          clear D9 X9 gne
          go_upto_region 24 with (fail)
          clear t1 f1
          generalize w9.setCell ⟨q, 1, none⟩ (.int .i64 z) = wz at *
          obtain ⟨cu, gr, p0, p1, q0, q1, r0, r1, s0, s1, ow, lb, lr, lp, pl⟩ := id DZ
          obtain ⟨t0, t1, f0, f1⟩ := id XZ
          obtain ⟨y2, y3, hc0, hc1⟩ := ow.cells2 hj
          have fz0 := ow.frozenAt (j * 2)
          have fz1 := ow.frozenAt (j * 2 + 1)
          have st := ow.store hj y0 z
          have gp : p < g := by have := (ow.lt g rfl).1; omega
          have n1 : ¬ p = g := by omega
          have n2 : ¬ g = p := by omega
          have n3 : ¬ w.heap.size = g := by omega
          have n4 : ¬ g = w.heap.size := by omega
          have n5 : ¬ w.heap.size = p := by omega
          have n6 : ¬ p = w.heap.size := by omega
          have bg : b < g := by omega
          have bR : b < w.heap.size := lb
          have wg : w.heap.size ≤ g := by omega
          have Rp : w.heap.size < p + 1 := by omega
          have OH := Lib.hid (And.intro st (And.intro cu gr))
          clear st cu gr ow DZ XZ
          go_wp2
          refine bodyPost_ret (v := .agg #[.int .i64 F, .slice (some ⟨g, 0, none⟩) xs.length cap]) (by simp (maxDischargeDepth := 6) [results, Try.results72, go_sem, *]) rfl ?_
          refine ⟨F, some ⟨g, 0, none⟩, cap, xs.set j (y0, z), by rw [List.length_set], ?_, ?_, ?_, by rw [List.length_set]; exact xl⟩
          · exact ((((OH.out.2.1.setOther (a := ⟨g, j * 2, none⟩) bg _).setOther (a := ⟨g, j * 2 + 1, none⟩) bg _).setOther (a := ⟨w.heap.size, 0, none⟩) bR _).setOther (a := ⟨w.heap.size, 1, none⟩) bR _).weak (by omega)
          · exact grown_set (grown_set (grown_set (grown_set OH.out.2.2 (a := ⟨g, j * 2, none⟩) wg _) (a := ⟨g, j * 2 + 1, none⟩) wg _) (a := ⟨w.heap.size, 0, none⟩) (Nat.le_refl _) _) (a := ⟨w.heap.size, 1, none⟩) (Nat.le_refl _) _
          · exact (((RdL.ofOwn OH.out.1.1).set (a := ⟨w.heap.size, 0, none⟩) Rp _).set (a := ⟨w.heap.size, 1, none⟩) Rp _).weak (by omega)
        by_cases c3 : t = 3
        · subst c3
          have c0b : ((3 : Int) == 0) = false := by simp
          have c1b : ((3 : Int) == 1) = false := by simp
          have c2b : ((3 : Int) == 2) = false := by simp
          have hp8 := D8.pl
          have DH := Lib.hid D8
          clear D8 X8
          go_wp2_with fail
          refine (pick_c b A n c _ 2 _ (DH.out.alloc _).cur (by omega) (by omega)).mono ?_
          rintro e w9 ⟨z, z0, z1, rfl, C9, g9⟩
          have D9 := (DH.out.alloc _).far C9 g9
          have lb8 : b < w8.heap.size := by have := DH.out.lb; have := DH.out.lr; have := DH.out.lp; omega
          obtain ⟨zs5, L5⟩ : ∃ zs : List (Int × Int), RowKit.Hid (RdL w9 w8.heap.size (some ⟨w8.heap.size, 2, none⟩) zs ∧ zs.length = 5) := ⟨_, Lib.hid ⟨(RdL.far (RdL.lit (w := w8) (t := 63) [(1, 0)] [(2, 0), (3, 0), (4, 0), (5, 0), (100000, 0)] _ 2 (by simp [pc]) (by simp)) g9 lb8), by rfl⟩⟩
          obtain ⟨zs6, L6⟩ : ∃ zs : List (Int × Int), RowKit.Hid (RdL w9 w8.heap.size (some ⟨w8.heap.size, 0, none⟩) zs ∧ zs.length = 6) := ⟨_, Lib.hid ⟨(RdL.far (RdL.lit (w := w8) (t := 63) [] [(1, 0), (2, 0), (3, 0), (4, 0), (5, 0), (100000, 0)] _ 0 (by simp [pc]) (by simp)) g9 lb8), by rfl⟩⟩
          obtain ⟨cu, gr, p0, p1, q0, q1, r0, r1, s0, s1, ow, lb, lr, lp, pl⟩ := id D9
          have n5 : ¬ w.heap.size = p := by omega
          have n6 : ¬ p = w.heap.size := by omega
          have bp : b < p := by omega
          have wp : w.heap.size ≤ p := by omega
          have w8p : w.heap.size ≤ w8.heap.size := by omega
          have Rl : w.heap.size < w8.heap.size := by omega
          have OH := Lib.hid (And.intro cu gr)
          clear cu gr ow D9 C9 g9 DH
          rcases (show z = 0 ∨ z = 1 by omega) with rfl | rfl
          · clear z0 z1 L6
            go_wp2
            refine bodyPost_ret (v := .agg #[.int .i64 F, .slice (some ⟨w8.heap.size, 2, none⟩) 5 5]) (by simp (maxDischargeDepth := 6) [results, Try.results72, go_sem, *]) rfl ?_
            refine ⟨F, some ⟨w8.heap.size, 2, none⟩, 5, zs5, by rw [L5.out.2], ?_, ?_, ?_, by have := L5.out.2; omega⟩
            · exact (((OH.out.1.setOther (a := ⟨p, 1, none⟩) bp _).setOther (a := ⟨w.heap.size, 0, none⟩) lb _).setOther (a := ⟨w.heap.size, 1, none⟩) lb _).weak (by omega)
            · exact grown_set (grown_set (grown_set OH.out.2 (a := ⟨p, 1, none⟩) wp _) (a := ⟨w.heap.size, 0, none⟩) (Nat.le_refl _) _) (a := ⟨w.heap.size, 1, none⟩) (Nat.le_refl _) _
            · exact (((L5.out.1.set (a := ⟨p, 1, none⟩) hp8 _).set (a := ⟨w.heap.size, 0, none⟩) Rl _).set (a := ⟨w.heap.size, 1, none⟩) Rl _).weak w8p
          · clear z0 z1 L5
            go_wp2
            refine bodyPost_ret (v := .agg #[.int .i64 F, .slice (some ⟨w8.heap.size, 0, none⟩) 6 6]) (by simp (maxDischargeDepth := 6) [results, Try.results72, go_sem, *]) rfl ?_
            refine ⟨F, some ⟨w8.heap.size, 0, none⟩, 6, zs6, by rw [L6.out.2], ?_, ?_, ?_, by have := L6.out.2; omega⟩
            · exact (((OH.out.1.setOther (a := ⟨p, 1, none⟩) bp _).setOther (a := ⟨w.heap.size, 0, none⟩) lb _).setOther (a := ⟨w.heap.size, 1, none⟩) lb _).weak (by omega)
            · exact grown_set (grown_set (grown_set OH.out.2 (a := ⟨p, 1, none⟩) wp _) (a := ⟨w.heap.size, 0, none⟩) (Nat.le_refl _) _) (a := ⟨w.heap.size, 1, none⟩) (Nat.le_refl _) _
            · exact (((L6.out.1.set (a := ⟨p, 1, none⟩) hp8 _).set (a := ⟨w.heap.size, 0, none⟩) Rl _).set (a := ⟨w.heap.size, 1, none⟩) Rl _).weak w8p
        by_cases c4 : t = 4
        · subst c4
          have c0b : ((4 : Int) == 0) = false := by simp
          have c1b : ((4 : Int) == 1) = false := by simp
          have c2b : ((4 : Int) == 2) = false := by simp
          have c3b : ((4 : Int) == 3) = false := by simp
          obtain ⟨cu, gr, p0, p1, q0, q1, r0, r1, s0, s1, ow, lb, lr, lp, pl⟩ := id D8
          have n5 : ¬ w.heap.size = p := by omega
          have n6 : ¬ p = w.heap.size := by omega
          have bp : b < p := by omega
          have wp : w.heap.size ≤ p := by omega
          have OH := Lib.hid (And.intro cu gr)
          clear cu gr ow D8 X8
          go_wp2
          refine bodyPost_ret (v := .agg #[.int .i64 F, .slice (some ⟨w8.heap.size, 0, none⟩) 0 0]) (by simp (maxDischargeDepth := 6) [results, Try.results72, go_sem, *]) rfl ?_
          exact ⟨F, some ⟨w8.heap.size, 0, none⟩, 0, [], rfl, by ((repeat (first | (exact OH.out.1.weak (by omega)) | (with_reducible refine Cur.alloc ?_ _) | (with_reducible refine Cur.setOther ?_ ?_ _))) <;> first | assumption | (simp; done) | (simp; omega)), by ((repeat (first | exact OH.out.2 | (with_reducible refine grown_alloc ?_ _) | (with_reducible refine grown_set ?_ ?_ _))) <;> first | (simp; done) | (simp; omega)), fun h => absurd h (by simp), by simp⟩
        have c0b : (t == 0) = false := by simp [c0]
        have c1b : (t == 1) = false := by simp [c1]
        have c2b : (t == 2) = false := by simp [c2]
        have c3b : (t == 3) = false := by simp [c3]
        have c4b : (t == 4) = false := by simp [c4]
        have DZ := D8
        have XZ := X8
        clear D8 X8
        obtain ⟨cu, gr, p0, p1, q0, q1, r0, r1, s0, s1, ow, lb, lr, lp, pl⟩ := id DZ
        obtain ⟨t0, t1, f0, f1⟩ := id XZ
        obtain ⟨y2, y3, hc0, hc1⟩ := ow.cells2 hj
        have fz0 := ow.frozenAt (j * 2)
        have fz1 := ow.frozenAt (j * 2 + 1)
        have st := ow.store hj y0 y1
        have gp : p < g := by have := (ow.lt g rfl).1; omega
        have n1 : ¬ p = g := by omega
        have n2 : ¬ g = p := by omega
        have n3 : ¬ w.heap.size = g := by omega
        have n4 : ¬ g = w.heap.size := by omega
        have n5 : ¬ w.heap.size = p := by omega
        have n6 : ¬ p = w.heap.size := by omega
        have bg : b < g := by omega
        have bR : b < w.heap.size := lb
        have wg : w.heap.size ≤ g := by omega
        have Rp : w.heap.size < p + 1 := by omega
        have OH := Lib.hid (And.intro st (And.intro cu gr))
        clear st cu gr ow DZ XZ
        go_wp2
        refine bodyPost_ret (v := .agg #[.int .i64 F, .slice (some ⟨g, 0, none⟩) xs.length cap]) (by simp (maxDischargeDepth := 6) [results, Try.results72, go_sem, *]) rfl ?_
        refine ⟨F, some ⟨g, 0, none⟩, cap, xs.set j (y0, y1), by rw [List.length_set], ?_, ?_, ?_, by rw [List.length_set]; exact xl⟩
        · exact ((((OH.out.2.1.setOther (a := ⟨g, j * 2, none⟩) bg _).setOther (a := ⟨g, j * 2 + 1, none⟩) bg _).setOther (a := ⟨w.heap.size, 0, none⟩) bR _).setOther (a := ⟨w.heap.size, 1, none⟩) bR _).weak (by omega)
        · exact grown_set (grown_set (grown_set (grown_set OH.out.2.2 (a := ⟨g, j * 2, none⟩) wg _) (a := ⟨g, j * 2 + 1, none⟩) wg _) (a := ⟨w.heap.size, 0, none⟩) (Nat.le_refl _) _) (a := ⟨w.heap.size, 1, none⟩) (Nat.le_refl _) _
        · exact (((RdL.ofOwn OH.out.1.1).set (a := ⟨w.heap.size, 0, none⟩) Rp _).set (a := ⟨w.heap.size, 1, none⟩) Rp _).weak (by omega)
end Go.Proofs.Ytbfaejacfhblkaa
