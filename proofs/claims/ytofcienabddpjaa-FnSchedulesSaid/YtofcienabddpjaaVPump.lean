/- Contracts: pumpings drawn. -/
import Derived.Test.YtofcienabddpjaaVBox
namespace Go.Proofs.Ytofcienabddpjaa
open Go.RowKit

theorem own3_far {w w' : World} {base b : Nat} {v1 v2 v3 : Value} {xs ys zs : List Int} (h : Own3 w base v1 xs v2 ys v3 zs) (g : w.grownBy w' (some b)) (hb : b < base) : Own3 w' base v1 xs v2 ys v3 zs := by
  have f : ∀ {v : Value} {l : List Int}, OwnI w base v l → (v.ownBlock = none ∨ v.ownBlock ≠ some b) := fun o => .inr (fun q => by have := (o.lt b q).1; omega)
  exact ⟨h.o1.kept g (f h.o1), h.o2.kept g (f h.o2), h.o3.kept g (f h.o3), h.a12, h.a13, h.a23⟩
theorem own3_weak {w : World} {base base' : Nat} {v1 v2 v3 : Value} {xs ys zs : List Int} (h : Own3 w base v1 xs v2 ys v3 zs) (hb : base' ≤ base) : Own3 w base' v1 xs v2 ys v3 zs := ⟨h.o1.weak hb, h.o2.weak hb, h.o3.weak hb, h.a12, h.a13, h.a23⟩
theorem fin6 {w W : World} {b base n c m : Nat} {A : Option Addr} {v1 v2 v3 : Value} {xs ys zs : List Int} (C : Cur W b A n c m) (G : w.grownBy W (some b)) (O : Own3 W base v1 xs v2 ys v3 zs) (hb : b < w.heap.size) (hR : w.heap.size < base) (u0 u1 u2 u3 u4 u5 : Value) :
    Cur ((((((W.setCell ⟨w.heap.size, 0, none⟩ u0).setCell ⟨w.heap.size, 1, none⟩ u1).setCell ⟨w.heap.size, 2, none⟩ u2).setCell ⟨w.heap.size, 3, none⟩ u3).setCell ⟨w.heap.size, 4, none⟩ u4).setCell ⟨w.heap.size, 5, none⟩ u5) b A n c m ∧
    w.grownBy ((((((W.setCell ⟨w.heap.size, 0, none⟩ u0).setCell ⟨w.heap.size, 1, none⟩ u1).setCell ⟨w.heap.size, 2, none⟩ u2).setCell ⟨w.heap.size, 3, none⟩ u3).setCell ⟨w.heap.size, 4, none⟩ u4).setCell ⟨w.heap.size, 5, none⟩ u5) (some b) ∧
    Own3 ((((((W.setCell ⟨w.heap.size, 0, none⟩ u0).setCell ⟨w.heap.size, 1, none⟩ u1).setCell ⟨w.heap.size, 2, none⟩ u2).setCell ⟨w.heap.size, 3, none⟩ u3).setCell ⟨w.heap.size, 4, none⟩ u4).setCell ⟨w.heap.size, 5, none⟩ u5) w.heap.size v1 xs v2 ys v3 zs := by
  refine ⟨(((((C.setOther hb _).setOther hb _).setOther hb _).setOther hb _).setOther hb _).setOther hb _, ?_, own3_weak ((((((O.set hR _).set hR _).set hR _).set hR _).set hR _).set hR _) (Nat.le_of_lt hR)⟩
  exact grown_set (grown_set (grown_set (grown_set (grown_set (grown_set G (Nat.le_refl _) _) (Nat.le_refl _) _) (Nat.le_refl _) _) (Nat.le_refl _) _) (Nat.le_refl _) _) (Nat.le_refl _) _
theorem own_ge {w : World} {base : Nat} {v : Value} {l : List Int} (o : OwnI w base v l) : ∀ k, v.ownBlock = some k → base ≤ k := fun k hk => (o.lt k hk).1
theorem lone_lit (w : World) (z : Int) : RdI (w.alloc (.cells #[.int .i64 z] 3)) (w.heap.size + 1) (some ⟨w.heap.size, 0, none⟩) [z] := RdI.one w z
theorem step_appK {wr : World} {B : Nat} {ops : Array Oper} {o : Oper} {a : Act} {K : Act → World → Prop} {Q : Exit → Act → World → Prop} {E : Prop} (hgd : o.guard = none) (s x : Operand)
    (ho : o.op = .call { callee := .builtin .append, args := #[s, x], argTypes := #[26, 26] }) (base : Nat) (v : Value) (ad : Addr) (c : Nat) (xs ys : List Int)
    (hs : a.eval s = v) (hown : OwnI wr base v xs) (hx : a.eval x = .slice (some ad) ys.length c) (hrd : RdI wr B (some ad) ys) (hlen : xs.length ≤ 65536) (hlen2 : ys.length ≤ 1048576) (hbase : base ≤ wr.heap.size)
    (h : ∀ v' w', OwnI w' base v' (xs ++ ys) → wr.grownBy w' v.ownBlock → (v'.ownBlock = v.ownBlock ∨ v'.ownBlock = some wr.heap.size) → K (a.put o.dst v') w') :
    if Region.wanted o (yielded ops a.tmps) = true then Oper.wp Try.prog o a wr K Q else E := by
  have hw : Region.wanted o (yielded ops a.tmps) = true := by simp [Region.wanted, hgd]
  rw [if_pos hw]
  exact wp_appIs s x ho base v ad c xs ys hs hown hx hrd hlen hlen2 hbase h
theorem amongD_c (b : Nat) (A : Option Addr) (n c m : Nat) (ys : List Int) (w : World) (h : Cur w b A n c m) (q k k' : Nat) (cs : Array Value) (hm : m ≤ 100000000) (hq : q = w.heap.size) (hk : k = ys.length) (hcs : cs = (ys.map (Value.int .i64)).toArray) (hl : 0 < ys.length) (hl2 : ys.length ≤ 60000) :
    Calls Try.prog 70 #[.pointer (some ⟨b, 0, none⟩), .slice (some ⟨q, 0, none⟩) k k'] (w.alloc (.cells cs 3)).drew fun e w' => ∃ z : Int, z ∈ ys ∧ e = .returned (.int .i64 z) ∧ Cur w' b A n c (m + 2) ∧ w.grownBy w' (some b) := by
  have hb := h.lt
  subst hq hk hcs
  have rd : RdI (w.alloc (.cells (ys.map (Value.int .i64)).toArray 3)).drew (w.heap.size + 1) (some ⟨w.heap.size, 0, none⟩) ys := RdI.lits w ys
  refine (among_c (B := w.heap.size + 1) b A n c m _ _ ys _ (h.alloc _).drew hm rd hl hl2 (fun g off e => by simp at e; omega) (by show _ ≤ (w.alloc _).heap.size; simp)).mono ?_
  rintro e w' ⟨k, hk, rfl, C, g⟩
  exact ⟨ys.getD k 0, by simp [List.getD_eq_getElem?_getD, hk], rfl, C, grown_trans (World.grownBy_alloc _ _ _) (grown_undrew g)⟩
theorem step_callr {wr : World} {ops : Array Oper} {o : Oper} {a : Act} {K : Act → World → Prop} {Q : Exit → Act → World → Prop} {E : Prop} {R : Value → World → Prop} (hgd : o.guard = none) (f : FuncId) (args : Array Value)
    (hrun : (execOp a.eval o).run Try.prog wr = .ok (.enter f args) wr) (hc : Calls Try.prog f args wr fun e w' => ∃ v, e = .returned v ∧ R v w') (h : ∀ v w', R v w' → K (a.put o.dst v) w') :
    if Region.wanted o (yielded ops a.tmps) = true then Oper.wp Try.prog o a wr K Q else E := by
  rw [if_pos (by simp [Region.wanted, hgd])]
  unfold Oper.wp
  rw [hrun, Oper.upon_enter]
  exact hc.mono fun e w' ⟨v, he, hw⟩ => by subst he; exact h v w' hw
theorem amongD_r (b : Nat) (A : Option Addr) (n c m : Nat) (ys : List Int) (w : World) (h : Cur w b A n c m) (q k k' : Nat) (cs : Array Value) (hm : m ≤ 100000000) (hq : q = w.heap.size) (hk : k = ys.length) (hcs : cs = (ys.map (Value.int .i64)).toArray) (hl : 0 < ys.length) (hl2 : ys.length ≤ 60000) :
    Calls Try.prog 70 #[.pointer (some ⟨b, 0, none⟩), .slice (some ⟨q, 0, none⟩) k k'] (w.alloc (.cells cs 3)).drew fun e w' => ∃ v, e = .returned v ∧ ∃ z : Int, v = .int .i64 z ∧ Cur w' b A n c (m + 2) ∧ w.grownBy w' (some b) :=
  (amongD_c b A n c m ys w h q k k' cs hm hq hk hcs hl hl2).mono fun _ _ ⟨z, _, he, C, g⟩ => ⟨_, he, z, rfl, C, g⟩
theorem pick_r (b : Nat) (A : Option Addr) (n c m : Nat) (q : Int) (w : World) (h : Cur w b A n c m) (hm : m ≤ 100000000) (hq : q ≤ 60000) :
    Calls Try.prog 44 #[.pointer (some ⟨b, 0, none⟩), .int .i64 q] w.drew fun e w' => ∃ v, e = .returned v ∧ ∃ z : Int, v = .int .i64 z ∧ Cur w' b A n c (m + 2) ∧ w.grownBy w' (some b) :=
  (pick_c b A n c m q w.drew h.drew hm hq).mono fun _ _ ⟨z, _, _, he, C, g⟩ => ⟨_, he, z, rfl, C, grown_undrew g⟩
theorem grown_trans' {a b c : World} {row row' : Option Nat} (h : a.grownBy b row') (k : b.grownBy c row) : a.heap.size ≤ c.heap.size := Nat.le_trans h.size k.size
set_option maxRecDepth 100000 in
set_option maxHeartbeats 40000000 in
theorem pumping_c (b : Nat) (A : Option Addr) (n c m : Nat) (w : World) (h : Cur w b A n c m) (hm : m ≤ 1000000) :
    Calls Try.prog 43 #[.pointer (some ⟨b, 0, none⟩)] w fun e w' => ∃ (L E M P : Int) (s1 s2 : Value) (xs ys : List Int), e = .returned (.agg #[.int .i64 L, .int .i64 E, .int .i64 M, .int .i64 P, s1, s2]) ∧ Cur w' b A n c (m + 100) ∧ w.grownBy w' (some b) ∧ Own3 w' w.heap.size s1 xs s2 ys (.slice none 0 0) [] ∧ xs.length ≤ 14 ∧ ys.length ≤ 14 := by
  have hlt := h.lt
  go_enter Try.func43, Try.ntmps43
  go_wp2_with fail
  obtain ⟨W0, hW0⟩ : ∃ W, W = w.alloc (.cells #[.int .i64 0, .int .i64 0, .int .i64 0, .int .i64 0, .slice none 0 0, .slice none 0 0] 28) := ⟨_, rfl⟩
  rw [← hW0]
  have C0 : Cur W0 b A n c m := by rw [hW0]; exact h.alloc _
  have G0 : w.grownBy W0 (some b) := by rw [hW0]; exact World.grownBy_alloc _ _ _
  have s0 : W0.heap.size = w.heap.size + 1 := by rw [hW0]; simp
  have rB0 : QB W0 w.heap.size 0 0 0 0 (.slice none 0 0) (.slice none 0 0) := by rw [hW0]; exact QB.new _ _ _ _ _ _ _
  clear hW0 h
  go_wp2_with fail
  refine (tank_c b A n c m W0 C0 hm).mono ?_
  rintro e w1 ⟨L, E, M, rfl, C1, g1⟩
  have rB1 := rB0.kept g1 (fun e => by have := Option.some.inj e; omega)
  have G1 := grown_trans G0 g1
  have s1 := g1.size
  clear G0 g1 C0 rB0
  go_wp2_with fail
  refine (amongL_c b A n c (m + 12) [3, 5, 8, 10] w1 C1 _ _ _ _ (by omega) (by rfl) (by rfl) (by rfl) (by simp) (by simp)).mono ?_
  rintro e w2 ⟨U, hU, rfl, C2, g2⟩
  have rB2 := rB1.kept g2 (fun e => by have := Option.some.inj e; omega)
  have G2 := grown_trans G1 g2
  have s2 := g2.size
  clear G1 g2 C1 rB1 hU
  go_upto_region 2 with (fail)
  obtain ⟨W, hW⟩ : ∃ W, W = w2.alloc (.cells #[.int .i64 L, .int .i64 E, .int .i64 M, .int .i64 U, .slice none 0 0, .slice none 0 0] 28) := ⟨_, rfl⟩
  rw [← hW]
  have C3 : Cur W b A n c (m + 14) := by rw [hW]; exact C2.alloc _
  have G3 : w.grownBy W (some b) := by rw [hW]; exact grown_alloc G2 _
  have hbp : b < w2.heap.size := by omega
  have hwp : w.heap.size < w2.heap.size := by omega
  have rB3 : QB W w.heap.size 0 0 0 0 (.slice none 0 0) (.slice none 0 0) := by rw [hW]; exact rB2.alloc _
  have pB3 : QB W w2.heap.size L E M U (.slice none 0 0) (.slice none 0 0) := by rw [hW]; exact QB.new _ _ _ _ _ _ _
  have Z3 : w2.heap.size + 1 ≤ W.heap.size := by rw [hW]; simp
  clear G2 C2 hW s0 s1 s2 rB2
  generalize w2.heap.size = p at *
  go_wp2_with fail
  refine (pick_c b A n c (m + 14) 6 _ C3 (by omega) (by omega)).mono ?_
  rintro e w4 ⟨x, x0, x1, rfl, C4, g4⟩
  have rB4 := rB3.kept g4 (fun e => by have := Option.some.inj e; omega)
  have pB4 := pB3.kept g4 (fun e => by have := Option.some.inj e; omega)
  have G4 := grown_trans G3 g4
  have Z4 := Nat.le_trans Z3 g4.size
  have W4 : IntKind.i64.wrap (1 + x) = 1 + x := IntWalk.i64_in _ (by omega)
  clear G3 g4 C3 rB3 pB3 Z3
  go_wp2_with fail
  refine (one_c b A n c (m + 16) 20 _ C4 (by omega) (by omega)).mono ?_
  rintro e w5 ⟨t, rfl, C5, g5⟩
  have rB5 := rB4.kept g5 (fun e => by have := Option.some.inj e; omega)
  have pB5 := pB4.kept g5 (fun e => by have := Option.some.inj e; omega)
  have G5 := grown_trans G4 g5
  have Z5 := Nat.le_trans Z4 g5.size
  clear G4 g5 C4 rB4 pB4 Z4
  go_upto_if 16 with (fail)
  go_cut [4] (fun v wx => ∃ N : Nat, N ≤ 13 ∧ v = .int .i64 N ∧ Cur wx b A n c (m + 20) ∧ w.grownBy wx (some b) ∧ QB wx w.heap.size 0 0 0 0 (.slice none 0 0) (.slice none 0 0) ∧ QB wx p L E M U (.slice none 0 0) (.slice none 0 0) ∧ p + 1 ≤ wx.heap.size)
  case first =>
    obtain ⟨xn, rfl⟩ := Int.eq_ofNat_of_zero_le x0
    cases t
    · go_wp2_with fail
      go_meet
      exact ⟨1 + xn, by omega, by congr 1, C5.weak (by omega), G5, rB5, pB5, Z5⟩
    · go_wp2_with fail
      refine (amongL_c b A n c (m + 18) [0, 12, 13] w5 C5 _ _ _ _ (by omega) (by rfl) (by rfl) (by rfl) (by simp) (by simp)).mono ?_
      rintro e w6 ⟨V, hV, rfl, C6, g6⟩
      have bV : 0 ≤ V ∧ V ≤ 13 := by simp at hV; omega
      obtain ⟨vn, rfl⟩ := Int.eq_ofNat_of_zero_le bV.1
      go_wp2_with fail
      go_meet
      exact ⟨vn, by omega, rfl, C6, grown_trans G5 g6, rB5.kept g6 (fun e => by have := Option.some.inj e; omega), pB5.kept g6 (fun e => by have := Option.some.inj e; omega), Nat.le_trans Z5 g6.size⟩
  case rest =>
    clear C5 G5 rB5 pB5 Z5 x0 x1 W4
    obtain ⟨N, hN, rfl, C7, G7, rB7, pB7, Z7⟩ := hcut
    go_wp2
    have O0 : Own3 wc (p + 1) (.slice none 0 0) [] (.slice none 0 0) [] (.slice none 0 0) [] := ⟨OwnI.nil _ _, OwnI.nil _ _, OwnI.nil _ _, fun g h => by (simp [Value.ownBlock] at h), fun g h => by (simp [Value.ownBlock] at h), fun g h => by (simp [Value.ownBlock] at h)⟩
    go_loopw [5] (fun iv wr => ∃ (k : Nat) (v1 v2 : Value) (xs ys : List Int), k ≤ N ∧ iv = .int .i64 k ∧ (xs.length ≤ k ∧ k ≤ xs.length) ∧ (ys.length ≤ k ∧ k ≤ ys.length) ∧ Cur wr b A n c (m + 20 + 4 * k) ∧ w.grownBy wr (some b) ∧ QB wr w.heap.size 0 0 0 0 (.slice none 0 0) (.slice none 0 0) ∧ QB wr p L E M U v1 v2 ∧ Own3 wr (p + 1) v1 xs v2 ys (.slice none 0 0) [] ∧ p + 1 ≤ wr.heap.size) (fun iv _ => N - (intOf iv).toNat)
    case atStart => exact ⟨0, _, _, [], [], by omega, rfl, by simp, by simp, C7, G7, rB7, pB7, O0, Z7⟩
    case round =>
      clear C7 G7 rB7 pB7 Z7 O0
      obtain ⟨k, v1, v2, xs, ys, hk, rfl, hxl, hyl, CC, GG, rB, pB, OO, ZZ⟩ := hrel
      by_cases hlt' : k < N
      · have hi : (k : Int) < (N : Int) := by omega
        have Wk : IntKind.i64.wrap ((k : Int) + 1) = (k : Int) + 1 := IntWalk.i64_in _ (by omega)
        have hl14 : xs.length ≤ 65536 := by omega
        go_upto_region 8 with (fail)
        go_cut [31] (fun _ wx => ∃ (v : Value) (z : Int), Cur wx b A n c (m + 22 + 4 * k) ∧ w.grownBy wx (some b) ∧ QB wx w.heap.size 0 0 0 0 (.slice none 0 0) (.slice none 0 0) ∧ QB wx p L E M U v v2 ∧ Own3 wx (p + 1) v (xs ++ [z]) v2 ys (.slice none 0 0) [] ∧ p + 1 ≤ wx.heap.size)
        case first =>
          obtain ⟨p0, p1, p2, p3, p4, p5, f0, f1, f2, f3, f4, f5⟩ := id pB
          go_region_law (first | (refine step_callr rfl 70 #[.pointer (some ⟨b, 0, none⟩), .slice (some ⟨wr.heap.size, 0, none⟩) 6 6] (by go_simp) (amongD_r b A n c (m + 20 + 4 * k) [0, 1, 2, 5, 10, 100] wr CC _ _ _ _ (by omega) (by rfl) (by rfl) (by rfl) (by simp) (by simp)) ?_; rintro e w6 ⟨z, rfl, C6, g6⟩; have g6' : wr.grownBy w6 (some b) := (by first | exact grown_undrew g6 | exact g6); have pB6 := pB.kept g6' (fun e => by have := Option.some.inj e; omega); have rB6 := rB.kept g6' (fun e => by have := Option.some.inj e; omega); have GG6 := grown_trans GG g6'; have ZZ6 := Nat.le_trans ZZ g6'.size; have OO6 := own3_far OO g6' (by omega); clear p0 p1 p2 p3 p4 p5 f0 f1 f2 f3 f4 f5; obtain ⟨p0, p1, p2, p3, p4, p5, f0, f1, f2, f3, f4, f5⟩ := id pB6) | (refine step_appK rfl (.tmp 26) (.tmp 30) (by rfl) (p + 1) v1 _ _ _ [z] (by rfl) (OO6.o1.alloc _) (by rfl) (lone_lit w6 z) (by first | exact hl14 | omega) (by simp) (by rw [World.size_alloc]; omega) ?_; intro v7 w7 o7 g7 l7; obtain ⟨Aq, cq, eqv⟩ := o7.shape; simp only [List.length_append, List.length_cons, List.length_nil, Nat.zero_add] at eqv; subst eqv; have q7 := own_ge OO6.o1; have pB7 := (pB6.alloc _).kept g7 (fun e => by have := q7 _ e.symm; omega); have rB7 := (rB6.alloc _).kept g7 (fun e => by have := q7 _ e.symm; omega); have C7' := (C6.alloc _).kept g7 (fun k hk => by have := q7 _ hk; omega); have GG7 := grown_own (grown_alloc GG6 _) g7 (fun k hk => by have := q7 _ hk; omega); have OO7 := ((OO6.alloc _).app1 o7 g7 l7 (Nat.le_refl _)); have ZZ7 : p + 1 ≤ w7.heap.size := Nat.le_trans ZZ6 (by have := g7.size; rw [World.size_alloc] at this; omega); clear p0 p1 p2 p3 p4 p5 f0 f1 f2 f3 f4 f5; obtain ⟨p0, p1, p2, p3, p4, p5, f0, f1, f2, f3, f4, f5⟩ := id pB7))
          all_goals
            go_wp2_with fail
            go_meet
            exact ⟨_, z, (C7'.setOther (a := ⟨p, 4, none⟩) (by show b < p; omega) _).weak (by omega), grown_set GG7 (a := ⟨p, 4, none⟩) (by show w.heap.size ≤ p; omega) _, rB7.setOther (a := ⟨p, 4, none⟩) (by show ¬ w.heap.size = p; omega) _, pB7.set4 _, OO7.set (a := ⟨p, 4, none⟩) (by show p < p + 1; omega) _, by rw [World.size_setCell]; exact ZZ7⟩
        case rest =>
          clear CC GG rB pB OO ZZ hl14
          obtain ⟨v1, z, CC, GG, rB, pB, OO, ZZ⟩ := hcut
          have hl14 : ys.length ≤ 65536 := by omega
          go_upto_region 9 with (fail)
          obtain ⟨p0, p1, p2, p3, p4, p5, f0, f1, f2, f3, f4, f5⟩ := id pB
          go_region_law (first | (refine step_callr rfl 44 #[.pointer (some ⟨b, 0, none⟩), .int .i64 8] (by go_simp) (pick_r b A n c (m + 22 + 4 * k) 8 wc CC (by omega) (by omega)) ?_; rintro e w6 ⟨z, rfl, C6, g6⟩; have g6' : wc.grownBy w6 (some b) := (by first | exact grown_undrew g6 | exact g6); have pB6 := pB.kept g6' (fun e => by have := Option.some.inj e; omega); have rB6 := rB.kept g6' (fun e => by have := Option.some.inj e; omega); have GG6 := grown_trans GG g6'; have ZZ6 := Nat.le_trans ZZ g6'.size; have OO6 := own3_far OO g6' (by omega); clear p0 p1 p2 p3 p4 p5 f0 f1 f2 f3 f4 f5; obtain ⟨p0, p1, p2, p3, p4, p5, f0, f1, f2, f3, f4, f5⟩ := id pB6) | (refine step_appK rfl (.tmp 34) (.tmp 37) (by rfl) (p + 1) v2 _ _ _ [z] (by rfl) (OO6.o2.alloc _) (by rfl) (lone_lit w6 z) (by first | exact hl14 | omega) (by simp) (by rw [World.size_alloc]; omega) ?_; intro v7 w7 o7 g7 l7; obtain ⟨Aq, cq, eqv⟩ := o7.shape; simp only [List.length_append, List.length_cons, List.length_nil, Nat.zero_add] at eqv; subst eqv; have q7 := own_ge OO6.o2; have pB7 := (pB6.alloc _).kept g7 (fun e => by have := q7 _ e.symm; omega); have rB7 := (rB6.alloc _).kept g7 (fun e => by have := q7 _ e.symm; omega); have C7' := (C6.alloc _).kept g7 (fun k hk => by have := q7 _ hk; omega); have GG7 := grown_own (grown_alloc GG6 _) g7 (fun k hk => by have := q7 _ hk; omega); have OO7 := ((((OO6.alloc _).turn).app1 o7 g7 l7 (Nat.le_refl _)).turn.turn); have ZZ7 : p + 1 ≤ w7.heap.size := Nat.le_trans ZZ6 (by have := g7.size; rw [World.size_alloc] at this; omega); clear p0 p1 p2 p3 p4 p5 f0 f1 f2 f3 f4 f5; obtain ⟨p0, p1, p2, p3, p4, p5, f0, f1, f2, f3, f4, f5⟩ := id pB7))
          all_goals
            go_wp2
            go_roundw
            case rel => first | exact ⟨k + 1, _, _, _, _, by omega, by go_num, by simp; omega, by simp; omega, (C7'.setOther (a := ⟨p, 5, none⟩) (by show b < p; omega) _).weak (by omega), grown_set GG7 (a := ⟨p, 5, none⟩) (by show w.heap.size ≤ p; omega) _, rB7.setOther (a := ⟨p, 5, none⟩) (by show ¬ w.heap.size = p; omega) _, pB7.set5 _, OO7.set (a := ⟨p, 5, none⟩) (by show p < p + 1; omega) _, by rw [World.size_setCell]; exact ZZ7⟩ | ((repeat apply Exists.intro); exact ⟨⟨k + 1, _, _, _, _, by omega, by go_num, by simp; omega, by simp; omega, (C7'.setOther (a := ⟨p, 5, none⟩) (by show b < p; omega) _).weak (by omega), grown_set GG7 (a := ⟨p, 5, none⟩) (by show w.heap.size ≤ p; omega) _, rB7.setOther (a := ⟨p, 5, none⟩) (by show ¬ w.heap.size = p; omega) _, pB7.set5 _, OO7.set (a := ⟨p, 5, none⟩) (by show p < p + 1; omega) _, by rw [World.size_setCell]; exact ZZ7⟩, rfl⟩)
            case measure => simp [intOf]; omega
      · obtain rfl : k = N := by omega
        have hl14 : xs.length ≤ 13 := by omega
        have hm14 : ys.length ≤ 13 := by omega
        obtain ⟨A1, c1, rfl⟩ := OO.o1.shape
        obtain ⟨A2, c2, rfl⟩ := OO.o2.shape
        have hi : ¬ (k : Int) < (k : Int) := by omega
        go_wp2_with fail
        refine (pick_c b A n c (m + 20 + 4 * k) 24 wr CC (by omega) (by omega)).mono ?_
        rintro e w8 ⟨y, y0, y1, rfl, C8, g8⟩
        have rB8 := rB.kept g8 (fun e => by have := Option.some.inj e; omega)
        have pB8 := pB.kept g8 (fun e => by have := Option.some.inj e; omega)
        have G8 := grown_trans GG g8
        have Z8 := Nat.le_trans ZZ g8.size
        have O8 := own3_far OO g8 (by omega)
        have hpw : ¬ w.heap.size = p := by omega
        have hwp2 : ¬ p = w.heap.size := by omega
        clear CC GG rB pB OO ZZ g8
        by_cases c0 : y = 0
        · subst c0
          obtain ⟨p0, p1, p2, p3, p4, p5, f0, f1, f2, f3, f4, f5⟩ := id pB8
          go_wp2_with fail
          clear p0 p1 p2 p3 p4 p5 f0 f1 f2 f3 f4 f5
          refine (amongL_c b A n c (m + 20 + 4 * k + 2) [0, 11, -1] w8 C8 _ _ _ _ (by omega) (by rfl) (by rfl) (by rfl) (by simp) (by simp)).mono ?_
          rintro e w9 ⟨z, hz, rfl, C9, g9⟩
          have rB9 := rB8.kept g9 (fun e => by have := Option.some.inj e; omega)
          have pB9 := pB8.kept g9 (fun e => by have := Option.some.inj e; omega)
          have G9 := grown_trans G8 g9
          have O9 := own3_far O8 g9 (by omega)
          clear C8 rB8 pB8 G8 O8 g9 hz
          obtain ⟨p0, p1, p2, p3, p4, p5, f0, f1, f2, f3, f4, f5⟩ := id pB9
          obtain ⟨r0, r1, r2, r3, r4, r5, h0, h1, h2, h3, h4, h5⟩ := id rB9
          go_wp2
          go_light
          refine bodyPost_ret (v := .agg #[.int .i64 L, .int .i64 E, .int .i64 M, .int .i64 z, .slice A1 xs.length c1, .slice A2 ys.length c2]) (by simp (maxDischargeDepth := 8) [results, Try.results43, go_sem, *]) rfl ?_
          have F := fin6 (C9.setOther (a := ⟨p, 3, none⟩) (by show b < p; omega) (.int .i64 z)) (grown_set G9 (a := ⟨p, 3, none⟩) (by show w.heap.size ≤ p; omega) (.int .i64 z)) (O9.set (a := ⟨p, 3, none⟩) (by show p < p + 1; omega) (.int .i64 z)) hlt (by omega) (.int .i64 L) (.int .i64 E) (.int .i64 M) (.int .i64 z) (.slice A1 xs.length c1) (.slice A2 ys.length c2)
          exact ⟨_, _, _, _, _, _, _, _, rfl, F.1.weak (by omega), F.2.1, F.2.2, by (first | omega | (simp; omega)), by (first | omega | (simp; omega))⟩
        by_cases c1' : y = 1
        · subst c1'
          obtain ⟨p0, p1, p2, p3, p4, p5, f0, f1, f2, f3, f4, f5⟩ := id pB8
          go_wp2_with (at_builtin; refine wpList_appK (wr := w8) rfl (.tmp 51) (.tmp 52) rfl (p + 1) _ _ _ _ rfl O8.o2 rfl rfl (by omega) Z8 ?_; intro nv w9 q g l; obtain ⟨Aq, cq, eqv⟩ := q.shape; simp only [List.length_append, List.length_cons, List.length_nil, Nat.zero_add] at eqv; subst eqv; have q8 := own_ge O8.o2; have pB9 := pB8.kept g (fun e => by have := q8 _ e.symm; omega); have rB9 := rB8.kept g (fun e => by have := q8 _ e.symm; omega); have C9 := C8.kept g (fun k hk => by have := q8 _ hk; omega); have G9 := grown_own G8 g (fun k hk => by have := q8 _ hk; omega); have O9 := ((O8.turn).app1 q g l (by omega)).turn.turn; clear p0 p1 p2 p3 p4 p5 f0 f1 f2 f3 f4 f5 C8 rB8 pB8 G8 O8 q8 q g l; obtain ⟨p0, p1, p2, p3, p4, p5, f0, f1, f2, f3, f4, f5⟩ := id pB9; obtain ⟨r0, r1, r2, r3, r4, r5, h0, h1, h2, h3, h4, h5⟩ := id rB9)
          go_light
          refine bodyPost_ret (v := .agg #[.int .i64 L, .int .i64 E, .int .i64 M, .int .i64 U, .slice A1 xs.length c1, .slice Aq (ys.length + 1) cq]) (by simp (maxDischargeDepth := 8) [results, Try.results43, go_sem, *]) rfl ?_
          have F := fin6 (C9.setOther (a := ⟨p, 5, none⟩) (by show b < p; omega) (.slice Aq (ys.length + 1) cq)) (grown_set G9 (a := ⟨p, 5, none⟩) (by show w.heap.size ≤ p; omega) (.slice Aq (ys.length + 1) cq)) (O9.set (a := ⟨p, 5, none⟩) (by show p < p + 1; omega) (.slice Aq (ys.length + 1) cq)) hlt (by omega) (.int .i64 L) (.int .i64 E) (.int .i64 M) (.int .i64 U) (.slice A1 xs.length c1) (.slice Aq (ys.length + 1) cq)
          exact ⟨_, _, _, _, _, _, _, _, rfl, F.1.weak (by omega), F.2.1, F.2.2, by (first | omega | (simp; omega)), by (first | omega | (simp; omega))⟩
        by_cases c2' : y = 2
        · subst c2'
          by_cases hk0 : k = 0
          · have hk1 : ¬ (0 : Int) < (k : Int) := by omega
            have hk2 : decide ((0 : Int) < (k : Int)) = false := decide_eq_false hk1
            obtain ⟨p0, p1, p2, p3, p4, p5, f0, f1, f2, f3, f4, f5⟩ := id pB8
            obtain ⟨r0, r1, r2, r3, r4, r5, h0, h1, h2, h3, h4, h5⟩ := id rB8
            go_wp2
            go_light
            refine bodyPost_ret (v := .agg #[.int .i64 L, .int .i64 E, .int .i64 M, .int .i64 U, .slice A1 xs.length c1, .slice A2 ys.length c2]) (by simp (maxDischargeDepth := 8) [results, Try.results43, go_sem, *]) rfl ?_
            have F := fin6 C8 G8 O8 hlt (by omega) (.int .i64 L) (.int .i64 E) (.int .i64 M) (.int .i64 U) (.slice A1 xs.length c1) (.slice A2 ys.length c2)
            exact ⟨_, _, _, _, _, _, _, _, rfl, F.1.weak (by omega), F.2.1, F.2.2, by (first | omega | (simp; omega)), by (first | omega | (simp; omega))⟩
          · have hk1 : (0 : Int) < (k : Int) := by omega
            have hk2 : decide ((0 : Int) < (k : Int)) = true := decide_eq_true hk1
            obtain ⟨gb, cc, hv, hg1, hg2⟩ := O8.o1.head (by omega)
            simp only [Value.slice.injEq, true_and] at hv
            obtain ⟨rfl, rfl⟩ := hv
            have hx1 : 0 < xs.length := by omega
            obtain ⟨p0, p1, p2, p3, p4, p5, f0, f1, f2, f3, f4, f5⟩ := id pB8
            go_upto_region 17 with (fail)
            go_region_law (first | (refine step_callr rfl 70 #[.pointer (some ⟨b, 0, none⟩), .slice (some ⟨w8.heap.size, 0, none⟩) 2 2] (by go_simp) (amongD_r b A n c (m + 20 + 4 * k + 2) [-1, 101] w8 C8 _ _ _ _ (by omega) (by rfl) (by rfl) (by rfl) (by simp) (by simp)) ?_; rintro e w9 ⟨z, rfl, C9, g9⟩; have rB9 := rB8.kept g9 (fun e => by have := Option.some.inj e; omega); have pB9 := pB8.kept g9 (fun e => by have := Option.some.inj e; omega); have G9 := grown_trans G8 g9; have O9 := own3_far O8 g9 (by omega); have rc := O9.o1.cellAt (k := 0) (by omega); have rf := O9.o1.frozenAt 0; clear p0 p1 p2 p3 p4 p5 f0 f1 f2 f3 f4 f5 C8 rB8 pB8 G8 O8 g9; obtain ⟨p0, p1, p2, p3, p4, p5, f0, f1, f2, f3, f4, f5⟩ := id pB9))
            all_goals
              clear p0 p1 p2 p3 p4 p5 f0 f1 f2 f3 f4 f5 rc rf
              have st := O9.o1.stored 0 z
              have C10 := C9.setOther (a := ⟨gb, 0, none⟩) (by show b < gb; omega) (.int .i64 z)
              have G10 := grown_set G9 (a := ⟨gb, 0, none⟩) (by show w.heap.size ≤ gb; omega) (.int .i64 z)
              have rB10 := rB9.setOther (a := ⟨gb, 0, none⟩) (by show ¬ w.heap.size = gb; omega) (.int .i64 z)
              have pB10 := pB9.setOther (a := ⟨gb, 0, none⟩) (by show ¬ p = gb; omega) (.int .i64 z)
              have O10 := (O9.app1 st.1 st.2 (.inl rfl) (Nat.le_refl _))
              clear C9 G9 rB9 pB9 O9 st
              generalize w9.setCell ⟨gb, 0, none⟩ (.int .i64 z) = w10 at *
              obtain ⟨p0, p1, p2, p3, p4, p5, f0, f1, f2, f3, f4, f5⟩ := id pB10
              obtain ⟨r0, r1, r2, r3, r4, r5, h0, h1, h2, h3, h4, h5⟩ := id rB10
              go_wp2
              go_light
              refine bodyPost_ret (v := .agg #[.int .i64 L, .int .i64 E, .int .i64 M, .int .i64 U, .slice (some ⟨gb, 0, none⟩) xs.length c1, .slice A2 ys.length c2]) (by simp (maxDischargeDepth := 8) [results, Try.results43, go_sem, *]) rfl ?_
              have F := fin6 C10 G10 O10 hlt (by omega) (.int .i64 L) (.int .i64 E) (.int .i64 M) (.int .i64 U) (.slice (some ⟨gb, 0, none⟩) xs.length c1) (.slice A2 ys.length c2)
              exact ⟨_, _, _, _, _, _, _, _, rfl, F.1.weak (by omega), F.2.1, F.2.2, by (first | omega | (simp; omega)), by (first | omega | (simp; omega))⟩
        by_cases c3' : y = 3
        · subst c3'
          by_cases hk0 : k = 0
          · have hk1 : ¬ (0 : Int) < (k : Int) := by omega
            have hk2 : decide ((0 : Int) < (k : Int)) = false := decide_eq_false hk1
            obtain ⟨p0, p1, p2, p3, p4, p5, f0, f1, f2, f3, f4, f5⟩ := id pB8
            obtain ⟨r0, r1, r2, r3, r4, r5, h0, h1, h2, h3, h4, h5⟩ := id rB8
            go_wp2
            go_light
            refine bodyPost_ret (v := .agg #[.int .i64 L, .int .i64 E, .int .i64 M, .int .i64 U, .slice A1 xs.length c1, .slice A2 ys.length c2]) (by simp (maxDischargeDepth := 8) [results, Try.results43, go_sem, *]) rfl ?_
            have F := fin6 C8 G8 O8 hlt (by omega) (.int .i64 L) (.int .i64 E) (.int .i64 M) (.int .i64 U) (.slice A1 xs.length c1) (.slice A2 ys.length c2)
            exact ⟨_, _, _, _, _, _, _, _, rfl, F.1.weak (by omega), F.2.1, F.2.2, by (first | omega | (simp; omega)), by (first | omega | (simp; omega))⟩
          · have hk1 : (0 : Int) < (k : Int) := by omega
            have hk2 : decide ((0 : Int) < (k : Int)) = true := decide_eq_true hk1
            obtain ⟨gb, cc, hv, hg1, hg2⟩ := O8.o2.head (by omega)
            simp only [Value.slice.injEq, true_and] at hv
            obtain ⟨rfl, rfl⟩ := hv
            have hx1 : 0 < ys.length := by omega
            obtain ⟨p0, p1, p2, p3, p4, p5, f0, f1, f2, f3, f4, f5⟩ := id pB8
            go_upto_region 20 with (fail)
            go_region_law (first | (refine step_callr rfl 70 #[.pointer (some ⟨b, 0, none⟩), .slice (some ⟨w8.heap.size, 0, none⟩) 3 3] (by go_simp) (amongD_r b A n c (m + 20 + 4 * k + 2) [-1, 101, 100] w8 C8 _ _ _ _ (by omega) (by rfl) (by rfl) (by rfl) (by simp) (by simp)) ?_; rintro e w9 ⟨z, rfl, C9, g9⟩; have rB9 := rB8.kept g9 (fun e => by have := Option.some.inj e; omega); have pB9 := pB8.kept g9 (fun e => by have := Option.some.inj e; omega); have G9 := grown_trans G8 g9; have O9 := own3_far O8 g9 (by omega); have rc := O9.o2.cellAt (k := 0) (by omega); have rf := O9.o2.frozenAt 0; clear p0 p1 p2 p3 p4 p5 f0 f1 f2 f3 f4 f5 C8 rB8 pB8 G8 O8 g9; obtain ⟨p0, p1, p2, p3, p4, p5, f0, f1, f2, f3, f4, f5⟩ := id pB9))
            all_goals
              clear p0 p1 p2 p3 p4 p5 f0 f1 f2 f3 f4 f5 rc rf
              have st := O9.o2.stored 0 z
              have C10 := C9.setOther (a := ⟨gb, 0, none⟩) (by show b < gb; omega) (.int .i64 z)
              have G10 := grown_set G9 (a := ⟨gb, 0, none⟩) (by show w.heap.size ≤ gb; omega) (.int .i64 z)
              have rB10 := rB9.setOther (a := ⟨gb, 0, none⟩) (by show ¬ w.heap.size = gb; omega) (.int .i64 z)
              have pB10 := pB9.setOther (a := ⟨gb, 0, none⟩) (by show ¬ p = gb; omega) (.int .i64 z)
              have O10 := ((O9.turn).app1 st.1 st.2 (.inl rfl) (Nat.le_refl _)).turn.turn
              clear C9 G9 rB9 pB9 O9 st
              generalize w9.setCell ⟨gb, 0, none⟩ (.int .i64 z) = w10 at *
              obtain ⟨p0, p1, p2, p3, p4, p5, f0, f1, f2, f3, f4, f5⟩ := id pB10
              obtain ⟨r0, r1, r2, r3, r4, r5, h0, h1, h2, h3, h4, h5⟩ := id rB10
              go_wp2
              go_light
              refine bodyPost_ret (v := .agg #[.int .i64 L, .int .i64 E, .int .i64 M, .int .i64 U, .slice A1 xs.length c1, .slice (some ⟨gb, 0, none⟩) ys.length c2]) (by simp (maxDischargeDepth := 8) [results, Try.results43, go_sem, *]) rfl ?_
              have F := fin6 C10 G10 O10 hlt (by omega) (.int .i64 L) (.int .i64 E) (.int .i64 M) (.int .i64 U) (.slice A1 xs.length c1) (.slice (some ⟨gb, 0, none⟩) ys.length c2)
              exact ⟨_, _, _, _, _, _, _, _, rfl, F.1.weak (by omega), F.2.1, F.2.2, by (first | omega | (simp; omega)), by (first | omega | (simp; omega))⟩
        have c0b : (y == 0) = false := by simp [c0]
        have c1b : (y == 1) = false := by simp [c1']
        have c2b : (y == 2) = false := by simp [c2']
        have c3b : (y == 3) = false := by simp [c3']
        obtain ⟨p0, p1, p2, p3, p4, p5, f0, f1, f2, f3, f4, f5⟩ := id pB8
        obtain ⟨r0, r1, r2, r3, r4, r5, h0, h1, h2, h3, h4, h5⟩ := id rB8
        go_wp2
        go_light
        refine bodyPost_ret (v := .agg #[.int .i64 L, .int .i64 E, .int .i64 M, .int .i64 U, .slice A1 xs.length c1, .slice A2 ys.length c2]) (by simp (maxDischargeDepth := 8) [results, Try.results43, go_sem, *]) rfl ?_
        have F := fin6 C8 G8 O8 hlt (by omega) (.int .i64 L) (.int .i64 E) (.int .i64 M) (.int .i64 U) (.slice A1 xs.length c1) (.slice A2 ys.length c2)
        exact ⟨_, _, _, _, _, _, _, _, rfl, F.1.weak (by omega), F.2.1, F.2.2, by (first | omega | (simp; omega)), by (first | omega | (simp; omega))⟩
end Go.Proofs.Ytofcienabddpjaa
