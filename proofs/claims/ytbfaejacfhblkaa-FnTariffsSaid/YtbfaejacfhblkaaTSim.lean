/- Contracts: SimplerTariff, the program. -/
import Derived.Test.YtbfaejacfhblkaaTWalk
import Derived.Test.YtbfaejacfhblkaaTSimP
import Derived.Test.YtbfaejacfhblkaaPApp
import Derived.Deep.Light
namespace Go.Proofs.Ytbfaejacfhblkaa
open Go.RowKit

theorem grownBy_setP (w : World) (a : Addr) (u : Value) : w.grownBy (w.setCell a u) (some a.block) :=
  ⟨rfl, rfl, rfl, by rw [World.size_setCell]; exact Nat.le_refl _, fun i _ hi => heap_setCell_other w a i u (fun e => hi (by rw [e]))⟩
/-- The boxes of the walk: the tariff at b, the result at R, what is made at T. -/
structure SB (W : World) (b R T : Nat) (F : Int) (s v : Value) : Prop where
  b0 : W.cell? ⟨b, 0, none⟩ = some (.int .i64 F)
  b1 : W.cell? ⟨b, 1, none⟩ = some s
  r0 : W.cell? ⟨R, 0, none⟩ = some (.int .i64 0)
  r1 : W.cell? ⟨R, 1, none⟩ = some (.slice none 0 0)
  t0 : W.cell? ⟨T, 0, none⟩ = some (.int .i64 F)
  t1 : W.cell? ⟨T, 1, none⟩ = some v
  fr0 : W.frozen? ⟨R, 0, none⟩ = false
  fr1 : W.frozen? ⟨R, 1, none⟩ = false
  ft1 : W.frozen? ⟨T, 1, none⟩ = false
theorem SB.kept {W W' : World} {b R T : Nat} {F : Int} {s v : Value} {row : Option Nat} (h : SB W b R T F s v) (hg : W.grownBy W' row) (hb : some b ≠ row) (hR : some R ≠ row) (hT : some T ≠ row) : SB W' b R T F s v := by
  have eb := hg.block b (lt_of_cell (a := ⟨b, 0, none⟩) (by rw [h.b0]; rfl)) hb
  have eR := hg.block R (lt_of_cell (a := ⟨R, 0, none⟩) (by rw [h.r0]; rfl)) hR
  have eT := hg.block T (lt_of_cell (a := ⟨T, 0, none⟩) (by rw [h.t0]; rfl)) hT
  exact ⟨(World.cell?_of_block eb).trans h.b0, (World.cell?_of_block eb).trans h.b1, (World.cell?_of_block eR).trans h.r0, (World.cell?_of_block eR).trans h.r1, (World.cell?_of_block eT).trans h.t0, (World.cell?_of_block eT).trans h.t1, (World.frozen?_of_block eR).trans h.fr0, (World.frozen?_of_block eR).trans h.fr1, (World.frozen?_of_block eT).trans h.ft1⟩
theorem SB.below {W W' : World} {b R T : Nat} {F : Int} {s v : Value} (h : SB W b R T F s v) (hb : Below W.heap.size W W') : SB W' b R T F s v := h.kept (row := none) ⟨hb.os, hb.tape, hb.output, hb.size, fun i hi _ => hb.block i hi⟩ (by simp) (by simp) (by simp)
theorem SB.alloc {W : World} {b R T : Nat} {F : Int} {s v : Value} (h : SB W b R T F s v) (o : Obj) : SB (W.alloc o) b R T F s v := h.below ((Below.refl _ _).alloc (Nat.le_refl _) _)
theorem SB.set {W : World} {b R T : Nat} {F : Int} {s v : Value} (h : SB W b R T F s v) (h1 : ¬ b = T) (h2 : ¬ R = T) (u : Value) : SB (W.setCell ⟨T, 1, none⟩ u) b R T F s u := by
  obtain ⟨b0, b1, r0, r1, t0, t1, fr0, fr1, ft1⟩ := h
  exact ⟨by simp [*, go_sem], by simp [*, go_sem], by simp [*, go_sem], by simp [*, go_sem], by simp [*, go_sem], by simp [*, go_sem], by simp [*, go_sem], by simp [*, go_sem], by simp [*, go_sem]⟩
theorem below_rowP {w w' : World} {base : Nat} {v : Value} {xs : List (Int × Int)} (o : OwnP w base v xs) (hg : w.grownBy w' v.ownBlock) (hb : base ≤ w.heap.size) : Below base w w' :=
  ⟨hg.os, hg.tape, hg.output, hg.size, fun k hk => hg.block k (by omega) (fun e => by have := (o.lt k e.symm).1; omega)⟩

set_option maxHeartbeats 4000000 in
theorem implSim_c {B : Nat} (F : Int) (A : Option Addr) (c : Nat) (xs : List (Int × Int)) (w : World) (h : RdP w B A xs) (hBs : B ≤ w.heap.size) (hm : xs.length ≤ 4611686018427387904) :
    Calls Try.prog 27 #[.agg #[.int .i64 F, .slice A xs.length c]] w (RetP w (simT F xs).1.2 (fun z => .tuple #[.agg #[.int .i64 (simT F xs).1.1, z], .bool (simT F xs).2])) := by
  cases h1 : goodT F xs
  · rw [simT_no h1]
    go_enter Try.func27, Try.ntmps27
    go_wp2_with (go_at_call 18; refine (implTar_c _ _ _ _ _ ((h.alloc hBs _).alloc (by simp; omega) _) (by simp; omega) hm).mono ?_; rintro e w1 ⟨rfl, hb1⟩; have hz1 := hb1.size; (repeat (first | rw [World.size_alloc] at hz1 | rw [World.size_drew] at hz1 | rw [World.heap_drewN] at hz1 | rw [World.size_setCell] at hz1)); have hB : Below w.heap.size w w1 := Below.trans (by (repeat' (first | (with_reducible exact Below.refl _ _) | (with_reducible assumption) | (with_reducible refine below_drewN ?_ _) | (with_reducible refine Below.alloc ?_ ?_ _) | (with_reducible refine Below.drew ?_) | (with_reducible refine Below.setCell ?_ ?_ _) | go_size))) (hb1.mono (by go_size)); have hL1 := hb1; clear hb1; obtain ⟨hc1, hf1⟩ := bcell hL1)
    refine bodyPost_ret (v := .tuple #[.agg #[.int .i64 0, .slice none 0 0], .bool false]) (by simp (maxDischargeDepth := 5) [results, Try.results27, go_sem, *]) rfl ?_
    exact ⟨_, _, rfl, OwnP.nil _ _, by (repeat' (first | (with_reducible exact Below.refl _ _) | (with_reducible assumption) | (with_reducible refine below_drewN ?_ _) | (with_reducible refine Below.alloc ?_ ?_ _) | (with_reducible refine Below.drew ?_) | (with_reducible refine Below.setCell ?_ ?_ _) | go_size))⟩
  have g := goodT_out h1
  have hn12 : 1 ≤ xs.length ∧ xs.length ≤ 65000 := by omega
  have hr := simT_yes h1
  rw [hr]
  have tar := implTar_c F A c xs ((w.alloc (.cells #[.int .i64 F, .slice A xs.length c] 29)).alloc (.cells #[.int .i64 0, .slice none 0 0] 29)) ((h.alloc hBs _).alloc (by simp; omega) _) (by simp; omega) hm
  rw [h1] at tar
  have TAR := Lib.hid tar
  have HX := Lib.hid h
  clear hr h1 g tar h hm
  go_enter Try.func27, Try.ntmps27
  go_wp2_with fail
  refine TAR.out.mono ?_
  rintro e w1 ⟨rfl, hb1⟩
  have hz1 := hb1.size; (repeat (first | rw [World.size_alloc] at hz1 | rw [World.size_drew] at hz1 | rw [World.heap_drewN] at hz1 | rw [World.size_setCell] at hz1)); have hB : Below w.heap.size w w1 := Below.trans (by (repeat' (first | (with_reducible exact Below.refl _ _) | (with_reducible assumption) | (with_reducible refine below_drewN ?_ _) | (with_reducible refine Below.alloc ?_ ?_ _) | (with_reducible refine Below.drew ?_) | (with_reducible refine Below.setCell ?_ ?_ _) | go_size))) (hb1.mono (by go_size)); have hL1 := hb1; clear hb1; obtain ⟨hc1, hf1⟩ := bcell hL1
  clear TAR
  have zw : w.heap.size + 1 < w1.heap.size := by have := hz1; omega
  have zw0 : w.heap.size < w1.heap.size := by omega
  have b0 : w1.cell? ⟨w.heap.size, 0, none⟩ = some (.int .i64 F) := by simp [*, go_sem]
  have b1 : w1.cell? ⟨w.heap.size, 1, none⟩ = some (.slice A xs.length c) := by simp [*, go_sem]
  have r0 : w1.cell? ⟨w.heap.size + 1, 0, none⟩ = some (.int .i64 0) := by simp [*, go_sem]
  have r1 : w1.cell? ⟨w.heap.size + 1, 1, none⟩ = some (.slice none 0 0) := by simp [*, go_sem]
  have fr0 : w1.frozen? ⟨w.heap.size + 1, 0, none⟩ = false := by simp [*, go_sem]
  have fr1 : w1.frozen? ⟨w.heap.size + 1, 1, none⟩ = false := by simp [*, go_sem]
  clear hL1 hc1 hf1
  obtain ⟨T, hT⟩ : ∃ T, T = w1.heap.size + 1 := ⟨_, rfl⟩
  have hTw : w.heap.size + 1 < T := by omega
  have n1 : ¬ w.heap.size = T := by omega
  have n2 : ¬ w.heap.size + 1 = T := by omega
  have S0 : SB ((w1.alloc (.cells #[] 63)).alloc (.cells #[.int .i64 F, .slice (some ⟨w1.heap.size, 0, none⟩) 0 0] 29)) w.heap.size (w.heap.size + 1) (w1.heap.size + 1) F (.slice A xs.length c) (.slice (some ⟨w1.heap.size, 0, none⟩) 0 0) := ⟨by simp [*, go_sem], by simp [*, go_sem], by simp [*, go_sem], by simp [*, go_sem], by simp [*, go_sem], by simp [*, go_sem], by simp [*, go_sem], by simp [*, go_sem], by simp [*, go_sem]⟩
  have O0 : OwnP ((w1.alloc (.cells #[] 63)).alloc (.cells #[.int .i64 F, .slice (some ⟨w1.heap.size, 0, none⟩) 0 0] 29)) (w.heap.size + 1 + 1) (.slice (some ⟨w1.heap.size, 0, none⟩) 0 0) [] := (OwnP.empty w1 (w.heap.size + 1 + 1) (by omega)).alloc _
  have B0 : Below w.heap.size w ((w1.alloc (.cells #[] 63)).alloc (.cells #[.int .i64 F, .slice (some ⟨w1.heap.size, 0, none⟩) 0 0] 29)) := (hB.alloc (by omega) _).alloc (by simp; omega) _
  have z0 : T < ((w1.alloc (.cells #[] 63)).alloc (.cells #[.int .i64 F, .slice (some ⟨w1.heap.size, 0, none⟩) 0 0] 29)).heap.size := by simp; omega
  have a0 : (Value.slice (some ⟨w1.heap.size, 0, none⟩) 0 0).ownBlock ≠ some T := by simp [Value.ownBlock]; omega
  rw [← hT] at S0
  have HS := Lib.hid S0
  clear S0
  go_wp2_with fail
  rw [← hT]
  go_loopw [5, 6, 18] (fun _ _ i wr => ∃ (k : Nat) (v : Value), k ≤ xs.length ∧ i = .int .i64 k ∧ OwnP wr (w.heap.size + 1 + 1) v (simO xs k) ∧ v.ownBlock ≠ some T ∧ Below w.heap.size w wr ∧ T < wr.heap.size ∧ SB wr w.heap.size (w.heap.size + 1) T F (.slice A xs.length c) v) (fun _ _ i _ => xs.length - (intOf i).toNat)
  case atStart => exact ⟨0, _, by omega, rfl, O0, a0, B0, z0, HS.out⟩
  case round =>
    clear O0 a0 B0 z0 HS hB zw zw0 hz1 b0 b1 r0 r1 fr0 fr1 hT
    obtain ⟨k, v, hk, rfl, hown, hap, hBr, hsz, SX⟩ := hrel
    by_cases hlt : k < xs.length
    · have HP := Lib.hid (HX.out.below (hBr.mono hBs))
      obtain ⟨b, off, x, y, rfl, hx, hbB, hc0, hc1⟩ := HP.out.at_ hlt
      have hi : (k : Int) < (xs.length : Int) := by omega
      have W1 : IntKind.i64.wrap ((k : Int) + 1) = (k : Int) + 1 := IntWalk.i64_in _ (by omega)
      have HXK := Lib.hid hx
      clear hx
      obtain ⟨b0, b1, r0, r1, t0, t1, fr0, fr1, ft1⟩ := id SX
      go_upto_region 7 with (fail)
      obtain ⟨W6, hW6⟩ : ∃ W, W = wr.alloc (.cells #[.int .i64 x, .int .i64 y] 63) := ⟨_, rfl⟩
      rw [← hW6]
      clear b0 b1 r0 r1 t0 t1 fr0 fr1 ft1
      have S6 : SB W6 w.heap.size (w.heap.size + 1) T F (.slice (some ⟨b, off, none⟩) xs.length c) v := by rw [hW6]; exact SX.alloc _
      have O6 : OwnP W6 (w.heap.size + 1 + 1) v (simO xs k) := by rw [hW6]; exact hown.alloc _
      have B6 : Below w.heap.size w W6 := by rw [hW6]; exact hBr.alloc hBr.size _
      have z6 : T < W6.heap.size := by rw [hW6]; simp only [World.size_alloc]; omega
      have q0 : W6.cell? ⟨wr.heap.size, 0, none⟩ = some (.int .i64 x) := by rw [hW6]; simp [go_sem]
      have q1 : W6.cell? ⟨wr.heap.size, 1, none⟩ = some (.int .i64 y) := by rw [hW6]; simp [go_sem]
      have H6 := Lib.hid (HP.out.below (w' := W6) (by rw [hW6]; exact (Below.refl _ _).alloc (by have := hBr.size; omega) _))
      have HVQ : Go.RowKit.Hid (∀ g, v.ownBlock = some g → g < wr.heap.size) := Lib.hid fun g e => (hown.lt g e).2
      clear hW6 hown SX hBr HP hc0 hc1
      generalize wr.heap.size = Q at *
      obtain ⟨b0, b1, r0, r1, t0, t1, fr0, fr1, ft1⟩ := id S6
      cases k with
      | zero =>
        go_wp2_with fail
        refine wp_region_after (by kernel_rfl) (by kernel_rfl) (fun hAf => ?_)
        (repeat (go_big_quiet_step (first | fail)))
        refine wpQuiet_nil ?_
        intro w7 hw'
        have hb7 := after_out hw'
        clear hw' hAf
        clear b0 b1 r0 r1 t0 t1 fr0 fr1 ft1
        have S7 := S6.below hb7
        have O7 := O6.below hb7
        have B7 := B6.trans (hb7.mono B6.size)
        have z7 : T < w7.heap.size := Nat.lt_of_lt_of_le z6 hb7.size
        have d0 : w7.cell? ⟨Q, 0, none⟩ = some (.int .i64 x) := (hb7.cell (p := ⟨Q, 0, none⟩) (lt_of_cell (a := ⟨Q, 0, none⟩) (by rw [q0]; rfl))).trans q0
        have d1 : w7.cell? ⟨Q, 1, none⟩ = some (.int .i64 y) := (hb7.cell (p := ⟨Q, 1, none⟩) (lt_of_cell (a := ⟨Q, 1, none⟩) (by rw [q1]; rfl))).trans q1
        clear S6 O6 B6 z6 q0 q1 hb7
        obtain ⟨b0, b1, r0, r1, t0, t1, fr0, fr1, ft1⟩ := id S7
        go_upto_region 10 with (at_builtin; refine wpList_appR (wr := w7.alloc (.cells #[.int .i64 x, .int .i64 y] 63)) rfl (.tmp 46) (.tmp 48) rfl (w.heap.size + 1 + 1) v ⟨w7.heap.size, 0, none⟩ 1 _ [(x, y)] rfl (O7.alloc _) rfl (RdP.lit w7 x y _) (by have := simO_len xs (0); omega) (by simp) (by simp only [World.size_alloc]; omega) ?_; intro v2 w2 q g l; obtain ⟨Aq, cq, eq⟩ := q.shape; simp only [List.length_append, List.length_cons, List.length_nil, Nat.zero_add] at eq; subst eq; have bk := below_rowP (O7.alloc _) g (by simp only [World.size_alloc]; omega); have z2 : T < w2.heap.size := Nat.lt_of_lt_of_le (by simp only [World.size_alloc]; omega) g.size; have S2 := (S7.alloc (.cells #[.int .i64 x, .int .i64 y] 63)).kept g (fun e => by have := (O7.lt _ e.symm).1; omega) (fun e => by have := (O7.lt _ e.symm).1; omega) (fun e => hap e.symm); have a2 : (Value.slice Aq _ cq).ownBlock ≠ some T := (by rcases l with l | l; exact l ▸ hap; intro e; rw [l] at e; have := Option.some.inj e; simp only [World.size_alloc] at this; omega); have B2 : Below w.heap.size w w2 := (B7.alloc (by omega) _).trans (bk.mono (by omega)); clear b0 b1 r0 r1 t0 t1 fr0 fr1 ft1; clear bk g l S7 O7 B7 z7 d0 d1; obtain ⟨b0, b1, r0, r1, t0, t1, fr0, fr1, ft1⟩ := id S2)
        go_wp2
        go_roundw
        case rel => exact ⟨0 + 1, _, by omega, by go_num, by rw [simO_one HXK.out]; exact q.kept (grownBy_setP w2 ⟨T, 1, none⟩ _) (.inr a2), a2, Below.setCell B2 (show w.heap.size ≤ T by omega) _, by simp only [World.size_setCell]; exact z2, S2.set n1 n2 _⟩
        case measure => simp [intOf]; omega
      | succ j =>
        obtain ⟨b', off', x', y', e, hx', hb', hc0', hc1'⟩ := H6.out.at_ (k := j) (by omega)
        simp only [Option.some.injEq, Addr.mk.injEq, and_true] at e
        obtain ⟨rfl, rfl⟩ := e
        have g0 : decide ((0 : Int) < (j : Int) + 1) = true := by first | (simp; done) | (simp; omega)
        have g1 : (0 : Int) < (j : Int) + 1 := by omega
        have g2 : (j : Int) < (xs.length : Int) := by omega
        have W3 : IntKind.i64.wrap (j : Int) = j := IntWalk.i64_in _ (by omega)
        have W4 : IntKind.i64.wrap ((j : Int) + 1 - 1) = j := by rw [Int.add_sub_cancel]; exact W3
        have HXJ := Lib.hid hx'
        clear hx' hc0'
        by_cases hy : y = y'
        · have eqb : (y' == y) = true := by simp [hy]
          have HS := Lib.hid (simO_same hlt HXK.out HXJ.out hy)
          clear hy
          go_wp2_with fail
          refine wp_region_after (by kernel_rfl) (by kernel_rfl) (fun hAf => ?_)
          (repeat (go_big_quiet_step (first | fail)))
          refine wpQuiet_nil ?_
          intro w7 hw'
          have hb7 := after_out hw'
          clear hw' hAf
          clear b0 b1 r0 r1 t0 t1 fr0 fr1 ft1
          have S7 := S6.below hb7
          have O7 := O6.below hb7
          have B7 := B6.trans (hb7.mono B6.size)
          have z7 : T < w7.heap.size := Nat.lt_of_lt_of_le z6 hb7.size
          have d0 : w7.cell? ⟨Q, 0, none⟩ = some (.int .i64 x) := (hb7.cell (p := ⟨Q, 0, none⟩) (lt_of_cell (a := ⟨Q, 0, none⟩) (by rw [q0]; rfl))).trans q0
          have d1 : w7.cell? ⟨Q, 1, none⟩ = some (.int .i64 y) := (hb7.cell (p := ⟨Q, 1, none⟩) (lt_of_cell (a := ⟨Q, 1, none⟩) (by rw [q1]; rfl))).trans q1
          clear S6 O6 B6 z6 q0 q1 hb7
          obtain ⟨g8, co, ev, hg1, hg2⟩ := O7.head (by rw [simO_lenS]; omega)
          rw [simO_lenS] at ev
          subst ev
          have hm : (simpL xs j).length < (simO xs (j + 1)).length := by rw [simO_lenS]; omega
          have hm2 : (simpL xs j).length ≤ 65000 := by have := simpL_len xs j; omega
          obtain ⟨o1, gr⟩ := O7.store hm x y
          obtain ⟨e0, e1, hce0, hce1⟩ := O7.cells2 hm
          have hf0 := O7.frozenAt ((simpL xs j).length * 2)
          have hf1 := O7.frozenAt ((simpL xs j).length * 2 + 1)
          have hap2 : ¬ g8 = T := by simpa [Value.ownBlock] using hap
          have S8 := S7.kept gr (by simp; omega) (by simp; omega) (by simp; omega)
          have B8 := B7.trans ((below_rowP O7 (by simpa [Value.ownBlock] using gr) (by omega)).mono (by omega))
          have z8 : T < ((w7.setCell ⟨g8, (simpL xs j).length * 2, none⟩ (.int .i64 x)).setCell ⟨g8, (simpL xs j).length * 2 + 1, none⟩ (.int .i64 y)).heap.size := by simp only [World.size_setCell]; exact z7
          have OH := Lib.hid o1
          have n3 : ¬ Q = g8 := by have := HVQ.out g8 (by simp [Value.ownBlock]); omega
          generalize (simpL xs j).length = m at *
          have W5 : IntKind.i64.wrap (m : Int) = m := IntWalk.i64_in _ (by omega)
          have W6' : IntKind.i64.wrap ((m : Int) + 1 - 1) = m := by rw [Int.add_sub_cancel]; exact W5
          have g4 : (m : Int) < (m : Int) + 1 := by omega
          clear O7 o1 gr B7 z7 hm
          obtain ⟨b0, b1, r0, r1, t0, t1, fr0, fr1, ft1⟩ := id S7
          go_wp2
          go_roundw
          case rel => exact ⟨j + 1 + 1, _, by omega, by go_num, by rw [HS.out]; exact OH.out, hap, B8, z8, S8⟩
          case measure => simp [intOf]; omega
        · have eqb : (y' == y) = false := by simp; omega
          have HS := Lib.hid (simO_diff HXK.out HXJ.out hy)
          clear hy
          go_wp2_with fail
          refine wp_region_after (by kernel_rfl) (by kernel_rfl) (fun hAf => ?_)
          (repeat (go_big_quiet_step (first | fail)))
          refine wpQuiet_nil ?_
          intro w7 hw'
          have hb7 := after_out hw'
          clear hw' hAf
          clear b0 b1 r0 r1 t0 t1 fr0 fr1 ft1
          have S7 := S6.below hb7
          have O7 := O6.below hb7
          have B7 := B6.trans (hb7.mono B6.size)
          have z7 : T < w7.heap.size := Nat.lt_of_lt_of_le z6 hb7.size
          have d0 : w7.cell? ⟨Q, 0, none⟩ = some (.int .i64 x) := (hb7.cell (p := ⟨Q, 0, none⟩) (lt_of_cell (a := ⟨Q, 0, none⟩) (by rw [q0]; rfl))).trans q0
          have d1 : w7.cell? ⟨Q, 1, none⟩ = some (.int .i64 y) := (hb7.cell (p := ⟨Q, 1, none⟩) (lt_of_cell (a := ⟨Q, 1, none⟩) (by rw [q1]; rfl))).trans q1
          clear S6 O6 B6 z6 q0 q1 hb7
          obtain ⟨b0, b1, r0, r1, t0, t1, fr0, fr1, ft1⟩ := id S7
          go_upto_region 10 with (at_builtin; refine wpList_appR (wr := w7.alloc (.cells #[.int .i64 x, .int .i64 y] 63)) rfl (.tmp 46) (.tmp 48) rfl (w.heap.size + 1 + 1) v ⟨w7.heap.size, 0, none⟩ 1 _ [(x, y)] rfl (O7.alloc _) rfl (RdP.lit w7 x y _) (by have := simO_len xs (j + 1); omega) (by simp) (by simp only [World.size_alloc]; omega) ?_; intro v2 w2 q g l; obtain ⟨Aq, cq, eq⟩ := q.shape; simp only [List.length_append, List.length_cons, List.length_nil, Nat.zero_add] at eq; subst eq; have bk := below_rowP (O7.alloc _) g (by simp only [World.size_alloc]; omega); have z2 : T < w2.heap.size := Nat.lt_of_lt_of_le (by simp only [World.size_alloc]; omega) g.size; have S2 := (S7.alloc (.cells #[.int .i64 x, .int .i64 y] 63)).kept g (fun e => by have := (O7.lt _ e.symm).1; omega) (fun e => by have := (O7.lt _ e.symm).1; omega) (fun e => hap e.symm); have a2 : (Value.slice Aq _ cq).ownBlock ≠ some T := (by rcases l with l | l; exact l ▸ hap; intro e; rw [l] at e; have := Option.some.inj e; simp only [World.size_alloc] at this; omega); have B2 : Below w.heap.size w w2 := (B7.alloc (by omega) _).trans (bk.mono (by omega)); clear b0 b1 r0 r1 t0 t1 fr0 fr1 ft1; clear bk g l S7 O7 B7 z7 d0 d1; obtain ⟨b0, b1, r0, r1, t0, t1, fr0, fr1, ft1⟩ := id S2)
          go_wp2
          go_roundw
          case rel => exact ⟨j + 1 + 1, _, by omega, by go_num, by rw [HS.out]; exact q.kept (grownBy_setP w2 ⟨T, 1, none⟩ _) (.inr a2), a2, Below.setCell B2 (show w.heap.size ≤ T by omega) _, by simp only [World.size_setCell]; exact z2, S2.set n1 n2 _⟩
          case measure => simp [intOf]; omega
    · obtain rfl : k = xs.length := by omega
      have e := simO_end (xs := xs) rfl hn12.1
      rw [e] at hown
      obtain ⟨Ao, co, rfl⟩ := hown.shape
      have OH := Lib.hid hown
      clear hown e
      obtain ⟨b0, b1, r0, r1, t0, t1, fr0, fr1, ft1⟩ := id SX
      go_wp2
      go_light
      refine bodyPost_ret (v := .tuple #[.agg #[.int .i64 F, .slice Ao (simpL xs xs.length).length co], .bool true]) (by simp (maxDischargeDepth := 5) [results, Try.results27, go_sem, *]) rfl ?_
      exact ⟨Ao, co, rfl, ((OH.out.setBelow (by simp) _).setBelow (by simp) _).weak (by omega), by (repeat' (first | (with_reducible exact Below.refl _ _) | (with_reducible assumption) | (with_reducible refine below_drewN ?_ _) | (with_reducible refine Below.alloc ?_ ?_ _) | (with_reducible refine Below.drew ?_) | (with_reducible refine Below.setCell ?_ ?_ _) | go_size))⟩
end Go.Proofs.Ytbfaejacfhblkaa
