/- Contracts: SimplerTariff, the reference. -/
import Derived.Test.YtbfaejacfhblkaaTSim
import Derived.Deep.RegionLaw
namespace Go.Proofs.Ytbfaejacfhblkaa
open Go.RowKit

theorem step_appPk {wr : World} {B : Nat} {ops : Array Oper} {o : Oper} {a : Act} {K : Act → World → Prop} {Q : Exit → Act → World → Prop} {E : Prop} (hgd : o.guard = none) (s x : Operand)
    (ho : o.op = .call { callee := .builtin .append, args := #[s, x], argTypes := #[27, 27] }) (base : Nat) (v : Value) (ad : Addr) (c : Nat) (xs ys : List (Int × Int))
    (hs : a.eval s = v) (hown : OwnP wr base v xs) (hx : a.eval x = .slice (some ad) ys.length c) (hrd : RdP wr B (some ad) ys) (hlen : xs.length ≤ 65536) (hlen2 : ys.length ≤ 1048576) (hbase : base ≤ wr.heap.size)
    (h : ∀ v' w', OwnP w' base v' (xs ++ ys) → wr.grownBy w' v.ownBlock → (v'.ownBlock = v.ownBlock ∨ v'.ownBlock = some wr.heap.size) → K (a.put o.dst v') w') :
    if Region.wanted o (yielded ops a.tmps) = true then Oper.wp Try.prog o a wr K Q else E := by
  have hw : Region.wanted o (yielded ops a.tmps) = true := by simp [Region.wanted, hgd]
  rw [if_pos hw]
  exact wp_appPs s x ho base v ad c xs ys hs hown hx hrd hlen hlen2 hbase fun v' w' h2 h3 h5 => h v' w' h2 h3 h5
theorem SB.drew {W : World} {b R T : Nat} {F : Int} {s v : Value} (h : SB W b R T F s v) : SB W.drew b R T F s v := h.below ((Below.refl _ _).drew)
theorem RdP.drew' {w : World} {B : Nat} {A : Option Addr} {xs : List (Int × Int)} (h : RdP w B A xs) : RdP w.drew B A xs := h
set_option maxHeartbeats 4000000 in
theorem specSim_c {B : Nat} (F : Int) (A : Option Addr) (c : Nat) (xs : List (Int × Int)) (w : World) (h : RdP w B A xs) (hBs : B ≤ w.heap.size) (hm : xs.length ≤ 4611686018427387904) :
    Calls Try.prog 26 #[.agg #[.int .i64 F, .slice A xs.length c]] w (RetP w (simT F xs).1.2 (fun z => .tuple #[.agg #[.int .i64 (simT F xs).1.1, z], .bool (simT F xs).2])) := by
  cases h1 : goodT F xs
  · rw [simT_no h1]
    go_enter Try.func26, Try.ntmps26
    go_wp2_with (go_at_call 53; refine (specTar0_c _ _ _ _ _ ((h.alloc hBs _).alloc (by simp; omega) _) (by simp; omega) hm).mono ?_; rintro e w1 ⟨rfl, hb1⟩; have hz1 := hb1.size; (repeat (first | rw [World.size_alloc] at hz1 | rw [World.size_drew] at hz1 | rw [World.heap_drewN] at hz1 | rw [World.size_setCell] at hz1)); have hB : Below w.heap.size w w1 := Below.trans (by (repeat' (first | (with_reducible exact Below.refl _ _) | (with_reducible assumption) | (with_reducible refine below_drewN ?_ _) | (with_reducible refine Below.alloc ?_ ?_ _) | (with_reducible refine Below.drew ?_) | (with_reducible refine Below.setCell ?_ ?_ _) | go_size))) (hb1.mono (by go_size)); have hL1 := hb1; clear hb1; obtain ⟨hc1, hf1⟩ := bcell hL1)
    refine bodyPost_ret (v := .tuple #[.agg #[.int .i64 0, .slice none 0 0], .bool false]) (by simp (maxDischargeDepth := 5) [results, Try.results26, go_sem, *]) rfl ?_
    exact ⟨_, _, rfl, OwnP.nil _ _, by (repeat' (first | (with_reducible exact Below.refl _ _) | (with_reducible assumption) | (with_reducible refine below_drewN ?_ _) | (with_reducible refine Below.alloc ?_ ?_ _) | (with_reducible refine Below.drew ?_) | (with_reducible refine Below.setCell ?_ ?_ _) | go_size))⟩
  have g := goodT_out h1
  have hn12 : 1 ≤ xs.length ∧ xs.length ≤ 65000 := by omega
  have hr := simT_yes h1
  rw [hr]
  have tar := specTar0_c F A c xs ((w.alloc (.cells #[.int .i64 F, .slice A xs.length c] 29)).alloc (.cells #[.int .i64 0, .slice none 0 0] 29)) ((h.alloc hBs _).alloc (by simp; omega) _) (by simp; omega) hm
  rw [h1] at tar
  have TAR := Lib.hid tar
  have HX := Lib.hid h
  clear hr h1 g tar h hm
  go_enter Try.func26, Try.ntmps26
  go_wp2_with fail
  refine TAR.out.mono ?_
  rintro e w1 ⟨rfl, hb1⟩
  have hz1 := hb1.size; (repeat (first | rw [World.size_alloc] at hz1 | rw [World.size_drew] at hz1 | rw [World.heap_drewN] at hz1 | rw [World.size_setCell] at hz1)); have hB : Below w.heap.size w w1 := Below.trans (by (repeat' (first | (with_reducible exact Below.refl _ _) | (with_reducible assumption) | (with_reducible refine below_drewN ?_ _) | (with_reducible refine Below.alloc ?_ ?_ _) | (with_reducible refine Below.drew ?_) | (with_reducible refine Below.setCell ?_ ?_ _) | go_size))) (hb1.mono (by go_size)); have hL1 := hb1; clear hb1; obtain ⟨hc1, hf1⟩ := bcell hL1
  clear TAR
  have zw : w.heap.size + 1 < w1.heap.size := by have := hz1; omega
  have zw0 : w.heap.size < w1.heap.size := by omega
  have b0 : w1.cell? ⟨w.heap.size, 0, none⟩ = some (.int .i64 F) := by simp [*, go_sem]
  have b1 : w1.cell? ⟨w.heap.size, 1, none⟩ = some (.slice A xs.length c) := by simp [*, go_sem]
  have r0 : w1.cell? ⟨w.heap.size + 1, 0, none⟩ = some (.int .i64 0) := by simp [*, go_sem]
  have r1 : w1.cell? ⟨w.heap.size + 1, 1, none⟩ = some (.slice none 0 0) := by simp [*, go_sem]
  have fr0 : w1.frozen? ⟨w.heap.size + 1, 0, none⟩ = false := by simp [*, go_sem]
  have fr1 : w1.frozen? ⟨w.heap.size + 1, 1, none⟩ = false := by simp [*, go_sem]
  clear hL1 hc1 hf1
  obtain ⟨T, hT⟩ : ∃ T, T = w1.heap.size := ⟨_, rfl⟩
  have hTw : w.heap.size + 1 < T := by omega
  have n1 : ¬ w.heap.size = T := by omega
  have n2 : ¬ w.heap.size + 1 = T := by omega
  have S0 : SB (w1.alloc (.cells #[.int .i64 F, .slice none 0 0] 29)) w.heap.size (w.heap.size + 1) w1.heap.size F (.slice A xs.length c) (.slice none 0 0) := ⟨by simp [*, go_sem], by simp [*, go_sem], by simp [*, go_sem], by simp [*, go_sem], by simp [*, go_sem], by simp [*, go_sem], by simp [*, go_sem], by simp [*, go_sem], by simp [*, go_sem]⟩
  have O0 : OwnP (w1.alloc (.cells #[.int .i64 F, .slice none 0 0] 29)) (w.heap.size + 1 + 1) (.slice none 0 0) [] := OwnP.nil _ _
  have B0 : Below w.heap.size w (w1.alloc (.cells #[.int .i64 F, .slice none 0 0] 29)) := hB.alloc (by omega) _
  have z0 : T < (w1.alloc (.cells #[.int .i64 F, .slice none 0 0] 29)).heap.size := by simp; omega
  have a0 : (Value.slice none 0 0).ownBlock ≠ some T := by simp [Value.ownBlock]
  rw [← hT] at S0
  have HS := Lib.hid S0
  clear S0
  go_wp2_with fail
  rw [← hT]
  go_loopw [5] (fun i wr => ∃ (k : Nat) (v : Value), k ≤ xs.length ∧ i = .int .i64 k ∧ OwnP wr (w.heap.size + 1 + 1) v (simpL xs k) ∧ v.ownBlock ≠ some T ∧ Below w.heap.size w wr ∧ T < wr.heap.size ∧ SB wr w.heap.size (w.heap.size + 1) T F (.slice A xs.length c) v) (fun i _ => xs.length - (intOf i).toNat)
  case atStart => exact ⟨0, _, by omega, rfl, O0, a0, B0, z0, HS.out⟩
  case round =>
    clear O0 a0 B0 z0 HS hB zw zw0 hz1 b0 b1 r0 r1 fr0 fr1 hT
    obtain ⟨k, v, hk, rfl, hown, hap, hBr, hsz, SX⟩ := hrel
    by_cases hlt : k < xs.length
    · have HP := Lib.hid (HX.out.below (hBr.mono hBs))
      obtain ⟨b, off, x, y, rfl, hx, hbB, hc0, hc1⟩ := HP.out.at_ hlt
      have hi : (k : Int) < (xs.length : Int) := by omega
      have W1 : IntKind.i64.wrap ((k : Int) + 1) = (k : Int) + 1 := IntWalk.i64_in _ (by omega)
      have HXK := Lib.hid hx
      clear hx
      obtain ⟨b0, b1, r0, r1, t0, t1, fr0, fr1, ft1⟩ := id SX
      by_cases h2 : k + 1 < xs.length
      · obtain ⟨b', off', x', y', e, hx', hb', hc0', hc1'⟩ := HP.out.at_ h2
        simp only [Option.some.injEq, Addr.mk.injEq, and_true] at e
        obtain ⟨rfl, rfl⟩ := e
        have g0 : decide ((k : Int) + 1 < (xs.length : Int)) = true := by simp; omega
        have g1 : (k : Int) + 1 < (xs.length : Int) := by omega
        have HXJ := Lib.hid hx'
        clear hx' hc0' HP
        by_cases hy : y' = y
        · have eqb : (y' == y) = true := by simp [hy]
          have HS := Lib.hid (simpL_skip h2 HXJ.out HXK.out hy)
          clear hy
          go_wp2_with fail
          refine wp_region_after (by kernel_rfl) (by kernel_rfl) (fun hAf => ?_)
          (repeat (go_big_quiet_step (first | fail)))
          refine wpQuiet_nil ?_
          intro w7 hw'
          have hb7 := after_out hw'
          clear hw' hAf
          clear b0 b1 r0 r1 t0 t1 fr0 fr1 ft1
          have S7 := SX.below hb7
          have O7 := hown.below hb7
          have B7 := hBr.trans (hb7.mono hBr.size)
          have z7 : T < w7.heap.size := Nat.lt_of_lt_of_le hsz hb7.size
          have c0 : w7.cell? ⟨b, off + k * 2, none⟩ = some (.int .i64 x) := (hb7.cell (p := ⟨b, off + k * 2, none⟩) (lt_of_cell (a := ⟨b, off + k * 2, none⟩) (by rw [hc0]; rfl))).trans hc0
          have c1 : w7.cell? ⟨b, off + k * 2 + 1, none⟩ = some (.int .i64 y) := (hb7.cell (p := ⟨b, off + k * 2 + 1, none⟩) (lt_of_cell (a := ⟨b, off + k * 2 + 1, none⟩) (by rw [hc1]; rfl))).trans hc1
          clear SX hown hBr hsz hb7 hc0 hc1
          obtain ⟨b0, b1, r0, r1, t0, t1, fr0, fr1, ft1⟩ := id S7
          clear c0 c1
          go_wp2
          go_roundw
          case rel => exact ⟨k + 1, _, by omega, by go_num, by rw [HS.out]; exact O7, hap, B7, z7, S7⟩
          case measure => simp [intOf]; omega
        · have eqb : (y' == y) = false := by simp; omega
          have HS := Lib.hid (simpL_keep HXJ.out HXK.out hy)
          clear hy
          go_wp2_with fail
          refine wp_region_after (by kernel_rfl) (by kernel_rfl) (fun hAf => ?_)
          (repeat (go_big_quiet_step (first | fail)))
          refine wpQuiet_nil ?_
          intro w7 hw'
          have hb7 := after_out hw'
          clear hw' hAf
          clear b0 b1 r0 r1 t0 t1 fr0 fr1 ft1
          have S7 := SX.below hb7
          have O7 := hown.below hb7
          have B7 := hBr.trans (hb7.mono hBr.size)
          have z7 : T < w7.heap.size := Nat.lt_of_lt_of_le hsz hb7.size
          have c0 : w7.cell? ⟨b, off + k * 2, none⟩ = some (.int .i64 x) := (hb7.cell (p := ⟨b, off + k * 2, none⟩) (lt_of_cell (a := ⟨b, off + k * 2, none⟩) (by rw [hc0]; rfl))).trans hc0
          have c1 : w7.cell? ⟨b, off + k * 2 + 1, none⟩ = some (.int .i64 y) := (hb7.cell (p := ⟨b, off + k * 2 + 1, none⟩) (lt_of_cell (a := ⟨b, off + k * 2 + 1, none⟩) (by rw [hc1]; rfl))).trans hc1
          clear SX hown hBr hsz hb7 hc0 hc1
          obtain ⟨b0, b1, r0, r1, t0, t1, fr0, fr1, ft1⟩ := id S7
          go_upto_region 8 with (fail)
          go_region_law (refine step_appPk (B := w7.heap.size + 1) rfl (.tmp 43) (.tmp 49) (by rfl) (w.heap.size + 1 + 1) v _ _ _ [(x, y)] (by rfl) (by first | exact O7.drew.alloc _ | exact (O7.alloc _).drew | exact O7.alloc _) (by rfl) (by first | exact RdP.lit w7.drew x y _ | exact RdP.drew' (RdP.lit w7 x y _) | exact RdP.lit w7 x y _) (by have := simpL_len xs k; omega) (by simp) (by simp only [World.size_alloc, World.size_drew]; omega) ?_; intro v2 w2 q g l; obtain ⟨Aq, cq, eq⟩ := q.shape; simp only [List.length_append, List.length_cons, List.length_nil, Nat.zero_add] at eq; subst eq; have bk := below_rowP (by first | exact O7.drew.alloc _ | exact (O7.alloc _).drew | exact O7.alloc _) g (by simp only [World.size_alloc, World.size_drew]; omega); have z2 : T < w2.heap.size := Nat.lt_of_lt_of_le (by simp only [World.size_alloc, World.size_drew]; omega) g.size; have S2 : SB w2 w.heap.size (w.heap.size + 1) T F (.slice (some ⟨b, off, none⟩) xs.length c) v := SB.kept (by first | exact S7.drew.alloc _ | exact (S7.alloc _).drew | exact S7.alloc _) g (fun e => by have := (O7.lt _ e.symm).1; omega) (fun e => by have := (O7.lt _ e.symm).1; omega) (fun e => hap e.symm); have a2 : (Value.slice Aq _ cq).ownBlock ≠ some T := (by rcases l with l | l; exact l ▸ hap; intro e; rw [l] at e; have := Option.some.inj e; simp only [World.size_alloc, World.size_drew] at this; omega); have B2 : Below w.heap.size w w2 := Below.trans (by (repeat' (first | (with_reducible exact Below.refl _ _) | (with_reducible assumption) | (with_reducible refine below_drewN ?_ _) | (with_reducible refine Below.alloc ?_ ?_ _) | (with_reducible refine Below.drew ?_) | (with_reducible refine Below.setCell ?_ ?_ _) | go_size))) (bk.mono (by omega)); clear b0 b1 r0 r1 t0 t1 fr0 fr1 ft1; clear bk g l S7 O7 B7 z7 c0 c1; obtain ⟨b0, b1, r0, r1, t0, t1, fr0, fr1, ft1⟩ := id S2)
          all_goals
            go_wp2
            go_roundw
            case rel => exact ⟨k + 1, _, by omega, by go_num, by rw [HS.out]; exact q.kept (grownBy_setP w2 ⟨T, 1, none⟩ _) (.inr a2), a2, Below.setCell B2 (show w.heap.size ≤ T by omega) _, by simp only [World.size_setCell]; exact z2, S2.set n1 n2 _⟩
            case measure => simp [intOf]; omega
      · have g0 : decide ((k : Int) + 1 < (xs.length : Int)) = false := by simp; omega
        have HS := Lib.hid (simpL_last h2 HXK.out)
        clear HP
        go_wp2_with fail
        refine wp_region_after (by kernel_rfl) (by kernel_rfl) (fun hAf => ?_)
        (repeat (go_big_quiet_step (first | fail)))
        refine wpQuiet_nil ?_
        intro w7 hw'
        have hb7 := after_out hw'
        clear hw' hAf
        clear b0 b1 r0 r1 t0 t1 fr0 fr1 ft1
        have S7 := SX.below hb7
        have O7 := hown.below hb7
        have B7 := hBr.trans (hb7.mono hBr.size)
        have z7 : T < w7.heap.size := Nat.lt_of_lt_of_le hsz hb7.size
        have c0 : w7.cell? ⟨b, off + k * 2, none⟩ = some (.int .i64 x) := (hb7.cell (p := ⟨b, off + k * 2, none⟩) (lt_of_cell (a := ⟨b, off + k * 2, none⟩) (by rw [hc0]; rfl))).trans hc0
        have c1 : w7.cell? ⟨b, off + k * 2 + 1, none⟩ = some (.int .i64 y) := (hb7.cell (p := ⟨b, off + k * 2 + 1, none⟩) (lt_of_cell (a := ⟨b, off + k * 2 + 1, none⟩) (by rw [hc1]; rfl))).trans hc1
        clear SX hown hBr hsz hb7 hc0 hc1
        obtain ⟨b0, b1, r0, r1, t0, t1, fr0, fr1, ft1⟩ := id S7
        go_upto_region 8 with (fail)
        go_region_law (refine step_appPk (B := w7.heap.size + 1) rfl (.tmp 43) (.tmp 49) (by rfl) (w.heap.size + 1 + 1) v _ _ _ [(x, y)] (by rfl) (by first | exact O7.drew.alloc _ | exact (O7.alloc _).drew | exact O7.alloc _) (by rfl) (by first | exact RdP.lit w7.drew x y _ | exact RdP.drew' (RdP.lit w7 x y _) | exact RdP.lit w7 x y _) (by have := simpL_len xs k; omega) (by simp) (by simp only [World.size_alloc, World.size_drew]; omega) ?_; intro v2 w2 q g l; obtain ⟨Aq, cq, eq⟩ := q.shape; simp only [List.length_append, List.length_cons, List.length_nil, Nat.zero_add] at eq; subst eq; have bk := below_rowP (by first | exact O7.drew.alloc _ | exact (O7.alloc _).drew | exact O7.alloc _) g (by simp only [World.size_alloc, World.size_drew]; omega); have z2 : T < w2.heap.size := Nat.lt_of_lt_of_le (by simp only [World.size_alloc, World.size_drew]; omega) g.size; have S2 : SB w2 w.heap.size (w.heap.size + 1) T F (.slice (some ⟨b, off, none⟩) xs.length c) v := SB.kept (by first | exact S7.drew.alloc _ | exact (S7.alloc _).drew | exact S7.alloc _) g (fun e => by have := (O7.lt _ e.symm).1; omega) (fun e => by have := (O7.lt _ e.symm).1; omega) (fun e => hap e.symm); have a2 : (Value.slice Aq _ cq).ownBlock ≠ some T := (by rcases l with l | l; exact l ▸ hap; intro e; rw [l] at e; have := Option.some.inj e; simp only [World.size_alloc, World.size_drew] at this; omega); have B2 : Below w.heap.size w w2 := Below.trans (by (repeat' (first | (with_reducible exact Below.refl _ _) | (with_reducible assumption) | (with_reducible refine below_drewN ?_ _) | (with_reducible refine Below.alloc ?_ ?_ _) | (with_reducible refine Below.drew ?_) | (with_reducible refine Below.setCell ?_ ?_ _) | go_size))) (bk.mono (by omega)); clear b0 b1 r0 r1 t0 t1 fr0 fr1 ft1; clear bk g l S7 O7 B7 z7 c0 c1; obtain ⟨b0, b1, r0, r1, t0, t1, fr0, fr1, ft1⟩ := id S2)
        all_goals
          go_wp2
          go_roundw
          case rel => exact ⟨k + 1, _, by omega, by go_num, by rw [HS.out]; exact q.kept (grownBy_setP w2 ⟨T, 1, none⟩ _) (.inr a2), a2, Below.setCell B2 (show w.heap.size ≤ T by omega) _, by simp only [World.size_setCell]; exact z2, S2.set n1 n2 _⟩
          case measure => simp [intOf]; omega
    · obtain rfl : k = xs.length := by omega
      obtain ⟨Ao, co, rfl⟩ := hown.shape
      have OH := Lib.hid hown
      clear hown
      obtain ⟨b0, b1, r0, r1, t0, t1, fr0, fr1, ft1⟩ := id SX
      go_wp2
      go_light
      refine bodyPost_ret (v := .tuple #[.agg #[.int .i64 F, .slice Ao (simpL xs xs.length).length co], .bool true]) (by simp (maxDischargeDepth := 5) [results, Try.results26, go_sem, *]) rfl ?_
      exact ⟨Ao, co, rfl, ((OH.out.setBelow (by simp) _).setBelow (by simp) _).weak (by omega), by (repeat' (first | (with_reducible exact Below.refl _ _) | (with_reducible assumption) | (with_reducible refine below_drewN ?_ _) | (with_reducible refine Below.alloc ?_ ?_ _) | (with_reducible refine Below.drew ?_) | (with_reducible refine Below.setCell ?_ ?_ _) | go_size))⟩
end Go.Proofs.Ytbfaejacfhblkaa
