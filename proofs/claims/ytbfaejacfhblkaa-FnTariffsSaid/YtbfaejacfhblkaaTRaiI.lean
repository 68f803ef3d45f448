/- Contracts: RaiseTariff, the program. -/
import Derived.Test.YtbfaejacfhblkaaTRaiB
namespace Go.Proofs.Ytbfaejacfhblkaa
open Go.RowKit

set_option maxHeartbeats 4000000 in
theorem implRai_c {B : Nat} (F p : Int) (A : Option Addr) (c : Nat) (xs : List (Int × Int)) (w : World) (h : RdP w B A xs) (hBs : B ≤ w.heap.size) (hm : xs.length ≤ 4611686018427387904) :
    Calls Try.prog 33 #[.agg #[.int .i64 F, .slice A xs.length c], .int .i64 p] w (RetP w (raiT F xs p).1.2 (fun z => .tuple #[.agg #[.int .i64 (raiT F xs p).1.1, z], .bool (raiT F xs p).2])) := by
  have tar := implTar_c F A c xs (((w.alloc (.cells #[.int .i64 F, .slice A xs.length c] 29)).alloc (.cells #[.int .i64 p] 3)).alloc (.cells #[.int .i64 0, .slice none 0 0] 29)) (((h.alloc hBs _).alloc (by simp; omega) _).alloc (by simp; omega) _) (by simp; omega) hm
  cases h1 : goodT F xs
  · rw [raiT_no (.inl h1)]
    rw [h1] at tar
    have TAR := Lib.hid tar
    clear tar h1
    go_enter Try.func33, Try.ntmps33
    go_wp2_with (go_at_call 18; refine (TAR.out).mono ?_; rintro e w1 ⟨rfl, hb1⟩; have hz1 := hb1.size; (repeat (first | rw [World.size_alloc] at hz1 | rw [World.size_drew] at hz1 | rw [World.heap_drewN] at hz1 | rw [World.size_setCell] at hz1)); have hB : Below w.heap.size w w1 := Below.trans (by (repeat' (first | (with_reducible exact Below.refl _ _) | (with_reducible assumption) | (with_reducible refine below_drewN ?_ _) | (with_reducible refine Below.alloc ?_ ?_ _) | (with_reducible refine Below.drew ?_) | (with_reducible refine Below.setCell ?_ ?_ _) | go_size))) (hb1.mono (by go_size)); have hL1 := hb1; clear hb1; obtain ⟨hc1, hf1⟩ := bcell hL1)
    refine bodyPost_ret (v := .tuple #[.agg #[.int .i64 0, .slice none 0 0], .bool false]) (by simp (maxDischargeDepth := 5) [results, Try.results33, go_sem, *]) rfl ?_
    exact ⟨_, _, rfl, OwnP.nil _ _, by (repeat' (first | (with_reducible exact Below.refl _ _) | (with_reducible assumption) | (with_reducible refine below_drewN ?_ _) | (with_reducible refine Below.alloc ?_ ?_ _) | (with_reducible refine Below.drew ?_) | (with_reducible refine Below.setCell ?_ ?_ _) | go_size))⟩
  rw [h1] at tar
  have TAR := Lib.hid tar
  cases h2 : inB p (-100) 100
  · rw [raiT_no (.inr (.inl h2))]
    have lin := fun s => inside_c p (-100) 100 s
    rw [h2] at lin
    have LIN := Lib.hid lin
    clear lin tar h1 h2
    go_enter Try.func33, Try.ntmps33
    go_wp2_with (first | (go_at_call 18; refine (TAR.out).mono ?_; rintro e w1 ⟨rfl, hb1⟩; have hz1 := hb1.size; (repeat (first | rw [World.size_alloc] at hz1 | rw [World.size_drew] at hz1 | rw [World.heap_drewN] at hz1 | rw [World.size_setCell] at hz1)); have hB : Below w.heap.size w w1 := Below.trans (by (repeat' (first | (with_reducible exact Below.refl _ _) | (with_reducible assumption) | (with_reducible refine below_drewN ?_ _) | (with_reducible refine Below.alloc ?_ ?_ _) | (with_reducible refine Below.drew ?_) | (with_reducible refine Below.setCell ?_ ?_ _) | go_size))) (hb1.mono (by go_size)); have hL1 := hb1; clear hb1; obtain ⟨hc1, hf1⟩ := bcell hL1) | (go_at_call 55; refine (LIN.out _).mono ?_; rintro e w' ⟨rfl, rfl⟩))
    refine bodyPost_ret (v := .tuple #[.agg #[.int .i64 0, .slice none 0 0], .bool false]) (by simp (maxDischargeDepth := 5) [results, Try.results33, go_sem, *]) rfl ?_
    exact ⟨_, _, rfl, OwnP.nil _ _, by (repeat' (first | (with_reducible exact Below.refl _ _) | (with_reducible assumption) | (with_reducible refine below_drewN ?_ _) | (with_reducible refine Below.alloc ?_ ?_ _) | (with_reducible refine Below.drew ?_) | (with_reducible refine Below.setCell ?_ ?_ _) | go_size))⟩
  have g := goodT_out h1
  have hn12 : xs.length ≤ 65000 := by omega
  have hF0 : 0 ≤ F := g.1
  have hF1 : F ≤ 1000000 := by omega
  have hp := inB_out h2
  have hp0 : -100 ≤ p := hp.1
  have hp1 : p ≤ 100 := hp.2
  have H12 := Lib.hid (And.intro h1 h2)
  have HG := Lib.hid h1
  have lin := fun s => inside_c p (-100) 100 s
  rw [h2] at lin
  have LIN := Lib.hid lin
  have HX := Lib.hid h
  clear lin tar g hp h1 h2 h hm
  go_enter Try.func33, Try.ntmps33
  go_wp2_with fail
  refine TAR.out.mono ?_
  rintro e w1 ⟨rfl, hb1⟩
  have hz1 := hb1.size; (repeat (first | rw [World.size_alloc] at hz1 | rw [World.size_drew] at hz1 | rw [World.heap_drewN] at hz1 | rw [World.size_setCell] at hz1)); have hB : Below w.heap.size w w1 := Below.trans (by (repeat' (first | (with_reducible exact Below.refl _ _) | (with_reducible assumption) | (with_reducible refine below_drewN ?_ _) | (with_reducible refine Below.alloc ?_ ?_ _) | (with_reducible refine Below.drew ?_) | (with_reducible refine Below.setCell ?_ ?_ _) | go_size))) (hb1.mono (by go_size)); have hL1 := hb1; clear hb1; obtain ⟨hc1, hf1⟩ := bcell hL1
  clear TAR
  have zw : w.heap.size + 1 + 1 < w1.heap.size := by have := hz1; omega
  have zw0 : w.heap.size < w1.heap.size := by omega
  have zw1 : w.heap.size + 1 < w1.heap.size := by omega
  have b0 : w1.cell? ⟨w.heap.size, 0, none⟩ = some (.int .i64 F) := by simp [*, go_sem]
  have b1 : w1.cell? ⟨w.heap.size, 1, none⟩ = some (.slice A xs.length c) := by simp [*, go_sem]
  have pc : w1.cell? ⟨w.heap.size + 1, 0, none⟩ = some (.int .i64 p) := by simp [*, go_sem]
  have r0 : w1.cell? ⟨w.heap.size + 1 + 1, 0, none⟩ = some (.int .i64 0) := by simp [*, go_sem]
  have r1 : w1.cell? ⟨w.heap.size + 1 + 1, 1, none⟩ = some (.slice none 0 0) := by simp [*, go_sem]
  have fr0 : w1.frozen? ⟨w.heap.size + 1 + 1, 0, none⟩ = false := by simp [*, go_sem]
  have fr1 : w1.frozen? ⟨w.heap.size + 1 + 1, 1, none⟩ = false := by simp [*, go_sem]
  clear hL1 hc1 hf1
  obtain ⟨T, hT⟩ : ∃ T, T = w1.heap.size + 1 := ⟨_, rfl⟩
  have hTw : w.heap.size + 1 + 1 < T := by omega
  have n1 : ¬ w.heap.size = T := by omega
  have n2 : ¬ w.heap.size + 1 = T := by omega
  have n3 : ¬ w.heap.size + 1 + 1 = T := by omega
  have S0 : RB ((w1.alloc (.cells #[] 63)).alloc (.cells #[.int .i64 (raP p F), .slice (some ⟨w1.heap.size, 0, none⟩) 0 0] 29)) (w.heap.size) (w.heap.size + 1) (w.heap.size + 1 + 1) (w1.heap.size + 1) F (raP p F) (.int .i64 p) (.slice A xs.length c) (.slice (some ⟨w1.heap.size, 0, none⟩) 0 0) := ⟨by simp [*, go_sem], by simp [*, go_sem], by simp [*, go_sem], by simp [*, go_sem], by simp [*, go_sem], by simp [*, go_sem], by simp [*, go_sem], by simp [*, go_sem], by simp [*, go_sem], by simp [*, go_sem]⟩
  have O0 : OwnP ((w1.alloc (.cells #[] 63)).alloc (.cells #[.int .i64 (raP p F), .slice (some ⟨w1.heap.size, 0, none⟩) 0 0] 29)) (w.heap.size + 1 + 1 + 1) (.slice (some ⟨w1.heap.size, 0, none⟩) 0 0) [] := (OwnP.empty w1 (w.heap.size + 1 + 1 + 1) (by omega)).alloc _
  have B0 : Below w.heap.size w ((w1.alloc (.cells #[] 63)).alloc (.cells #[.int .i64 (raP p F), .slice (some ⟨w1.heap.size, 0, none⟩) 0 0] 29)) := (hB.alloc (by omega) _).alloc (by simp; omega) _
  have z0 : T < ((w1.alloc (.cells #[] 63)).alloc (.cells #[.int .i64 (raP p F), .slice (some ⟨w1.heap.size, 0, none⟩) 0 0] 29)).heap.size := by simp; omega
  have a0 : (Value.slice (some ⟨w1.heap.size, 0, none⟩) 0 0).ownBlock ≠ some T := by simp [Value.ownBlock]; omega
  rw [← hT] at S0
  have HS := Lib.hid S0
  clear S0
  go_wp2_with (first | (go_at_call 55; refine (LIN.out _).mono ?_; rintro e w' ⟨rfl, rfl⟩) | (go_at_call 67; refine (raised_c F p (w.heap.size + 1) _ (by first | exact pc | (simp [*, go_sem]; done)) hF0 hF1 hp0 hp1).mono ?_; rintro e w' ⟨rfl, rfl⟩))
  rw [← hT]
  go_loopw [29] (fun i wr => ∃ (k : Nat) (v : Value), k ≤ xs.length ∧ i = .int .i64 k ∧ OwnP wr (w.heap.size + 1 + 1 + 1) v (raK p xs k) ∧ v.ownBlock ≠ some T ∧ Below w.heap.size w wr ∧ T < wr.heap.size ∧ RB wr (w.heap.size) (w.heap.size + 1) (w.heap.size + 1 + 1) T F (raP p F) (.int .i64 p) (.slice A xs.length c) v) (fun i _ => xs.length - (intOf i).toNat)
  case atStart => exact ⟨0, _, by omega, rfl, O0, a0, B0, z0, HS.out⟩
  case round =>
    clear O0 a0 B0 z0 HS hB zw zw0 zw1 hz1 b0 b1 pc r0 r1 fr0 fr1 hT
    obtain ⟨k, v, hk, rfl, hown, hap, hBr, hsz, SX⟩ := hrel
    by_cases hlt : k < xs.length
    · obtain ⟨bb, off, x, y, rfl, hx, hbB, hc0, hc1⟩ := (HX.out.below (hBr.mono hBs)).at_ hlt
      have hxy := goodT_xy HG.out hlt hx
      have hy0 : 0 ≤ y := hxy.2.2.1
      have hy1 : y ≤ 1000000 := by omega
      have hi : (k : Int) < (xs.length : Int) := by omega
      have W1 : IntKind.i64.wrap ((k : Int) + 1) = (k : Int) + 1 := IntWalk.i64_in _ (by omega)
      have HKS := Lib.hid (raK_succ (p := p) hx)
      clear hx hxy
      obtain ⟨b0, b1, pc, r0, r1, t0, t1, fr0, fr1, ft1⟩ := id SX
      go_upto_region 8 with (fail)
      obtain ⟨W6, hW6⟩ : ∃ W, W = wr.alloc (.cells #[.int .i64 x, .int .i64 y] 63) := ⟨_, rfl⟩
      rw [← hW6]
      clear b0 b1 pc r0 r1 t0 t1 fr0 fr1 ft1
      have S7 : RB W6 (w.heap.size) (w.heap.size + 1) (w.heap.size + 1 + 1) T F (raP p F) (.int .i64 p) (.slice (some ⟨bb, off, none⟩) xs.length c) v := by rw [hW6]; exact SX.alloc _
      have O7 : OwnP W6 (w.heap.size + 1 + 1 + 1) v (raK p xs k) := by rw [hW6]; exact hown.alloc _
      have B7 : Below w.heap.size w W6 := by rw [hW6]; exact hBr.alloc hBr.size _
      have z7 : T < W6.heap.size := by rw [hW6]; simp only [World.size_alloc]; omega
      have q0 : W6.cell? ⟨wr.heap.size, 0, none⟩ = some (.int .i64 x) := by rw [hW6]; simp [go_sem]
      have q1 : W6.cell? ⟨wr.heap.size, 1, none⟩ = some (.int .i64 y) := by rw [hW6]; simp [go_sem]
      clear hW6 hown SX hBr hc0 hc1
      generalize wr.heap.size = Q at *
      obtain ⟨b0, b1, pc, r0, r1, t0, t1, fr0, fr1, ft1⟩ := id S7
      go_region_law (first | (refine step_appPk (B := W6.heap.size + 1) rfl (.tmp 34) (.tmp 42) (by rfl) (w.heap.size + 1 + 1 + 1) v _ _ _ [(x, raP p y)] (by rfl) (by first | exact O7.drew.alloc _ | exact (O7.alloc _).drew | exact O7.alloc _) (by rfl) (by first | exact RdP.lit W6.drew x (raP p y) _ | exact RdP.drew' (RdP.lit W6 x (raP p y) _) | exact RdP.lit W6 x (raP p y) _) (by rw [raK_len]; omega) (by simp) (by simp only [World.size_alloc, World.size_drew]; omega) ?_; intro v2 w2 q g l; obtain ⟨Aq, cq, eq⟩ := q.shape; simp only [List.length_append, List.length_cons, List.length_nil, Nat.zero_add, raK_len] at eq; subst eq; have bk := below_rowP (by first | exact O7.drew.alloc _ | exact (O7.alloc _).drew | exact O7.alloc _) g (by simp only [World.size_alloc, World.size_drew]; omega); have z2 : T < w2.heap.size := Nat.lt_of_lt_of_le (by simp only [World.size_alloc, World.size_drew]; omega) g.size; have S2 := RB.kept (by first | exact S7.drew.alloc _ | exact (S7.alloc _).drew | exact S7.alloc _) g (fun e => by have := (O7.lt _ e.symm).1; omega) (fun e => by have := (O7.lt _ e.symm).1; omega) (fun e => by have := (O7.lt _ e.symm).1; omega) (fun e => hap e.symm); have a2 : (Value.slice Aq (k + 1) cq).ownBlock ≠ some T := (by rcases l with l | l; exact l ▸ hap; intro e; rw [l] at e; have := Option.some.inj e; simp only [World.size_alloc, World.size_drew] at this; omega); have B2 : Below w.heap.size w w2 := Below.trans (by (repeat' (first | (with_reducible exact Below.refl _ _) | (with_reducible assumption) | (with_reducible refine below_drewN ?_ _) | (with_reducible refine Below.alloc ?_ ?_ _) | (with_reducible refine Below.drew ?_) | (with_reducible refine Below.setCell ?_ ?_ _) | go_size))) (bk.mono (by omega)); clear b0 b1 pc r0 r1 t0 t1 fr0 fr1 ft1; clear bk g l S7 O7 B7 z7 q0 q1; obtain ⟨b0, b1, pc, r0, r1, t0, t1, fr0, fr1, ft1⟩ := id S2) | (refine step_callp rfl 67 #[.int .i64 y, .pointer (some ⟨w.heap.size + 1, 0, none⟩)] (.int .i64 (raP p y)) (by go_simp) (raised_c y p (w.heap.size + 1) _ (by first | exact (S7.drew.alloc _).pc | exact (S7.alloc _).drew.pc | exact S7.drew.pc | exact (S7.alloc _).pc | exact S7.pc) hy0 hy1 hp0 hp1) ?_))
      all_goals
        go_wp2
        go_roundw
        case rel => exact ⟨k + 1, _, by omega, by go_num, by rw [HKS.out]; exact q.kept (grownBy_setP w2 ⟨T, 1, none⟩ _) (.inr a2), a2, Below.setCell B2 (show w.heap.size ≤ T by omega) _, by simp only [World.size_setCell]; exact z2, S2.set n1 n2 n3 _⟩
        case measure => simp [intOf]; omega
    · obtain rfl : k = xs.length := by omega
      obtain ⟨Ao, co, rfl⟩ := hown.shape
      have tar := implTar_c (raP p F) Ao co (raK p xs xs.length) wr hown.rd (Nat.le_refl _) (by rw [raK_len]; omega)
      cases h3 : goodT (raP p F) (raK p xs xs.length)
      · rw [h3] at tar
        have TAR := Lib.hid tar
        have EH := Lib.hid (raiT_no (F := F) (xs := xs) (p := p) (.inr (.inr h3)))
        clear tar h3 hown
        obtain ⟨b0, b1, pc, r0, r1, t0, t1, fr0, fr1, ft1⟩ := id SX
        go_wp2_with fail
        clear b0 b1 pc r0 r1 t0 t1 fr0 fr1 ft1
        refine TAR.out.mono ?_
        rintro e w2 ⟨rfl, hb2⟩
        have S2 := SX.below hb2
        have B2 := hBr.trans (hb2.mono hBr.size)
        clear SX hb2 TAR
        obtain ⟨b0, b1, pc, r0, r1, t0, t1, fr0, fr1, ft1⟩ := id S2
        go_wp2
        go_light
        rw [EH.out]
        refine bodyPost_ret (v := .tuple #[.agg #[.int .i64 0, .slice none 0 0], .bool false]) (by simp (maxDischargeDepth := 5) [results, Try.results33, go_sem, *]) rfl ?_
        exact ⟨_, _, rfl, OwnP.nil _ _, by (repeat' (first | (with_reducible exact Below.refl _ _) | (with_reducible assumption) | (with_reducible refine below_drewN ?_ _) | (with_reducible refine Below.alloc ?_ ?_ _) | (with_reducible refine Below.drew ?_) | (with_reducible refine Below.setCell ?_ ?_ _) | go_size))⟩
      · rw [h3] at tar
        have TAR := Lib.hid tar
        have EH := Lib.hid (raiT_yes H12.out.1 H12.out.2 h3)
        have OH := Lib.hid hown
        clear tar h3 hown
        obtain ⟨b0, b1, pc, r0, r1, t0, t1, fr0, fr1, ft1⟩ := id SX
        go_wp2_with fail
        clear b0 b1 pc r0 r1 t0 t1 fr0 fr1 ft1
        refine TAR.out.mono ?_
        rintro e w2 ⟨rfl, hb2⟩
        have S2 := SX.below hb2
        have B2 := hBr.trans (hb2.mono hBr.size)
        have O2 := Lib.hid (OH.out.below hb2)
        clear SX hb2 TAR
        obtain ⟨b0, b1, pc, r0, r1, t0, t1, fr0, fr1, ft1⟩ := id S2
        go_wp2
        go_light
        rw [EH.out]
        refine bodyPost_ret (v := .tuple #[.agg #[.int .i64 (raP p F), .slice Ao (raK p xs xs.length).length co], .bool true]) (by simp (maxDischargeDepth := 5) [results, Try.results33, go_sem, *]) rfl ?_
        exact ⟨Ao, co, rfl, ((O2.out.setBelow (by simp) _).setBelow (by simp) _).weak (by omega), by (repeat' (first | (with_reducible exact Below.refl _ _) | (with_reducible assumption) | (with_reducible refine below_drewN ?_ _) | (with_reducible refine Below.alloc ?_ ?_ _) | (with_reducible refine Below.drew ?_) | (with_reducible refine Below.setCell ?_ ?_ _) | go_size))⟩
end Go.Proofs.Ytbfaejacfhblkaa
