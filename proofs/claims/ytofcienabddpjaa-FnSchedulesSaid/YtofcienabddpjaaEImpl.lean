/- Contracts: the eager schedule, the program. -/
import Derived.Test.YtofcienabddpjaaESpec
namespace Go.Proofs.Ytofcienabddpjaa
open Go.RowKit

theorem grownBy_set (w : World) (a : Addr) (u : Value) : w.grownBy (w.setCell a u) (some a.block) :=
  ⟨rfl, rfl, rfl, by rw [World.size_setCell]; exact Nat.le_refl _, fun i _ hi => heap_setCell_other w a i u (fun e => hi (by rw [e]))⟩
/-- The boxes of the eager walk: the pumping at b, the tank at T. -/
structure EB (W : World) (b T : Nat) (L E M P l : Int) (s1 s2 : Value) : Prop where
  p0 : W.cell? ⟨b, 0, none⟩ = some (.int .i64 L)
  p1 : W.cell? ⟨b, 1, none⟩ = some (.int .i64 E)
  p2 : W.cell? ⟨b, 2, none⟩ = some (.int .i64 M)
  p3 : W.cell? ⟨b, 3, none⟩ = some (.int .i64 P)
  p4 : W.cell? ⟨b, 4, none⟩ = some (s1)
  p5 : W.cell? ⟨b, 5, none⟩ = some (s2)
  t0 : W.cell? ⟨T, 0, none⟩ = some (.int .i64 l)
  t1 : W.cell? ⟨T, 1, none⟩ = some (.int .i64 E)
  t2 : W.cell? ⟨T, 2, none⟩ = some (.int .i64 M)
  ft0 : W.frozen? ⟨T, 0, none⟩ = false
  ft1 : W.frozen? ⟨T, 1, none⟩ = false
  ft2 : W.frozen? ⟨T, 2, none⟩ = false
theorem EB.kept {W W' : World} {b T : Nat} {L E M P l : Int} {s1 s2 : Value} {row : Option Nat} (h : EB W b T L E M P l s1 s2) (hg : W.grownBy W' row) (hb : some b ≠ row) (hT : some T ≠ row) : EB W' b T L E M P l s1 s2 := by
  have eb := hg.block b (lt_of_cell (a := ⟨b, 0, none⟩) (by rw [h.p0]; rfl)) hb
  have eT := hg.block T (lt_of_cell (a := ⟨T, 0, none⟩) (by rw [h.t0]; rfl)) hT
  exact ⟨(World.cell?_of_block eb).trans h.p0, (World.cell?_of_block eb).trans h.p1, (World.cell?_of_block eb).trans h.p2, (World.cell?_of_block eb).trans h.p3, (World.cell?_of_block eb).trans h.p4, (World.cell?_of_block eb).trans h.p5, (World.cell?_of_block eT).trans h.t0, (World.cell?_of_block eT).trans h.t1, (World.cell?_of_block eT).trans h.t2, (World.frozen?_of_block eT).trans h.ft0, (World.frozen?_of_block eT).trans h.ft1, (World.frozen?_of_block eT).trans h.ft2⟩
theorem EB.below {W W' : World} {b T : Nat} {L E M P l : Int} {s1 s2 : Value} (h : EB W b T L E M P l s1 s2) (hb : Below W.heap.size W W') : EB W' b T L E M P l s1 s2 := h.kept (row := none) ⟨hb.os, hb.tape, hb.output, hb.size, fun i hi _ => hb.block i hi⟩ (by simp) (by simp)
theorem EB.setT {W : World} {b T : Nat} {L E M P l : Int} {s1 s2 : Value} (h : EB W b T L E M P l s1 s2) (hne : ¬ b = T) (l' : Int) : EB (((W.setCell ⟨T, 0, none⟩ (.int .i64 l')).setCell ⟨T, 1, none⟩ (.int .i64 E)).setCell ⟨T, 2, none⟩ (.int .i64 M)) b T L E M P l' s1 s2 := by
  obtain ⟨p0, p1, p2, p3, p4, p5, t0, t1, t2, ft0, ft1, ft2⟩ := h
  exact ⟨by simp [*, go_sem], by simp [*, go_sem], by simp [*, go_sem], by simp [*, go_sem], by simp [*, go_sem], by simp [*, go_sem], by simp [*, go_sem], by simp [*, go_sem], by simp [*, go_sem], by simp [*, go_sem], by simp [*, go_sem], by simp [*, go_sem]⟩
set_option maxHeartbeats 4000000 in
theorem implEager_c {B B' : Nat} (L E M P : Int) (A A' : Option Addr) (c c' : Nat) (xs ys : List Int) (w : World) (h : RdI w B A xs) (h' : RdI w B' A' ys) (hS1 : B ≤ w.heap.size) (hS2 : B' ≤ w.heap.size) (hnil : A = none → c = 0) (hnil' : A' = none → c' = 0) (hm : xs.length ≤ 1048576) (hm' : ys.length ≤ 1048576) :
    Calls Try.prog 34 #[.agg #[.int .i64 L, .int .i64 E, .int .i64 M, .int .i64 P, .slice A xs.length c, .slice A' ys.length c']] w (RetI w (eagerT L E M P xs ys).1 (fun v => .tuple #[v, .bool (eagerT L E M P xs ys).2])) := by
  have good := implPump_c L E M P A A' c c' xs ys _ (h.alloc hS1 (.cells #[.int .i64 L, .int .i64 E, .int .i64 M, .int .i64 P, .slice A xs.length c, .slice A' ys.length c'] 28)) (h'.alloc hS2 _) (by simp; omega) (by simp; omega) hnil hnil' hm hm'
  cases g : goodPm L E M P xs ys
  · have e : goodS L E M P xs ys (egZ E M P L ys) = false := by unfold goodS; rw [g]; rfl
    rw [g] at good
    rw [eagerT_no e]
    have GOOD := Lib.hid good
    clear e good g
    go_enter Try.func34, Try.ntmps34
    go_wp2_with (first | (go_at_call 17; refine (GOOD.out).mono ?_; rintro e w1 ⟨rfl, hb1⟩; have hz1 := hb1.size; (repeat (first | rw [World.size_alloc] at hz1 | rw [World.size_drew] at hz1 | rw [World.heap_drewN] at hz1 | rw [World.size_setCell] at hz1)); have hB : Below w.heap.size w w1 := Below.trans (by (repeat' (first | (with_reducible exact Below.refl _ _) | (with_reducible assumption) | (with_reducible refine below_drewN ?_ _) | (with_reducible refine Below.alloc ?_ ?_ _) | (with_reducible refine Below.drew ?_) | (with_reducible refine Below.setCell ?_ ?_ _) | go_size))) (hb1.mono (by go_size)); have hL1 := hb1; clear hb1; obtain ⟨hc1, hf1⟩ := bcell hL1))
    go_returns
    exact ⟨_, _, rfl, OwnI.nil _ _, by (repeat' (first | (with_reducible exact Below.refl _ _) | (with_reducible assumption) | (with_reducible refine below_drewN ?_ _) | (with_reducible refine Below.alloc ?_ ?_ _) | (with_reducible refine Below.drew ?_) | (with_reducible refine Below.setCell ?_ ?_ _) | go_size))⟩
  rw [g] at good
  have h12 : ys.length ≤ 12 := by have := goodPm_out g; omega
  have sched := fun (s : World) (d : Nat) (C : Option Addr) (q1 : RdI s s.heap.size A xs) (q2 : RdI s s.heap.size A' ys) (q3 : RdI s s.heap.size C (egZ E M P L ys)) => implSched_c L E M P A A' C c c' d xs ys (egZ E M P L ys) s q1 q2 q3 (Nat.le_refl _) (Nat.le_refl _) (Nat.le_refl _) hnil hnil' hm hm'
  rw [egZ_len] at sched
  have GOOD := Lib.hid good
  have SCHED := Lib.hid sched
  have G := Lib.hid g
  have H1 := Lib.hid h
  have H2 := Lib.hid h'
  clear good g h h' hm hm' sched hnil hnil'
  go_enter Try.func34, Try.ntmps34
  go_wp2_with fail
  refine GOOD.out.mono ?_
  rintro e w1 ⟨rfl, hb1⟩
  have hz1 := hb1.size; (repeat (first | rw [World.size_alloc] at hz1 | rw [World.size_drew] at hz1 | rw [World.heap_drewN] at hz1 | rw [World.size_setCell] at hz1)); have hB : Below w.heap.size w w1 := Below.trans (by (repeat' (first | (with_reducible exact Below.refl _ _) | (with_reducible assumption) | (with_reducible refine below_drewN ?_ _) | (with_reducible refine Below.alloc ?_ ?_ _) | (with_reducible refine Below.drew ?_) | (with_reducible refine Below.setCell ?_ ?_ _) | go_size))) (hb1.mono (by go_size)); have hL1 := hb1; clear hb1; obtain ⟨hc1, hf1⟩ := bcell hL1
  clear GOOD
  have zw : w.heap.size < w1.heap.size := by have := hz1; omega
  have p0 : w1.cell? ⟨w.heap.size, 0, none⟩ = some (.int .i64 L) := by simp [*, go_sem]
  have p1 : w1.cell? ⟨w.heap.size, 1, none⟩ = some (.int .i64 E) := by simp [*, go_sem]
  have p2 : w1.cell? ⟨w.heap.size, 2, none⟩ = some (.int .i64 M) := by simp [*, go_sem]
  have p3 : w1.cell? ⟨w.heap.size, 3, none⟩ = some (.int .i64 P) := by simp [*, go_sem]
  have p4 : w1.cell? ⟨w.heap.size, 4, none⟩ = some (.slice A xs.length c) := by simp [*, go_sem]
  have p5 : w1.cell? ⟨w.heap.size, 5, none⟩ = some (.slice A' ys.length c') := by simp [*, go_sem]
  clear hL1 hc1 hf1
  obtain ⟨T, hT⟩ : ∃ T, T = w1.heap.size + 1 := ⟨_, rfl⟩
  have hTw : w.heap.size < T := by omega
  have hn1 : ¬ w.heap.size = T := by omega
  have hn2 : ¬ T = w.heap.size := by omega
  have E0 : EB ((w1.alloc (.cells #[] 3)).alloc (.cells #[.int .i64 L, .int .i64 E, .int .i64 M] 25)) w.heap.size (w1.heap.size + 1) L E M P L (.slice A xs.length c) (.slice A' ys.length c') := ⟨by simp [*, go_sem], by simp [*, go_sem], by simp [*, go_sem], by simp [*, go_sem], by simp [*, go_sem], by simp [*, go_sem], by simp [*, go_sem], by simp [*, go_sem], by simp [*, go_sem], by simp [*, go_sem], by simp [*, go_sem], by simp [*, go_sem]⟩
  have O0 : OwnI ((w1.alloc (.cells #[] 3)).alloc (.cells #[.int .i64 L, .int .i64 E, .int .i64 M] 25)) (w.heap.size + 1) (.slice (some ⟨w1.heap.size, 0, none⟩) 0 0) [] := (own_empty w1 (w.heap.size + 1) (by omega)).alloc _
  have B0 : Below w.heap.size w ((w1.alloc (.cells #[] 3)).alloc (.cells #[.int .i64 L, .int .i64 E, .int .i64 M] 25)) := (hB.alloc (by omega) _).alloc (by simp; omega) _
  have z0 : T < ((w1.alloc (.cells #[] 3)).alloc (.cells #[.int .i64 L, .int .i64 E, .int .i64 M] 25)).heap.size := by simp; omega
  have a0 : (Value.slice (some ⟨w1.heap.size, 0, none⟩) 0 0).ownBlock ≠ some T := by simp [Value.ownBlock]; omega
  rw [← hT] at E0
  have HE := Lib.hid E0
  clear E0
  go_wp2_with fail
  rw [← hT]
  go_loopw [5, 7, 8, 18] (fun o _ _ i wr => ∃ k : Nat, k ≤ ys.length ∧ i = .int .i64 k ∧ OwnI wr (w.heap.size + 1) o (mapK (egV E M P L ys) k) ∧ o.ownBlock ≠ some T ∧ Below w.heap.size w wr ∧ T < wr.heap.size ∧ EB wr w.heap.size T L E M P (egL E M P L ys k) (.slice A xs.length c) (.slice A' ys.length c')) (fun _ _ _ i _ => ys.length - (intOf i).toNat)
  case atStart => exact ⟨0, by omega, rfl, O0, a0, B0, z0, HE.out⟩
  case round =>
    clear O0 a0 B0 z0 HE hB zw hz1 p0 p1 p2 p3 p4 p5 hT
    obtain ⟨k, hk, rfl, hown, hap, hBr, hsz, EX⟩ := hrel
    by_cases hlt : k < ys.length
    · have P2 := H2.out.below (hBr.mono hS2)
      obtain ⟨b2, o2, u, rfl, hu, hb2, hcu⟩ := P2.at_ hlt
      have hh := hour_eager G.out hlt
      have hn : egL E M P L ys (k + 1) = nxT E M (egL E M P L ys k) (egV E M P L ys k) (ys.getD k 0) := rfl
      rw [← hu] at hh hn
      have step := fun s => stepTank_c E M (egL E M P L ys k) (egV E M P L ys k) u s hh
      rw [← hn] at step
      have STEP := Lib.hid step
      have W0 : IntKind.i64.wrap (M - egL E M P L ys k) = M - egL E M P L ys k := IntWalk.i64_in _ (by have := hh.m1; have := hh.m0; have := hh.l0; have := hh.l1; omega)
      have W1 : IntKind.i64.wrap ((k : Int) + 1) = (k : Int) + 1 := IntWalk.i64_in _ (by omega)
      have hi : (k : Int) < (ys.length : Int) := by omega
      clear hn step hh hu P2
      obtain ⟨p0, p1, p2, p3, p4, p5, t0, t1, t2, ft0, ft1, ft2⟩ := id EX
      go_upto_region 7 with (fail)
      go_cut [8] (fun s wx => s = .int .i64 (egV E M P L ys k) ∧ wr = wx)
      case first =>
        clear hcu
        go_wp2_with fail
        all_goals
          go_meet
          exact ⟨by unfold egV egW minI; congr 1; split <;> omega, rfl⟩
      case rest =>
        obtain ⟨rfl, rfl⟩ := hcut
        go_upto_region 9 with (at_builtin; refine wpList_appK (wr := wr) rfl (.tmp 30) (.tmp 32) rfl (w.heap.size + 1) _ _ _ _ rfl hown rfl rfl (by rw [mapK_len]; omega) (by omega) ?_; intro v2 w2 q g l; have bk := below_row hown g (by omega); have EX2 := EX.kept g (fun e => by have := (hown.lt _ e.symm).1; omega) (fun e => hap e.symm); have a2 : v2.ownBlock ≠ some T := (by rcases l with l | l; exact l ▸ hap; intro e; rw [l] at e; have := Option.some.inj e; omega); have B2 := hBr.trans (bk.mono (by omega)); have z2 : T < w2.heap.size := Nat.lt_of_lt_of_le hsz bk.size; clear bk g l EX hown hap hBr hsz; clear p0 p1 p2 p3 p4 p5 t0 t1 t2 ft0 ft1 ft2; obtain ⟨p0, p1, p2, p3, p4, p5, t0, t1, t2, ft0, ft1, ft2⟩ := id EX2)
        go_wp2_with fail
        refine (STEP.out w2).mono ?_
        clear p0 p1 p2 p3 p4 p5 t0 t1 t2 ft0 ft1 ft2
        rintro e w3 ⟨rfl, hb3⟩
        have EX3 := EX2.below hb3
        have q3 := q.below hb3
        have B3 := B2.trans (hb3.mono B2.size)
        have z3 : T < w3.heap.size := Nat.lt_of_lt_of_le z2 hb3.size
        clear EX2 q B2 z2 hb3
        obtain ⟨p0, p1, p2, p3, p4, p5, t0, t1, t2, ft0, ft1, ft2⟩ := id EX3
        go_wp2
        go_roundw
        case rel => exact ⟨k + 1, by omega, by go_num, ((q3.kept (grownBy_set w3 ⟨T, 0, none⟩ _) (.inr a2)).kept (grownBy_set _ ⟨T, 1, none⟩ _) (.inr a2)).kept (grownBy_set _ ⟨T, 2, none⟩ _) (.inr a2), a2, Below.setCell (Below.setCell (Below.setCell B3 (Nat.le_of_lt hTw) _) (Nat.le_of_lt hTw) _) (Nat.le_of_lt hTw) _, by simp only [World.size_setCell]; exact z3, EX3.setT hn1 _⟩
        case measure => simp [intOf]; omega
    · obtain rfl : k = ys.length := by omega
      obtain ⟨Ao, co, e⟩ := hown.shape
      rw [mapK_len] at e
      subst e
      have o1 : OwnI wr (w.heap.size + 1) (.slice Ao (egZ E M P L ys).length co) (egZ E M P L ys) := by rw [egZ_len]; exact hown
      have sc := SCHED.out wr co Ao ((H1.out.below (hBr.mono hS1)).more (Nat.le_trans hS1 hBr.size)) ((H2.out.below (hBr.mono hS2)).more (Nat.le_trans hS2 hBr.size)) o1.rd
      cases hg : goodS L E M P xs ys (egZ E M P L ys)
      · rw [hg] at sc
        have SC := Lib.hid sc
        have EH := Lib.hid (eagerT_no hg)
        clear sc o1 hown hap hg
        obtain ⟨p0, p1, p2, p3, p4, p5, t0, t1, t2, ft0, ft1, ft2⟩ := id EX
        go_wp2_with fail
        refine SC.out.mono ?_
        rintro e w2 ⟨rfl, hb2⟩
        have B2 := hBr.trans (hb2.mono hBr.size)
        go_wp2
        go_returns
        rw [EH.out]
        exact ⟨_, _, rfl, OwnI.nil _ _, B2⟩
      · rw [hg] at sc
        have SC := Lib.hid sc
        have EH := Lib.hid (eagerT_yes hg)
        have O1 := Lib.hid o1
        clear sc o1 hown hap hg
        obtain ⟨p0, p1, p2, p3, p4, p5, t0, t1, t2, ft0, ft1, ft2⟩ := id EX
        go_wp2_with fail
        refine SC.out.mono ?_
        rintro e w2 ⟨rfl, hb2⟩
        have B2 := hBr.trans (hb2.mono hBr.size)
        go_wp2
        go_returns
        rw [EH.out]
        exact ⟨Ao, co, by rw [egZ_len]; rfl, (O1.out.below hb2).weak (by omega), B2⟩
end Go.Proofs.Ytofcienabddpjaa
