/- Contracts: DrawReducerFor, ReducerFor. -/
import Derived.Test.YtakpoalcfjedlaaFDraw3
import Derived.Test.YtakpoalcfjedlaaAfter
namespace Go.Proofs.Ytakpoalcfjedlaa
open Go.RowKit

set_option maxRecDepth 100000 in
set_option maxHeartbeats 8000000 in
theorem drawReducer_c (A : Option Addr) (n c : Nat) (w : World) (h : RdB w w.heap.size A n) : Calls Try.prog 31 #[.slice A n c] w fun e w' => ∃ (x L M l : Int), e = .returned (.tuple #[.int .i64 x, .agg #[.int .i64 L, .int .i64 M], .int .i64 l]) ∧ (-1 ≤ x ∧ x ≤ 1001) ∧ ((0 ≤ L ∧ L ≤ 300) ∧ (0 ≤ M ∧ M ≤ 300)) ∧ (-1 ≤ l ∧ l ≤ 2001) ∧ Below w.heap.size w w' := by
  go_enter Try.func31, Try.ntmps31
  go_upto_region 2 with (fail)
  obtain ⟨W, hW⟩ : ∃ W, W = (w.alloc (.cells #[.int .i64 0, .int .i64 0] 33)).alloc (.cells #[.slice A n c, .int .i64 0, .int .u64 0] 62) := ⟨_, rfl⟩
  rw [← hW]
  have C0 : Cur W (w.heap.size + 1) A n c 0 := by
    have := Cur.new (w := w.alloc (.cells #[.int .i64 0, .int .i64 0] 33)) (A := A) (n := n) c 62 ((h.below ((Below.refl _ _).alloc (Nat.le_refl _) _)).more (by simp))
    rw [World.size_alloc] at this
    rw [hW]; exact this
  have B0 : Below w.heap.size w W := by rw [hW]; exact ((Below.refl _ _).alloc (Nat.le_refl _) _).alloc (by simp) _
  have X0 : RX W w.heap.size := ⟨by rw [hW]; simp [go_sem], by rw [hW]; simp [go_sem], by rw [hW]; simp [go_sem], by rw [hW]; simp [go_sem]⟩
  have sW : W.heap.size = w.heap.size + 1 + 1 := by rw [hW]; simp
  clear hW h
  obtain ⟨b, hb⟩ : ∃ b, b = w.heap.size + 1 := ⟨_, rfl⟩
  rw [← hb] at C0 ⊢
  have lb : w.heap.size < b := by omega
  have lW : b < W.heap.size := by omega
  have nR : some b ≠ some w.heap.size := fun e => by have := Option.some.inj e; omega
  clear hb sW
  go_wp2_with fail
  refine (zoneRule_c b A n c 0 W C0 (by omega)).mono ?_
  rintro e w2 ⟨L, M, hL, hM, rfl, C2, g2⟩
  have X2 := X0.far g2 nR
  have B2 := below_grown (Nat.le_refl _) B0 g2 (by omega)
  have z2 := g2.size
  go_upto_region 3 with (fail)
  obtain ⟨W2, hW2⟩ : ∃ X, X = w2.alloc (.cells #[.int .i64 L, .int .i64 M] 33) := ⟨_, rfl⟩
  rw [← hW2]
  have C3 : Cur W2 b A n c 20 := by rw [hW2]; exact (C2.alloc _).weak (by omega)
  have X3 : RX W2 w.heap.size := by rw [hW2]; exact X2.alloc _
  have N3 : W2.cell? ⟨w2.heap.size, 0, none⟩ = some (.int .i64 L) ∧ W2.cell? ⟨w2.heap.size, 1, none⟩ = some (.int .i64 M) := by rw [hW2]; exact ⟨World.cell?_alloc_new w2 _ _ 0, World.cell?_alloc_new w2 _ _ 1⟩
  have B3 : Below w.heap.size w W2 := by rw [hW2]; exact B2.alloc (by have := B2.size; omega) _
  have hpr : ¬ w2.heap.size = w.heap.size := by omega
  have hpb : w2.heap.size ≠ b := by omega
  clear hW2 C0 C2 X0 X2 B0 B2 g2 z2
  generalize w2.heap.size = p at *
  obtain ⟨r0, r1, h0, h1⟩ := id X3
  go_region_held3 (fun w' => w'.cell? ⟨p, 0, none⟩ = some (.int .i64 L) ∧ w'.cell? ⟨p, 1, none⟩ = some (.int .i64 M))
    (first
      | with_reducible assumption
      | ((with_reducible refine n2_set ?_ hpr); with_reducible assumption)
      | (with_reducible exact n2_adrew (by assumption) _)
      | (with_reducible exact n2_alloc (by assumption) _)
      | (with_reducible exact n2_drew N3)
      | fail)
    (first | (go_at_call 60; (with_reducible refine (pick_c b A n c 20 24 _ (C3.drew) (by omega) (by omega)).mono ?_); rintro e w4 ⟨y, y0, y1, rfl, C4, g4'⟩; have g4 := grown_undrew g4'; have X4 := X3.far g4 nR; have N4 := n2_far N3 g4 hpb; have B4 := below_grown (Nat.le_refl _) B3 g4 (by omega); clear r0 r1 h0 h1; obtain ⟨r0, r1, h0, h1⟩ := id X4; obtain ⟨k, hk, hkb⟩ : ∃ k : Nat, y.tdiv 11 = k ∧ k ≤ 2 := ⟨(y / 11).toNat, (by rw [Int.tdiv_eq_ediv_of_nonneg y0]; omega), (by omega)⟩; have sa : IntKind.i64.wrap (k : Int) = (k : Int) := IntWalk.i64_in _ (by omega); obtain ⟨q, sq⟩ : ∃ q : Nat, q = 5 + k := ⟨_, rfl⟩; have sb : IntKind.i64.wrap (5 + (k : Int)) = (q : Int) := (by rw [sq]; exact IntWalk.i64_in _ (by omega)); have sc : (0 : Int) ≤ (q : Int) := (by omega); have sd : (q : Int) ≤ 7 := (by omega); have se : 0 < q := (by omega); have sf : q ≤ 7 := (by omega); clear sq y0 y1) | (go_at_call 60; (with_reducible refine (pick_c b A n c 20 24 _ ((C3.alloc _).drew) (by omega) (by omega)).mono ?_); rintro e w4 ⟨y, y0, y1, rfl, C4, g4'⟩; have g4 := grown_trans (World.grownBy_alloc W2 _ (some b)) (grown_undrew g4'); have HC := Lib.hid (lits_far [0, 5, 40, 300, 1000, -1, 1001] (grown_undrew g4') C3.lt (by rfl)); have hqb := C3.lt; have hqs := (grown_undrew g4').size; have X4 := X3.far g4 nR; have N4 := n2_far N3 g4 hpb; have B4 := below_grown (Nat.le_refl _) B3 g4 (by omega); clear r0 r1 h0 h1; obtain ⟨r0, r1, h0, h1⟩ := id X4; obtain ⟨k, hk, hkb⟩ : ∃ k : Nat, y.tdiv 11 = k ∧ k ≤ 2 := ⟨(y / 11).toNat, (by rw [Int.tdiv_eq_ediv_of_nonneg y0]; omega), (by omega)⟩; have sa : IntKind.i64.wrap (k : Int) = (k : Int) := IntWalk.i64_in _ (by omega); obtain ⟨q, sq⟩ : ∃ q : Nat, q = 5 + k := ⟨_, rfl⟩; have sb : IntKind.i64.wrap (5 + (k : Int)) = (q : Int) := (by rw [sq]; exact IntWalk.i64_in _ (by omega)); have sc : (0 : Int) ≤ (q : Int) := (by omega); have sd : (q : Int) ≤ 7 := (by omega); have se : 0 < q := (by omega); have sf : q ≤ 7 := (by omega); clear sq y0 y1) | (go_at_call 59; (with_reducible refine (amongT_c b A n c 22 [0, 5, 40, 300, 1000, -1, 1001] w4 C4 _ q 7 (by omega) (Nat.ne_of_gt hqb) (by rw [World.size_alloc] at hqs; omega) HC.out se (by simpa using sf) (by simp)).mono ?_); rintro e w5 ⟨x, hx, rfl, C5, g5⟩; have X5 := X4.far g5 nR; have N5 := n2_far N4 g5 hpb; have B5 := below_grown (Nat.le_refl _) B4 g5 (by omega); clear r0 r1 h0 h1; obtain ⟨r0, r1, h0, h1⟩ := id X5) | (go_at_call 59; (with_reducible refine (amongT_c b A n c 22 [0, 5, 40, 300, 1000, -1, 1001] _ (C4.alloc _) w4.heap.size q 7 (by omega) (by have := C4.lt; omega) (by simp) (lits_newZ [0, 5, 40, 300, 1000, -1, 1001] (by simp)) se (by simpa using sf) (by simp)).mono ?_); rintro e w5 ⟨x, hx, rfl, C5, g5'⟩; have g5 := grown_trans (World.grownBy_alloc w4 _ (some b)) g5'; have X5 := X4.far g5 nR; have N5 := n2_far N4 g5 hpb; have B5 := below_grown (Nat.le_refl _) B4 g5 (by omega); clear r0 r1 h0 h1; obtain ⟨r0, r1, h0, h1⟩ := id X5) | (go_at_call 58; (with_reducible refine (level12_c b A n c 24 _ C5 (by omega)).mono ?_); rintro e w6 ⟨z, zb, rfl, C6, g6⟩; have X6 := X5.far g6 nR; have N6 := n2_far N5 g6 hpb; have B6 := below_grown (Nat.le_refl _) B5 g6 (by omega); clear r0 r1 h0 h1; obtain ⟨r0, r1, h0, h1⟩ := id X6))
  all_goals
    have xb : -1 ≤ x ∧ x ≤ 1001 := by simp at hx; omega
    have NN := n2_set N6 (v0 := .int .i64 L) (v1 := .int .i64 M) hpr
    clear C3 C4 C5 C6 N3 N4 N5 N6 X3 X4 X5 X6 B3 B4 B5 g4 g5 g6 g4' hx NN
    go_wp2
    refine bodyPost_ret (v := .tuple #[.int .i64 x, .agg #[.int .i64 L, .int .i64 M], .int .i64 z]) (by simp (maxDischargeDepth := 8) [results, Try.results31, go_sem, *]) rfl ?_
    exact ⟨x, L, M, z, rfl, xb, ⟨hL, hM⟩, zb, by (repeat' (first | (with_reducible exact Below.refl _ _) | (with_reducible assumption) | (with_reducible refine below_drewN ?_ _) | (with_reducible refine Below.alloc ?_ ?_ _) | (with_reducible refine Below.drew ?_) | (with_reducible refine Below.setCell ?_ ?_ _) | go_size))⟩
/-- What a reducer takes off. -/
def redR (x L M h : Int) : Int × Bool := if inB x 0 1000 && (goodR L M && (inB h 0 2000 && decide (L ≤ h - x))) then (maxI 0 (h - x - M), true) else (0, false)
theorem redR_no1 {x L M h : Int} (e : inB x 0 1000 = false) : redR x L M h = (0, false) := by unfold redR; rw [e]; rfl
theorem redR_no2 {x L M h : Int} (e : goodR L M = false) : redR x L M h = (0, false) := by unfold redR; rw [e]; simp
theorem redR_no3 {x L M h : Int} (e : inB h 0 2000 = false) : redR x L M h = (0, false) := by unfold redR; rw [e]; simp
theorem redR_no4 {x L M h : Int} (e : h - x < L) : redR x L M h = (0, false) := by unfold redR; rw [decide_eq_false (show ¬ L ≤ h - x by omega)]; simp
theorem redR_yes {x L M h : Int} (e1 : inB x 0 1000 = true) (e2 : goodR L M = true) (e3 : inB h 0 2000 = true) (e4 : ¬ h - x < L) : redR x L M h = (maxI 0 (h - x - M), true) := by unfold redR; rw [e1, e2, e3, decide_eq_true (show L ≤ h - x by omega)]; rfl
theorem redR_law {x L M h k : Int} (e : redR x L M h = (k, true)) : L ≤ h - x - k ∧ h - x - k ≤ M ∧ 0 ≤ k ∧ (0 < k → h - x - k = M) ∧ k ≤ 2000 := by
  unfold redR at e
  split at e
  case isFalse => cases e
  rename_i c
  simp only [Bool.and_eq_true, decide_eq_true_eq] at c
  obtain ⟨c1, c2, c3, c4⟩ := c
  obtain ⟨r1, r2, r3⟩ := goodR_out c2
  have b1 := inB_out c1
  have b3 := inB_out c3
  simp only [Prod.mk.injEq, and_true] at e
  unfold maxI at e
  split at e <;> omega
theorem max_zero (a b : Int) (h : a ≤ b) : maxI a b = b := maxI_le h
set_option maxHeartbeats 2000000 in
theorem implRed_c (x L M h : Int) (w : World) (hx : -2000 ≤ x ∧ x ≤ 2000) (hM : 0 ≤ M ∧ M ≤ 300) (hh : -2000 ≤ h ∧ h ≤ 3000) : Calls Try.prog 32 #[.int .i64 x, .agg #[.int .i64 L, .int .i64 M], .int .i64 h] w fun e w' => e = .returned (.tuple #[.int .i64 (redR x L M h).1, .bool (redR x L M h).2]) ∧ Below w.heap.size w w' := by
  have W1 : IntKind.i64.wrap (h - x) = h - x := IntWalk.i64_in _ (by omega)
  have W2 : IntKind.i64.wrap (h - x - M) = h - x - M := IntWalk.i64_in _ (by omega)
  have RC := fun s => implRule_c L M s
  have IX := fun s => inside_c x 0 1000 s
  have IH := fun s => isZoneLevel_c h s
  cases e1 : inB x 0 1000
  · rw [redR_no1 e1]
    rw [e1] at IX
    have IXH := Lib.hid IX
    clear IX RC IH e1
    go_enter Try.func32, Try.ntmps32
    go_wp2_with (go_at_call 47; refine (IXH.out _).mono ?_; rintro e w' ⟨rfl, rfl⟩)
    (go_returns; exact ⟨by first | rfl | (simp; done) | (simp; omega), by (repeat' (first | (with_reducible exact Below.refl _ _) | (with_reducible assumption) | (with_reducible refine below_drewN ?_ _) | (with_reducible refine Below.alloc ?_ ?_ _) | (with_reducible refine Below.drew ?_) | (with_reducible refine Below.setCell ?_ ?_ _) | go_size))⟩)
  rw [e1] at IX
  have IXH := Lib.hid IX
  cases e2 : goodR L M
  · rw [redR_no2 e2]
    rw [e2] at RC
    have RCH := Lib.hid RC
    clear IX RC IH e1 e2
    go_enter Try.func32, Try.ntmps32
    go_wp2_with (first | (go_at_call 47; refine (IXH.out _).mono ?_; rintro e w' ⟨rfl, rfl⟩) | (go_at_call 41; refine (RCH.out _).mono ?_; rintro e w1 ⟨rfl, hb1⟩; have hz1 := hb1.size; (repeat (first | rw [World.size_alloc] at hz1 | rw [World.size_drew] at hz1 | rw [World.heap_drewN] at hz1 | rw [World.size_setCell] at hz1)); have hB : Below w.heap.size w w1 := Below.trans (by (repeat' (first | (with_reducible exact Below.refl _ _) | (with_reducible assumption) | (with_reducible refine below_drewN ?_ _) | (with_reducible refine Below.alloc ?_ ?_ _) | (with_reducible refine Below.drew ?_) | (with_reducible refine Below.setCell ?_ ?_ _) | go_size))) (hb1.mono (by go_size)); have hL1 := hb1; clear hb1; obtain ⟨hc1, hf1⟩ := bcell hL1))
    (go_returns; exact ⟨by first | rfl | (simp; done) | (simp; omega), by (repeat' (first | (with_reducible exact Below.refl _ _) | (with_reducible assumption) | (with_reducible refine below_drewN ?_ _) | (with_reducible refine Below.alloc ?_ ?_ _) | (with_reducible refine Below.drew ?_) | (with_reducible refine Below.setCell ?_ ?_ _) | go_size))⟩)
  rw [e2] at RC
  have RCH := Lib.hid RC
  cases e3 : inB h 0 2000
  · rw [redR_no3 e3]
    rw [e3] at IH
    have IHH := Lib.hid IH
    clear IX RC IH e1 e2 e3
    go_enter Try.func32, Try.ntmps32
    go_wp2_with (first | (go_at_call 47; refine (IXH.out _).mono ?_; rintro e w' ⟨rfl, rfl⟩) | (go_at_call 41; refine (RCH.out _).mono ?_; rintro e w1 ⟨rfl, hb1⟩; have hz1 := hb1.size; (repeat (first | rw [World.size_alloc] at hz1 | rw [World.size_drew] at hz1 | rw [World.heap_drewN] at hz1 | rw [World.size_setCell] at hz1)); have hB : Below w.heap.size w w1 := Below.trans (by (repeat' (first | (with_reducible exact Below.refl _ _) | (with_reducible assumption) | (with_reducible refine below_drewN ?_ _) | (with_reducible refine Below.alloc ?_ ?_ _) | (with_reducible refine Below.drew ?_) | (with_reducible refine Below.setCell ?_ ?_ _) | go_size))) (hb1.mono (by go_size)); have hL1 := hb1; clear hb1; obtain ⟨hc1, hf1⟩ := bcell hL1) | (go_at_call 45; refine (IHH.out _).mono ?_; rintro e w' ⟨rfl, rfl⟩))
    (go_returns; exact ⟨by first | rfl | (simp; done) | (simp; omega), by (repeat' (first | (with_reducible exact Below.refl _ _) | (with_reducible assumption) | (with_reducible refine below_drewN ?_ _) | (with_reducible refine Below.alloc ?_ ?_ _) | (with_reducible refine Below.drew ?_) | (with_reducible refine Below.setCell ?_ ?_ _) | go_size))⟩)
  rw [e3] at IH
  have IHH := Lib.hid IH
  by_cases e4 : h - x < L
  · rw [redR_no4 e4]
    have d4 : decide (h - x < L) = true := decide_eq_true e4
    clear IX RC IH e1 e2 e3 e4
    go_enter Try.func32, Try.ntmps32
    go_wp2_with (first | (go_at_call 47; refine (IXH.out _).mono ?_; rintro e w' ⟨rfl, rfl⟩) | (go_at_call 41; refine (RCH.out _).mono ?_; rintro e w1 ⟨rfl, hb1⟩; have hz1 := hb1.size; (repeat (first | rw [World.size_alloc] at hz1 | rw [World.size_drew] at hz1 | rw [World.heap_drewN] at hz1 | rw [World.size_setCell] at hz1)); have hB : Below w.heap.size w w1 := Below.trans (by (repeat' (first | (with_reducible exact Below.refl _ _) | (with_reducible assumption) | (with_reducible refine below_drewN ?_ _) | (with_reducible refine Below.alloc ?_ ?_ _) | (with_reducible refine Below.drew ?_) | (with_reducible refine Below.setCell ?_ ?_ _) | go_size))) (hb1.mono (by go_size)); have hL1 := hb1; clear hb1; obtain ⟨hc1, hf1⟩ := bcell hL1) | (go_at_call 45; refine (IHH.out _).mono ?_; rintro e w' ⟨rfl, rfl⟩))
    (go_returns; exact ⟨by first | rfl | (simp; done) | (simp; omega), by (repeat' (first | (with_reducible exact Below.refl _ _) | (with_reducible assumption) | (with_reducible refine below_drewN ?_ _) | (with_reducible refine Below.alloc ?_ ?_ _) | (with_reducible refine Below.drew ?_) | (with_reducible refine Below.setCell ?_ ?_ _) | go_size))⟩)
  · rw [redR_yes e1 e2 e3 e4]
    have d4 : decide (h - x < L) = false := decide_eq_false e4
    clear IX RC IH e1 e2 e3 e4
    by_cases e5 : h - x - M ≤ 0
    · rw [show maxI 0 (h - x - M) = 0 by unfold maxI; split <;> omega]
      go_enter Try.func32, Try.ntmps32
      go_wp2_with (first | (go_at_call 47; refine (IXH.out _).mono ?_; rintro e w' ⟨rfl, rfl⟩) | (go_at_call 41; refine (RCH.out _).mono ?_; rintro e w1 ⟨rfl, hb1⟩; have hz1 := hb1.size; (repeat (first | rw [World.size_alloc] at hz1 | rw [World.size_drew] at hz1 | rw [World.heap_drewN] at hz1 | rw [World.size_setCell] at hz1)); have hB : Below w.heap.size w w1 := Below.trans (by (repeat' (first | (with_reducible exact Below.refl _ _) | (with_reducible assumption) | (with_reducible refine below_drewN ?_ _) | (with_reducible refine Below.alloc ?_ ?_ _) | (with_reducible refine Below.drew ?_) | (with_reducible refine Below.setCell ?_ ?_ _) | go_size))) (hb1.mono (by go_size)); have hL1 := hb1; clear hb1; obtain ⟨hc1, hf1⟩ := bcell hL1) | (go_at_call 45; refine (IHH.out _).mono ?_; rintro e w' ⟨rfl, rfl⟩))
      all_goals
        go_returns
        exact ⟨by first | rfl | (simp; done) | (simp; omega), by (repeat' (first | (with_reducible exact Below.refl _ _) | (with_reducible assumption) | (with_reducible refine below_drewN ?_ _) | (with_reducible refine Below.alloc ?_ ?_ _) | (with_reducible refine Below.drew ?_) | (with_reducible refine Below.setCell ?_ ?_ _) | go_size))⟩
    · rw [show maxI 0 (h - x - M) = h - x - M by unfold maxI; split <;> omega]
      go_enter Try.func32, Try.ntmps32
      go_wp2_with (first | (go_at_call 47; refine (IXH.out _).mono ?_; rintro e w' ⟨rfl, rfl⟩) | (go_at_call 41; refine (RCH.out _).mono ?_; rintro e w1 ⟨rfl, hb1⟩; have hz1 := hb1.size; (repeat (first | rw [World.size_alloc] at hz1 | rw [World.size_drew] at hz1 | rw [World.heap_drewN] at hz1 | rw [World.size_setCell] at hz1)); have hB : Below w.heap.size w w1 := Below.trans (by (repeat' (first | (with_reducible exact Below.refl _ _) | (with_reducible assumption) | (with_reducible refine below_drewN ?_ _) | (with_reducible refine Below.alloc ?_ ?_ _) | (with_reducible refine Below.drew ?_) | (with_reducible refine Below.setCell ?_ ?_ _) | go_size))) (hb1.mono (by go_size)); have hL1 := hb1; clear hb1; obtain ⟨hc1, hf1⟩ := bcell hL1) | (go_at_call 45; refine (IHH.out _).mono ?_; rintro e w' ⟨rfl, rfl⟩))
      all_goals
        go_returns
        exact ⟨by first | rfl | (simp; done) | (simp; omega), by (repeat' (first | (with_reducible exact Below.refl _ _) | (with_reducible assumption) | (with_reducible refine below_drewN ?_ _) | (with_reducible refine Below.alloc ?_ ?_ _) | (with_reducible refine Below.drew ?_) | (with_reducible refine Below.setCell ?_ ?_ _) | go_size))⟩
set_option maxHeartbeats 2000000 in
theorem specRed_c (x L M h : Int) (w : World) (hx : -2000 ≤ x ∧ x ≤ 2000) (hM : 0 ≤ M ∧ M ≤ 300) (hh : -2000 ≤ h ∧ h ≤ 3000) : Calls Try.prog 33 #[.int .i64 x, .agg #[.int .i64 L, .int .i64 M], .int .i64 h] w fun e w' => e = .returned (.tuple #[.int .i64 (redR x L M h).1, .bool (redR x L M h).2]) ∧ Below w.heap.size w w' := by
  have W1 : IntKind.i64.wrap (h - x) = h - x := IntWalk.i64_in _ (by omega)
  have W2 : IntKind.i64.wrap (h - x - M) = h - x - M := IntWalk.i64_in _ (by omega)
  have RC := fun s => l12Rule_c L M s
  have IX := fun s => l12Elevation_c x s
  have IH := fun s => l12Level_c h s
  cases e1 : inB x 0 1000
  · rw [redR_no1 e1]
    rw [e1] at IX
    have IXH := Lib.hid IX
    clear IX RC IH e1
    go_enter Try.func33, Try.ntmps33
    go_wp2_with (go_at_call 61; refine (IXH.out _).mono ?_; rintro e w' ⟨rfl, rfl⟩)
    (go_returns; exact ⟨by first | rfl | (simp; done) | (simp; omega), by (repeat' (first | (with_reducible exact Below.refl _ _) | (with_reducible assumption) | (with_reducible refine below_drewN ?_ _) | (with_reducible refine Below.alloc ?_ ?_ _) | (with_reducible refine Below.drew ?_) | (with_reducible refine Below.setCell ?_ ?_ _) | go_size))⟩)
  rw [e1] at IX
  have IXH := Lib.hid IX
  cases e2 : goodR L M
  · rw [redR_no2 e2]
    rw [e2] at RC
    have RCH := Lib.hid RC
    clear IX RC IH e1 e2
    go_enter Try.func33, Try.ntmps33
    go_wp2_with (first | (go_at_call 61; refine (IXH.out _).mono ?_; rintro e w' ⟨rfl, rfl⟩) | (go_at_call 62; refine (RCH.out _).mono ?_; rintro e w1 ⟨rfl, hb1⟩; have hz1 := hb1.size; (repeat (first | rw [World.size_alloc] at hz1 | rw [World.size_drew] at hz1 | rw [World.heap_drewN] at hz1 | rw [World.size_setCell] at hz1)); have hB : Below w.heap.size w w1 := Below.trans (by (repeat' (first | (with_reducible exact Below.refl _ _) | (with_reducible assumption) | (with_reducible refine below_drewN ?_ _) | (with_reducible refine Below.alloc ?_ ?_ _) | (with_reducible refine Below.drew ?_) | (with_reducible refine Below.setCell ?_ ?_ _) | go_size))) (hb1.mono (by go_size)); have hL1 := hb1; clear hb1; obtain ⟨hc1, hf1⟩ := bcell hL1))
    (go_returns; exact ⟨by first | rfl | (simp; done) | (simp; omega), by (repeat' (first | (with_reducible exact Below.refl _ _) | (with_reducible assumption) | (with_reducible refine below_drewN ?_ _) | (with_reducible refine Below.alloc ?_ ?_ _) | (with_reducible refine Below.drew ?_) | (with_reducible refine Below.setCell ?_ ?_ _) | go_size))⟩)
  rw [e2] at RC
  have RCH := Lib.hid RC
  cases e3 : inB h 0 2000
  · rw [redR_no3 e3]
    rw [e3] at IH
    have IHH := Lib.hid IH
    clear IX RC IH e1 e2 e3
    go_enter Try.func33, Try.ntmps33
    go_wp2_with (first | (go_at_call 61; refine (IXH.out _).mono ?_; rintro e w' ⟨rfl, rfl⟩) | (go_at_call 62; refine (RCH.out _).mono ?_; rintro e w1 ⟨rfl, hb1⟩; have hz1 := hb1.size; (repeat (first | rw [World.size_alloc] at hz1 | rw [World.size_drew] at hz1 | rw [World.heap_drewN] at hz1 | rw [World.size_setCell] at hz1)); have hB : Below w.heap.size w w1 := Below.trans (by (repeat' (first | (with_reducible exact Below.refl _ _) | (with_reducible assumption) | (with_reducible refine below_drewN ?_ _) | (with_reducible refine Below.alloc ?_ ?_ _) | (with_reducible refine Below.drew ?_) | (with_reducible refine Below.setCell ?_ ?_ _) | go_size))) (hb1.mono (by go_size)); have hL1 := hb1; clear hb1; obtain ⟨hc1, hf1⟩ := bcell hL1) | (go_at_call 43; refine (IHH.out _).mono ?_; rintro e w' ⟨rfl, rfl⟩))
    (go_returns; exact ⟨by first | rfl | (simp; done) | (simp; omega), by (repeat' (first | (with_reducible exact Below.refl _ _) | (with_reducible assumption) | (with_reducible refine below_drewN ?_ _) | (with_reducible refine Below.alloc ?_ ?_ _) | (with_reducible refine Below.drew ?_) | (with_reducible refine Below.setCell ?_ ?_ _) | go_size))⟩)
  rw [e3] at IH
  have IHH := Lib.hid IH
  by_cases e4 : h - x < L
  · rw [redR_no4 e4]
    have d4 : decide (h - x < L) = true := decide_eq_true e4
    clear IX RC IH e1 e2 e3 e4
    go_enter Try.func33, Try.ntmps33
    go_wp2_with (first | (go_at_call 61; refine (IXH.out _).mono ?_; rintro e w' ⟨rfl, rfl⟩) | (go_at_call 62; refine (RCH.out _).mono ?_; rintro e w1 ⟨rfl, hb1⟩; have hz1 := hb1.size; (repeat (first | rw [World.size_alloc] at hz1 | rw [World.size_drew] at hz1 | rw [World.heap_drewN] at hz1 | rw [World.size_setCell] at hz1)); have hB : Below w.heap.size w w1 := Below.trans (by (repeat' (first | (with_reducible exact Below.refl _ _) | (with_reducible assumption) | (with_reducible refine below_drewN ?_ _) | (with_reducible refine Below.alloc ?_ ?_ _) | (with_reducible refine Below.drew ?_) | (with_reducible refine Below.setCell ?_ ?_ _) | go_size))) (hb1.mono (by go_size)); have hL1 := hb1; clear hb1; obtain ⟨hc1, hf1⟩ := bcell hL1) | (go_at_call 43; refine (IHH.out _).mono ?_; rintro e w' ⟨rfl, rfl⟩))
    (go_returns; exact ⟨by first | rfl | (simp; done) | (simp; omega), by (repeat' (first | (with_reducible exact Below.refl _ _) | (with_reducible assumption) | (with_reducible refine below_drewN ?_ _) | (with_reducible refine Below.alloc ?_ ?_ _) | (with_reducible refine Below.drew ?_) | (with_reducible refine Below.setCell ?_ ?_ _) | go_size))⟩)
  · rw [redR_yes e1 e2 e3 e4]
    have d4 : decide (h - x < L) = false := decide_eq_false e4
    clear IX RC IH e1 e2 e3 e4
    go_enter Try.func33, Try.ntmps33
    go_wp2_with (first | (go_at_call 61; refine (IXH.out _).mono ?_; rintro e w' ⟨rfl, rfl⟩) | (go_at_call 62; refine (RCH.out _).mono ?_; rintro e w1 ⟨rfl, hb1⟩; have hz1 := hb1.size; (repeat (first | rw [World.size_alloc] at hz1 | rw [World.size_drew] at hz1 | rw [World.heap_drewN] at hz1 | rw [World.size_setCell] at hz1)); have hB : Below w.heap.size w w1 := Below.trans (by (repeat' (first | (with_reducible exact Below.refl _ _) | (with_reducible assumption) | (with_reducible refine below_drewN ?_ _) | (with_reducible refine Below.alloc ?_ ?_ _) | (with_reducible refine Below.drew ?_) | (with_reducible refine Below.setCell ?_ ?_ _) | go_size))) (hb1.mono (by go_size)); have hL1 := hb1; clear hb1; obtain ⟨hc1, hf1⟩ := bcell hL1) | (go_at_call 43; refine (IHH.out _).mono ?_; rintro e w' ⟨rfl, rfl⟩) | (go_at_call 52; refine (l1Most_c _ _ _).mono ?_; rintro e w' ⟨rfl, rfl⟩))
    (go_returns; exact ⟨by first | rfl | (simp; done) | (simp; omega), by (repeat' (first | (with_reducible exact Below.refl _ _) | (with_reducible assumption) | (with_reducible refine below_drewN ?_ _) | (with_reducible refine Below.alloc ?_ ?_ _) | (with_reducible refine Below.drew ?_) | (with_reducible refine Below.setCell ?_ ?_ _) | go_size))⟩)
end Go.Proofs.Ytakpoalcfjedlaa
