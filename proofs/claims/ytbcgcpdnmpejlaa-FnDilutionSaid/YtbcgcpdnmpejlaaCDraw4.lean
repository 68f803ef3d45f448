/- Contracts: what the great law on dilution draws. -/
import Derived.Test.YtbcgcpdnmpejlaaCDraw2
import Derived.Test.YtbcgcpdnmpejlaaCTake
namespace Go.Proofs.Ytbcgcpdnmpejlaa
open Go.RowKit

set_option maxHeartbeats 2000000 in
theorem drawDil_c (A : Option Addr) (n c : Nat) (w : World) (h : RdB w w.heap.size A n) :
    Calls Try.prog 39 #[.slice A n c] w fun e w' => ∃ V N D m : Int, (0 ≤ m ∧ m ≤ 10001) ∧ e = .returned (.tuple #[.agg #[.int .i64 V, .int .i64 N, .int .i64 D], .int .i64 m]) ∧ Below w.heap.size w w' := by
  go_enter Try.func39, Try.ntmps39
  go_wp2_with fail
  obtain ⟨W0, hW0⟩ : ∃ W, W = w.alloc (.cells #[.int .i64 0, .int .i64 0, .int .i64 0] 25) := ⟨_, rfl⟩
  obtain ⟨W, hW⟩ : ∃ W, W = W0.alloc (.cells #[.slice A n c, .int .i64 0, .int .u64 0] 71) := ⟨_, rfl⟩
  rw [← hW0, ← hW]
  have B0 : Below w.heap.size w W := by rw [hW, hW0]; exact ((Below.refl _ _).alloc (Nat.le_refl _) _).alloc (by simp only [World.size_alloc]; omega) _
  have sb : W0.heap.size = w.heap.size + 1 := by rw [hW0]; simp
  have C0 : Cur W W0.heap.size A n c 0 := by rw [hW]; exact Cur.new _ _ (by rw [sb, hW0]; exact (h.below ((Below.refl _ _).alloc (Nat.le_refl _) _)).more (by omega))
  have rB0 : Box3 W w.heap.size 0 0 0 := by rw [hW, hW0]; exact (Box3.new _ _ _ _ _).alloc _
  rw [sb] at C0
  clear hW hW0 sb h
  obtain ⟨b, hb⟩ : ∃ b, b = w.heap.size + 1 := ⟨_, rfl⟩
  rw [← hb] at C0 ⊢
  have hb1 : w.heap.size ≤ b := by omega
  have hrb : w.heap.size ≠ b := by omega
  clear hb
  refine (content_c b A n c 0 W C0 (by omega)).mono ?_
  rintro e w1 ⟨V, N, D, rfl, C1, g1⟩
  have G1 := below_grown (Nat.le_refl _) B0 g1 hb1
  have rB1 := rB0.far' g1 hrb
  clear g1 C0 B0 rB0
  go_wp2_with fail
  obtain ⟨W2, hW2⟩ : ∃ W, W = w1.alloc (.cells #[.int .i64 V, .int .i64 N, .int .i64 D] 25) := ⟨_, rfl⟩
  rw [← hW2]
  have C2 : Cur W2 b A n c 16 := by rw [hW2]; exact C1.alloc _
  have rB2 : Box3 W2 w.heap.size 0 0 0 := by rw [hW2]; exact rB1.alloc _
  have pB2 : Box3 W2 w1.heap.size V N D := by rw [hW2]; exact Box3.new _ _ _ _ _
  have G2 : Below w.heap.size w W2 := by rw [hW2]; exact G1.alloc G1.size _
  have hpb : w1.heap.size ≠ b := by have := C1.lt; omega
  have hrp : ¬ w.heap.size = w1.heap.size := by have := rB1.lt; omega
  have hpr : ¬ w1.heap.size = w.heap.size := by omega
  clear hW2 C1 G1 rB1
  generalize w1.heap.size = p at *
  have rB := rB2
  have pB := pB2
  clear rB2 pB2
  have CC := C2
  have GG := G2
  clear C2 G2
  obtain ⟨⟨r0, r1, r2⟩, fr0, fr1, fr2⟩ := id rB
  obtain ⟨⟨p0, p1, p2⟩, fp0, fp1, fp2⟩ := id pB
  go_region_held3 (fun w' => w'.cell? ⟨p, 0, none⟩ = some (.int .i64 V) ∧ w'.cell? ⟨p, 1, none⟩ = some (.int .i64 N) ∧ w'.cell? ⟨p, 2, none⟩ = some (.int .i64 D)) (simp (maxDischargeDepth := 3) [*, go_sem]) (first | (go_at_call 64; (with_reducible refine (pick_c b A n c 16 24 _ ((CC.alloc _).drew) (by omega) (by omega)).mono ?_); rintro e w4 ⟨y, y0, y1, rfl, C4, g4⟩; replace g4 := grown_undrew g4; clear r0 r1 r2 fr0 fr1 fr2 p0 p1 p2 fp0 fp1 fp2; replace rB := (rB.alloc _).far' g4 hrb; replace pB := (pB.alloc _).far' g4 hpb; obtain ⟨⟨r0, r1, r2⟩, fr0, fr1, fr2⟩ := id rB; obtain ⟨⟨p0, p1, p2⟩, fp0, fp1, fp2⟩ := id pB; have HC := Lib.hid (lits_far [1, 2, 10, 100, 10000, 0, 10001] g4 CC.lt rfl); have hbq := CC.lt; replace GG := below_grown (Nat.le_refl _) ((GG).alloc GG.size _) g4 hb1; replace CC := C4; clear g4 C4; obtain ⟨k, hk, hkb⟩ : ∃ k : Nat, y.tdiv 11 = k ∧ k ≤ 2 := ⟨(y / 11).toNat, (by rw [Int.tdiv_eq_ediv_of_nonneg y0]; omega), (by omega)⟩; have sa : IntKind.i64.wrap (k : Int) = (k : Int) := IntWalk.i64_in _ (by omega); obtain ⟨q, sq⟩ : ∃ q : Nat, q = 5 + k := ⟨_, rfl⟩; have sb : IntKind.i64.wrap (5 + (k : Int)) = (q : Int) := (by rw [sq]; exact IntWalk.i64_in _ (by omega)); have sc : (0 : Int) ≤ (q : Int) := (by omega); have sd : (q : Int) ≤ 7 := (by omega); have se : 0 < q := (by omega); have sf : q ≤ 7 := (by omega); clear sq y0 y1) | (go_at_call 64; replace HC := HC.out; (with_reducible refine (pick_c b A n c 16 24 _ (CC.drew) (by omega) (by omega)).mono ?_); rintro e w4 ⟨y, y0, y1, rfl, C4, g4⟩; replace g4 := grown_undrew g4; clear r0 r1 r2 fr0 fr1 fr2 p0 p1 p2 fp0 fp1 fp2; replace rB := (rB).far' g4 hrb; replace pB := (pB).far' g4 hpb; obtain ⟨⟨r0, r1, r2⟩, fr0, fr1, fr2⟩ := id rB; obtain ⟨⟨p0, p1, p2⟩, fp0, fp1, fp2⟩ := id pB; replace HC := Lib.hid (fun j hj => far_cell g4 (HC j hj) hbq); replace GG := below_grown (Nat.le_refl _) GG g4 hb1; replace CC := C4; clear g4 C4; obtain ⟨k, hk, hkb⟩ : ∃ k : Nat, y.tdiv 11 = k ∧ k ≤ 2 := ⟨(y / 11).toNat, (by rw [Int.tdiv_eq_ediv_of_nonneg y0]; omega), (by omega)⟩; have sa : IntKind.i64.wrap (k : Int) = (k : Int) := IntWalk.i64_in _ (by omega); obtain ⟨q, sq⟩ : ∃ q : Nat, q = 5 + k := ⟨_, rfl⟩; have sb : IntKind.i64.wrap (5 + (k : Int)) = (q : Int) := (by rw [sq]; exact IntWalk.i64_in _ (by omega)); have sc : (0 : Int) ≤ (q : Int) := (by omega); have sd : (q : Int) ≤ 7 := (by omega); have se : 0 < q := (by omega); have sf : q ≤ 7 := (by omega); clear sq y0 y1) | (go_at_call 64; (with_reducible refine (pick_c b A n c 16 24 _ (CC.drew) (by omega) (by omega)).mono ?_); rintro e w4 ⟨y, y0, y1, rfl, C4, g4⟩; replace g4 := grown_undrew g4; clear r0 r1 r2 fr0 fr1 fr2 p0 p1 p2 fp0 fp1 fp2; replace rB := (rB).far' g4 hrb; replace pB := (pB).far' g4 hpb; obtain ⟨⟨r0, r1, r2⟩, fr0, fr1, fr2⟩ := id rB; obtain ⟨⟨p0, p1, p2⟩, fp0, fp1, fp2⟩ := id pB; replace GG := below_grown (Nat.le_refl _) GG g4 hb1; replace CC := C4; clear g4 C4; obtain ⟨k, hk, hkb⟩ : ∃ k : Nat, y.tdiv 11 = k ∧ k ≤ 2 := ⟨(y / 11).toNat, (by rw [Int.tdiv_eq_ediv_of_nonneg y0]; omega), (by omega)⟩; have sa : IntKind.i64.wrap (k : Int) = (k : Int) := IntWalk.i64_in _ (by omega); obtain ⟨q, sq⟩ : ∃ q : Nat, q = 5 + k := ⟨_, rfl⟩; have sb : IntKind.i64.wrap (5 + (k : Int)) = (q : Int) := (by rw [sq]; exact IntWalk.i64_in _ (by omega)); have sc : (0 : Int) ≤ (q : Int) := (by omega); have sd : (q : Int) ≤ 7 := (by omega); have se : 0 < q := (by omega); have sf : q ≤ 7 := (by omega); clear sq y0 y1) | (go_at_call 63; have hc := HC.out; have hl := lt_of_cell (w := w4) (by rw [hc 0 (by simp)]; rfl); (with_reducible refine (amongT_c b A n c 18 [1, 2, 10, 100, 10000, 0, 10001] w4 CC _ q 7 (by omega) (Nat.ne_of_gt hbq) hl hc se (by simpa using sf) (by simp)).mono ?_); clear hc hl; rintro e w5 ⟨z, hz, rfl, C5, g5⟩; have bz : 0 ≤ z ∧ z ≤ 10001 := (by simp at hz; omega); clear r0 r1 r2 fr0 fr1 fr2 p0 p1 p2 fp0 fp1 fp2; replace rB := (rB).far' g5 hrb; replace pB := (pB).far' g5 hpb; obtain ⟨⟨r0, r1, r2⟩, fr0, fr1, fr2⟩ := id rB; obtain ⟨⟨p0, p1, p2⟩, fp0, fp1, fp2⟩ := id pB; replace GG := below_grown (Nat.le_refl _) GG g5 hb1; replace CC := C5; clear g5 C5 HC hbq hz hk hkb sa sb sc sd se sf) | (go_at_call 63; (with_reducible refine (amongT_c b A n c 18 [1, 2, 10, 100, 10000, 0, 10001] _ (CC.alloc _) w4.heap.size q 7 (by omega) (by have := CC.lt; omega) (by simp) (lits_new [1, 2, 10, 100, 10000, 0, 10001] (by simp)) se (by simpa using sf) (by simp)).mono ?_); rintro e w5 ⟨z, hz, rfl, C5, g5⟩; have bz : 0 ≤ z ∧ z ≤ 10001 := (by simp at hz; omega); clear r0 r1 r2 fr0 fr1 fr2 p0 p1 p2 fp0 fp1 fp2; replace rB := (rB.alloc _).far' g5 hrb; replace pB := (pB.alloc _).far' g5 hpb; obtain ⟨⟨r0, r1, r2⟩, fr0, fr1, fr2⟩ := id rB; obtain ⟨⟨p0, p1, p2⟩, fp0, fp1, fp2⟩ := id pB; replace GG := below_grown (Nat.le_refl _) (GG.alloc GG.size _) g5 hb1; replace CC := C5; clear g5 C5 hz hk hkb sa sb sc sd se sf))
  all_goals
    go_wp2
    go_light
    refine bodyPost_ret (v := .tuple #[.agg #[.int .i64 V, .int .i64 N, .int .i64 D], .int .i64 z]) (by simp (maxDischargeDepth := 8) [results, Try.results39, go_sem, *]) rfl ?_
    exact ⟨V, N, D, z, bz, rfl, by (repeat' (first | (with_reducible exact Below.refl _ _) | (with_reducible assumption) | (with_reducible refine below_drewN ?_ _) | (with_reducible refine Below.alloc ?_ ?_ _) | (with_reducible refine Below.drew ?_) | (with_reducible refine Below.setCell ?_ ?_ _) | go_size))⟩

set_option maxHeartbeats 2000000 in
theorem drawMix_c (A : Option Addr) (n c : Nat) (w : World) (h : RdB w w.heap.size A n) :
    Calls Try.prog 40 #[.slice A n c] w fun e w' => ∃ x y z : Int, (-1 ≤ x ∧ x ≤ 10001) ∧ (-1 ≤ y ∧ y ≤ 10001) ∧ (-1 ≤ z ∧ z ≤ 10001) ∧ e = .returned (.tuple #[.int .i64 x, .int .i64 y, .int .i64 z]) ∧ Below w.heap.size w w' := by
  go_enter Try.func40, Try.ntmps40
  go_wp2_with fail
  obtain ⟨W, hW⟩ : ∃ W, W = w.alloc (.cells #[.slice A n c, .int .i64 0, .int .u64 0] 71) := ⟨_, rfl⟩
  rw [← hW]
  have C0 : Cur W w.heap.size A n c 0 := by rw [hW]; exact Cur.new _ _ h
  have G0 : Below w.heap.size w W := by rw [hW]; exact (Below.refl _ _).alloc (Nat.le_refl _) _
  have sW : W.heap.size = w.heap.size + 1 := by rw [hW]; simp
  clear hW h
  refine (pick_c w.heap.size A n c 0 24 _ (C0.alloc _) (by omega) (by omega)).mono ?_
  rintro e x1 ⟨y1, y01, y11, rfl, CA1, ga1⟩
  have HC1 := Lib.hid (lits_far [0, 5, 10, 100, 10000, -1, 10001] ga1 C0.lt rfl)
  have hbq1 := C0.lt
  rw [sW] at HC1 hbq1
  have GA1 := below_grown (Nat.le_refl _) (G0.alloc G0.size _) ga1 (Nat.le_refl _)
  obtain ⟨k1, hk1⟩ : ∃ k : Nat, y1.tdiv 11 = k ∧ k ≤ 2 := ⟨(y1 / 11).toNat, by rw [Int.tdiv_eq_ediv_of_nonneg y01]; omega, by omega⟩
  clear ga1 C0 G0
  go_wp2_with fail
  have hc := HC1.out
  have hl := lt_of_cell (w := x1) (by rw [hc 0 (by simp)]; rfl)
  refine (amongT_c w.heap.size A n c 2 [0, 5, 10, 100, 10000, -1, 10001] x1 CA1 _ (5 + k1) 7 (by omega) (Nat.ne_of_gt hbq1) hl hc (by omega) (by simp; omega) (by simp)).mono ?_
  clear hc hl
  rintro e v1 ⟨z1, hz1, rfl, CB1, gb1⟩
  have bz1 : -1 ≤ z1 ∧ z1 ≤ 10001 := by simp at hz1; omega
  have GB1 := below_grown (Nat.le_refl _) GA1 gb1 (Nat.le_refl _)
  clear HC1 hbq1 CA1 GA1 gb1 hz1 hk1 y01 y11
  go_wp2_with fail
  refine (pick_c w.heap.size A n c 4 24 _ (CB1.alloc _) (by omega) (by omega)).mono ?_
  rintro e x2 ⟨y2, y02, y12, rfl, CA2, ga2⟩
  have HC2 := Lib.hid (lits_far [0, 5, 20, 60, 10000, -1, 10001] ga2 CB1.lt rfl)
  have hbq2 := CB1.lt
  have GA2 := below_grown (Nat.le_refl _) (GB1.alloc GB1.size _) ga2 (Nat.le_refl _)
  obtain ⟨k2, hk2⟩ : ∃ k : Nat, y2.tdiv 11 = k ∧ k ≤ 2 := ⟨(y2 / 11).toNat, by rw [Int.tdiv_eq_ediv_of_nonneg y02]; omega, by omega⟩
  clear ga2 CB1 GB1
  go_wp2_with fail
  have hc := HC2.out
  have hl := lt_of_cell (w := x2) (by rw [hc 0 (by simp)]; rfl)
  refine (amongT_c w.heap.size A n c 6 [0, 5, 20, 60, 10000, -1, 10001] x2 CA2 _ (5 + k2) 7 (by omega) (Nat.ne_of_gt hbq2) hl hc (by omega) (by simp; omega) (by simp)).mono ?_
  clear hc hl
  rintro e v2 ⟨z2, hz2, rfl, CB2, gb2⟩
  have bz2 : -1 ≤ z2 ∧ z2 ≤ 10001 := by simp at hz2; omega
  have GB2 := below_grown (Nat.le_refl _) GA2 gb2 (Nat.le_refl _)
  clear HC2 hbq2 CA2 GA2 gb2 hz2 hk2 y02 y12
  go_wp2_with fail
  refine (pick_c w.heap.size A n c 8 24 _ (CB2.alloc _) (by omega) (by omega)).mono ?_
  rintro e x3 ⟨y3, y03, y13, rfl, CA3, ga3⟩
  have HC3 := Lib.hid (lits_far [0, 5, 8, 10, 50, 10000, -1, 10001] ga3 CB2.lt rfl)
  have hbq3 := CB2.lt
  have GA3 := below_grown (Nat.le_refl _) (GB2.alloc GB2.size _) ga3 (Nat.le_refl _)
  obtain ⟨k3, hk3⟩ : ∃ k : Nat, y3.tdiv 11 = k ∧ k ≤ 2 := ⟨(y3 / 11).toNat, by rw [Int.tdiv_eq_ediv_of_nonneg y03]; omega, by omega⟩
  clear ga3 CB2 GB2
  go_wp2_with fail
  have hc := HC3.out
  have hl := lt_of_cell (w := x3) (by rw [hc 0 (by simp)]; rfl)
  refine (amongT_c w.heap.size A n c 10 [0, 5, 8, 10, 50, 10000, -1, 10001] x3 CA3 _ (6 + k3) 8 (by omega) (Nat.ne_of_gt hbq3) hl hc (by omega) (by simp; omega) (by simp)).mono ?_
  clear hc hl
  rintro e v3 ⟨z3, hz3, rfl, CB3, gb3⟩
  have bz3 : -1 ≤ z3 ∧ z3 ≤ 10001 := by simp at hz3; omega
  have GB3 := below_grown (Nat.le_refl _) GA3 gb3 (Nat.le_refl _)
  clear HC3 hbq3 CA3 GA3 gb3 hz3 hk3 y03 y13
  go_wp2
  go_returns
  exact ⟨z1, z2, z3, bz1, bz2, bz3, rfl, GB3⟩

set_option maxHeartbeats 2000000 in
theorem drawRin_c (A : Option Addr) (n c : Nat) (w : World) (h : RdB w w.heap.size A n) :
    Calls Try.prog 41 #[.slice A n c] w fun e w' => ∃ V N D v m : Int, (-1 ≤ v ∧ v ≤ 101) ∧ (0 ≤ m ∧ m ≤ 10001) ∧ e = .returned (.tuple #[.agg #[.int .i64 V, .int .i64 N, .int .i64 D], .int .i64 v, .int .i64 m]) ∧ Below w.heap.size w w' := by
  go_enter Try.func41, Try.ntmps41
  go_wp2_with fail
  obtain ⟨W0, hW0⟩ : ∃ W, W = w.alloc (.cells #[.int .i64 0, .int .i64 0, .int .i64 0] 25) := ⟨_, rfl⟩
  obtain ⟨W, hW⟩ : ∃ W, W = W0.alloc (.cells #[.slice A n c, .int .i64 0, .int .u64 0] 71) := ⟨_, rfl⟩
  rw [← hW0, ← hW]
  have B0 : Below w.heap.size w W := by rw [hW, hW0]; exact ((Below.refl _ _).alloc (Nat.le_refl _) _).alloc (by simp only [World.size_alloc]; omega) _
  have sb : W0.heap.size = w.heap.size + 1 := by rw [hW0]; simp
  have C0 : Cur W W0.heap.size A n c 0 := by rw [hW]; exact Cur.new _ _ (by rw [sb, hW0]; exact (h.below ((Below.refl _ _).alloc (Nat.le_refl _) _)).more (by omega))
  have rB0 : Box3 W w.heap.size 0 0 0 := by rw [hW, hW0]; exact (Box3.new _ _ _ _ _).alloc _
  rw [sb] at C0
  clear hW hW0 sb h
  obtain ⟨b, hb⟩ : ∃ b, b = w.heap.size + 1 := ⟨_, rfl⟩
  rw [← hb] at C0 ⊢
  have hb1 : w.heap.size ≤ b := by omega
  have hrb : w.heap.size ≠ b := by omega
  clear hb
  refine (contentB_c b A n c 0 W C0 (by omega)).mono ?_
  rintro e w1 ⟨V, N, D, bV, rfl, C1, g1⟩
  have G1 := below_grown (Nat.le_refl _) B0 g1 hb1
  have rB1 := rB0.far' g1 hrb
  clear g1 C0 B0 rB0
  go_wp2_with fail
  obtain ⟨W2, hW2⟩ : ∃ W, W = w1.alloc (.cells #[.int .i64 V, .int .i64 N, .int .i64 D] 25) := ⟨_, rfl⟩
  rw [← hW2]
  have C2 : Cur W2 b A n c 16 := by rw [hW2]; exact C1.alloc _
  have rB2 : Box3 W2 w.heap.size 0 0 0 := by rw [hW2]; exact rB1.alloc _
  have pB2 : Box3 W2 w1.heap.size V N D := by rw [hW2]; exact Box3.new _ _ _ _ _
  have G2 : Below w.heap.size w W2 := by rw [hW2]; exact G1.alloc G1.size _
  have hpb : w1.heap.size ≠ b := by have := C1.lt; omega
  have hrp : ¬ w.heap.size = w1.heap.size := by have := rB1.lt; omega
  have hpr : ¬ w1.heap.size = w.heap.size := by omega
  clear hW2 C1 G1 rB1
  generalize w1.heap.size = p at *
  refine (liters_c b A n c 16 W2 C2 (by omega)).mono ?_
  rintro e w3 ⟨v, v0, v1, rfl, C3, g3⟩
  have rB3 := rB2.far' g3 hrb
  have pB3 := pB2.far' g3 hpb
  have G3 := below_grown (Nat.le_refl _) G2 g3 hb1
  clear g3 C2 G2 rB2 pB2
  go_wp2_with fail
  refine (one_c b A n c 20 3 w3 C3 (by omega) (by omega)).mono ?_
  rintro e w4 ⟨t, rfl, C4, g4⟩
  have rB4 := rB3.far' g4 hrb
  have pB4 := pB3.far' g4 hpb
  have G4 := below_grown (Nat.le_refl _) G3 g4 hb1
  clear g4 C3 G3 rB3 pB3
  go_upto_if 16 with (fail)
  go_cut [7, 16] (fun s _ wx => ∃ u : Int, (-1 ≤ u ∧ u ≤ 101) ∧ s = .int .i64 u ∧ Cur wx b A n c 22 ∧ Below w.heap.size w wx ∧ Box3 wx w.heap.size 0 0 0 ∧ Box3 wx p V N D)
  case first =>
    cases t
    · go_wp2_with fail
      go_meet
      exact ⟨v, by omega, rfl, C4, G4, rB4, pB4⟩
    · obtain ⟨⟨p0, p1, p2⟩, fp0, fp1, fp2⟩ := id pB4
      go_wp2_with fail
      go_meet
      exact ⟨V, bV, rfl, C4, G4, rB4, pB4⟩
  case rest =>
    clear C4 G4 rB4 pB4
    obtain ⟨u, bu, rfl, C5, G5, rB5, pB5⟩ := hcut
    go_wp2_with fail
    have rB := rB5
    have pB := pB5
    clear rB5 pB5
    have CC := C5
    have GG := G5
    clear C5 G5
    obtain ⟨⟨r0, r1, r2⟩, fr0, fr1, fr2⟩ := id rB
    obtain ⟨⟨p0, p1, p2⟩, fp0, fp1, fp2⟩ := id pB
    go_region_held3 (fun w' => w'.cell? ⟨p, 0, none⟩ = some (.int .i64 V) ∧ w'.cell? ⟨p, 1, none⟩ = some (.int .i64 N) ∧ w'.cell? ⟨p, 2, none⟩ = some (.int .i64 D)) (simp (maxDischargeDepth := 3) [*, go_sem]) (first | (go_at_call 64; (with_reducible refine (pick_c b A n c 22 24 _ ((CC.alloc _).drew) (by omega) (by omega)).mono ?_); rintro e w6 ⟨y, y0, y1, rfl, C6, g6⟩; replace g6 := grown_undrew g6; clear r0 r1 r2 fr0 fr1 fr2 p0 p1 p2 fp0 fp1 fp2; replace rB := (rB.alloc _).far' g6 hrb; replace pB := (pB.alloc _).far' g6 hpb; obtain ⟨⟨r0, r1, r2⟩, fr0, fr1, fr2⟩ := id rB; obtain ⟨⟨p0, p1, p2⟩, fp0, fp1, fp2⟩ := id pB; have HC := Lib.hid (lits_far [1, 2, 5, 20, 10000, 0, 10001] g6 CC.lt rfl); have hbq := CC.lt; replace GG := below_grown (Nat.le_refl _) ((GG).alloc GG.size _) g6 hb1; replace CC := C6; clear g6 C6; obtain ⟨k, hk, hkb⟩ : ∃ k : Nat, y.tdiv 11 = k ∧ k ≤ 2 := ⟨(y / 11).toNat, (by rw [Int.tdiv_eq_ediv_of_nonneg y0]; omega), (by omega)⟩; have sa : IntKind.i64.wrap (k : Int) = (k : Int) := IntWalk.i64_in _ (by omega); obtain ⟨q, sq⟩ : ∃ q : Nat, q = 5 + k := ⟨_, rfl⟩; have sb : IntKind.i64.wrap (5 + (k : Int)) = (q : Int) := (by rw [sq]; exact IntWalk.i64_in _ (by omega)); have sc : (0 : Int) ≤ (q : Int) := (by omega); have sd : (q : Int) ≤ 7 := (by omega); have se : 0 < q := (by omega); have sf : q ≤ 7 := (by omega); clear sq y0 y1) | (go_at_call 64; replace HC := HC.out; (with_reducible refine (pick_c b A n c 22 24 _ (CC.drew) (by omega) (by omega)).mono ?_); rintro e w6 ⟨y, y0, y1, rfl, C6, g6⟩; replace g6 := grown_undrew g6; clear r0 r1 r2 fr0 fr1 fr2 p0 p1 p2 fp0 fp1 fp2; replace rB := (rB).far' g6 hrb; replace pB := (pB).far' g6 hpb; obtain ⟨⟨r0, r1, r2⟩, fr0, fr1, fr2⟩ := id rB; obtain ⟨⟨p0, p1, p2⟩, fp0, fp1, fp2⟩ := id pB; replace HC := Lib.hid (fun j hj => far_cell g6 (HC j hj) hbq); replace GG := below_grown (Nat.le_refl _) GG g6 hb1; replace CC := C6; clear g6 C6; obtain ⟨k, hk, hkb⟩ : ∃ k : Nat, y.tdiv 11 = k ∧ k ≤ 2 := ⟨(y / 11).toNat, (by rw [Int.tdiv_eq_ediv_of_nonneg y0]; omega), (by omega)⟩; have sa : IntKind.i64.wrap (k : Int) = (k : Int) := IntWalk.i64_in _ (by omega); obtain ⟨q, sq⟩ : ∃ q : Nat, q = 5 + k := ⟨_, rfl⟩; have sb : IntKind.i64.wrap (5 + (k : Int)) = (q : Int) := (by rw [sq]; exact IntWalk.i64_in _ (by omega)); have sc : (0 : Int) ≤ (q : Int) := (by omega); have sd : (q : Int) ≤ 7 := (by omega); have se : 0 < q := (by omega); have sf : q ≤ 7 := (by omega); clear sq y0 y1) | (go_at_call 64; (with_reducible refine (pick_c b A n c 22 24 _ (CC.drew) (by omega) (by omega)).mono ?_); rintro e w6 ⟨y, y0, y1, rfl, C6, g6⟩; replace g6 := grown_undrew g6; clear r0 r1 r2 fr0 fr1 fr2 p0 p1 p2 fp0 fp1 fp2; replace rB := (rB).far' g6 hrb; replace pB := (pB).far' g6 hpb; obtain ⟨⟨r0, r1, r2⟩, fr0, fr1, fr2⟩ := id rB; obtain ⟨⟨p0, p1, p2⟩, fp0, fp1, fp2⟩ := id pB; replace GG := below_grown (Nat.le_refl _) GG g6 hb1; replace CC := C6; clear g6 C6; obtain ⟨k, hk, hkb⟩ : ∃ k : Nat, y.tdiv 11 = k ∧ k ≤ 2 := ⟨(y / 11).toNat, (by rw [Int.tdiv_eq_ediv_of_nonneg y0]; omega), (by omega)⟩; have sa : IntKind.i64.wrap (k : Int) = (k : Int) := IntWalk.i64_in _ (by omega); obtain ⟨q, sq⟩ : ∃ q : Nat, q = 5 + k := ⟨_, rfl⟩; have sb : IntKind.i64.wrap (5 + (k : Int)) = (q : Int) := (by rw [sq]; exact IntWalk.i64_in _ (by omega)); have sc : (0 : Int) ≤ (q : Int) := (by omega); have sd : (q : Int) ≤ 7 := (by omega); have se : 0 < q := (by omega); have sf : q ≤ 7 := (by omega); clear sq y0 y1) | (go_at_call 63; have hc := HC.out; have hl := lt_of_cell (w := w6) (by rw [hc 0 (by simp)]; rfl); (with_reducible refine (amongT_c b A n c 24 [1, 2, 5, 20, 10000, 0, 10001] w6 CC _ q 7 (by omega) (Nat.ne_of_gt hbq) hl hc se (by simpa using sf) (by simp)).mono ?_); clear hc hl; rintro e w7 ⟨z, hz, rfl, C7, g7⟩; have bz : 0 ≤ z ∧ z ≤ 10001 := (by simp at hz; omega); clear r0 r1 r2 fr0 fr1 fr2 p0 p1 p2 fp0 fp1 fp2; replace rB := (rB).far' g7 hrb; replace pB := (pB).far' g7 hpb; obtain ⟨⟨r0, r1, r2⟩, fr0, fr1, fr2⟩ := id rB; obtain ⟨⟨p0, p1, p2⟩, fp0, fp1, fp2⟩ := id pB; replace GG := below_grown (Nat.le_refl _) GG g7 hb1; replace CC := C7; clear g7 C7 HC hbq hz hk hkb sa sb sc sd se sf) | (go_at_call 63; (with_reducible refine (amongT_c b A n c 24 [1, 2, 5, 20, 10000, 0, 10001] _ (CC.alloc _) w6.heap.size q 7 (by omega) (by have := CC.lt; omega) (by simp) (lits_new [1, 2, 5, 20, 10000, 0, 10001] (by simp)) se (by simpa using sf) (by simp)).mono ?_); rintro e w7 ⟨z, hz, rfl, C7, g7⟩; have bz : 0 ≤ z ∧ z ≤ 10001 := (by simp at hz; omega); clear r0 r1 r2 fr0 fr1 fr2 p0 p1 p2 fp0 fp1 fp2; replace rB := (rB.alloc _).far' g7 hrb; replace pB := (pB.alloc _).far' g7 hpb; obtain ⟨⟨r0, r1, r2⟩, fr0, fr1, fr2⟩ := id rB; obtain ⟨⟨p0, p1, p2⟩, fp0, fp1, fp2⟩ := id pB; replace GG := below_grown (Nat.le_refl _) (GG.alloc GG.size _) g7 hb1; replace CC := C7; clear g7 C7 hz hk hkb sa sb sc sd se sf))
    all_goals
      go_wp2
      go_light
      refine bodyPost_ret (v := .tuple #[.agg #[.int .i64 V, .int .i64 N, .int .i64 D], .int .i64 u, .int .i64 z]) (by simp (maxDischargeDepth := 8) [results, Try.results41, go_sem, *]) rfl ?_
      exact ⟨V, N, D, u, z, bu, bz, rfl, by (repeat' (first | (with_reducible exact Below.refl _ _) | (with_reducible assumption) | (with_reducible refine below_drewN ?_ _) | (with_reducible refine Below.alloc ?_ ?_ _) | (with_reducible refine Below.drew ?_) | (with_reducible refine Below.setCell ?_ ?_ _) | go_size))⟩

set_option maxHeartbeats 2000000 in
theorem drawCmp_c (A : Option Addr) (n c : Nat) (w : World) (h : RdB w w.heap.size A n) :
    Calls Try.prog 42 #[.slice A n c] w fun e w' => ∃ V N D V' N' D' : Int, e = .returned (.tuple #[.agg #[.int .i64 V, .int .i64 N, .int .i64 D], .agg #[.int .i64 V', .int .i64 N', .int .i64 D']]) ∧ Below w.heap.size w w' := by
  go_enter Try.func42, Try.ntmps42
  go_wp2_with fail
  obtain ⟨W0, hW0⟩ : ∃ W, W = w.alloc (.cells #[.int .i64 0, .int .i64 0, .int .i64 0] 25) := ⟨_, rfl⟩
  obtain ⟨W1, hW1⟩ : ∃ W, W = W0.alloc (.cells #[.int .i64 0, .int .i64 0, .int .i64 0] 25) := ⟨_, rfl⟩
  obtain ⟨W, hW⟩ : ∃ W, W = W1.alloc (.cells #[.slice A n c, .int .i64 0, .int .u64 0] 71) := ⟨_, rfl⟩
  rw [← hW0, ← hW1, ← hW]
  have B0 : Below w.heap.size w W := by rw [hW, hW1, hW0]; exact (((Below.refl _ _).alloc (Nat.le_refl _) _).alloc (by simp only [World.size_alloc]; omega) _).alloc (by simp only [World.size_alloc]; omega) _
  have sb : W1.heap.size = w.heap.size + 1 + 1 := by rw [hW1, hW0]; simp
  have C0 : Cur W W1.heap.size A n c 0 := by rw [hW]; exact Cur.new _ _ (by rw [sb, hW1, hW0]; exact (h.below (((Below.refl _ _).alloc (Nat.le_refl _) _).alloc (by simp only [World.size_alloc]; omega) _)).more (by omega))
  have rB0 : Box3 W w.heap.size 0 0 0 := by rw [hW, hW1, hW0]; exact ((Box3.new _ _ _ _ _).alloc _).alloc _
  have sB0 : Box3 W (w.heap.size + 1) 0 0 0 := by have e : W0.heap.size = w.heap.size + 1 := by { rw [hW0]; simp }
                                                  rw [hW, hW1, ← e]; exact (Box3.new _ _ _ _ _).alloc _
  rw [sb] at C0
  clear hW hW0 hW1 sb h
  obtain ⟨b, hb⟩ : ∃ b, b = w.heap.size + 1 + 1 := ⟨_, rfl⟩
  rw [← hb] at C0 ⊢
  have hb1 : w.heap.size ≤ b := by omega
  have hrb : w.heap.size ≠ b := by omega
  have hsb : w.heap.size + 1 ≠ b := by omega
  clear hb
  refine (content_c b A n c 0 W C0 (by omega)).mono ?_
  rintro e w1 ⟨V, N, D, rfl, C1, g1⟩
  have G1 := below_grown (Nat.le_refl _) B0 g1 hb1
  have rB1 := rB0.far' g1 hrb
  have sB1 := sB0.far' g1 hsb
  clear g1 C0 B0 rB0 sB0
  go_wp2_with fail
  obtain ⟨W2, hW2⟩ : ∃ W, W = w1.alloc (.cells #[.int .i64 V, .int .i64 N, .int .i64 D] 25) := ⟨_, rfl⟩
  rw [← hW2]
  have C2 : Cur W2 b A n c 16 := by rw [hW2]; exact C1.alloc _
  have rB2 : Box3 W2 w.heap.size 0 0 0 := by rw [hW2]; exact rB1.alloc _
  have sB2 : Box3 W2 (w.heap.size + 1) 0 0 0 := by rw [hW2]; exact sB1.alloc _
  have pB2 : Box3 W2 w1.heap.size V N D := by rw [hW2]; exact Box3.new _ _ _ _ _
  have G2 : Below w.heap.size w W2 := by rw [hW2]; exact G1.alloc G1.size _
  have hpb : w1.heap.size ≠ b := by have := C1.lt; omega
  have hrp : ¬ w.heap.size = w1.heap.size := by have := rB1.lt; omega
  have hpr : ¬ w1.heap.size = w.heap.size := by omega
  have hsp : ¬ w.heap.size + 1 = w1.heap.size := by have := sB1.lt; omega
  have hps : ¬ w1.heap.size = w.heap.size + 1 := by omega
  clear hW2 C1 G1 rB1 sB1
  generalize w1.heap.size = p at *
  obtain ⟨⟨p0, p1, p2⟩, fp0, fp1, fp2⟩ := id pB2
  go_wp2_with fail
  refine (specTake_c V N D 1 W2 (by omega) (by omega)).mono ?_
  clear p0 p1 p2 fp0 fp1 fp2
  rintro e w3 ⟨rfl, hb3⟩
  have C3 := C2.below hb3
  have G3 := G2.trans (hb3.mono G2.size)
  have rB3 := rB2.below hb3
  have sB3 := sB2.below hb3
  have pB3 := pB2.below hb3
  clear hb3 C2 G2 rB2 sB2 pB2
  go_upto_region 4 with (fail)
  generalize takeC V N D 1 = T
  obtain ⟨T1, T2, T3, ok⟩ := T
  dsimp only
  obtain ⟨W4, hW4⟩ : ∃ W, W = w3.alloc (.cells #[.int .i64 T1, .int .i64 T2, .int .i64 T3] 25) := ⟨_, rfl⟩
  rw [← hW4]
  have C4 : Cur W4 b A n c 16 := by rw [hW4]; exact C3.alloc _
  have G4 : Below w.heap.size w W4 := by rw [hW4]; exact G3.alloc G3.size _
  have rB4 : Box3 W4 w.heap.size 0 0 0 := by rw [hW4]; exact rB3.alloc _
  have sB4 : Box3 W4 (w.heap.size + 1) 0 0 0 := by rw [hW4]; exact sB3.alloc _
  have pB4 : Box3 W4 p V N D := by rw [hW4]; exact pB3.alloc _
  have qB4 : Box3 W4 w3.heap.size T1 T2 T3 := by rw [hW4]; exact Box3.new _ _ _ _ _
  have hqb : w3.heap.size ≠ b := by have := C3.lt; omega
  have hqr : ¬ w3.heap.size = w.heap.size := by have := rB3.lt; omega
  have hrq : ¬ w.heap.size = w3.heap.size := by omega
  have hqs : ¬ w3.heap.size = w.heap.size + 1 := by have := sB3.lt; omega
  have hsq : ¬ w.heap.size + 1 = w3.heap.size := by omega
  clear hW4 C3 G3 rB3 sB3 pB3
  generalize w3.heap.size = q at *
  cases ok
  · go_wp2_with fail
    have rB := rB4
    have sB := sB4
    have pB := pB4
    clear rB4 sB4 pB4
    have CC := C4
    have GG := G4
    clear C4 G4
    obtain ⟨⟨r0, r1, r2⟩, fr0, fr1, fr2⟩ := id rB
    obtain ⟨⟨s0, s1, s2⟩, fs0, fs1, fs2⟩ := id sB
    obtain ⟨⟨p0, p1, p2⟩, fp0, fp1, fp2⟩ := id pB
    go_region_held3 (fun w' => w'.cell? ⟨p, 0, none⟩ = some (.int .i64 V) ∧ w'.cell? ⟨p, 1, none⟩ = some (.int .i64 N) ∧ w'.cell? ⟨p, 2, none⟩ = some (.int .i64 D)) (simp (maxDischargeDepth := 3) [*, go_sem]) (first | (go_at_call 61; (with_reducible refine (content_c b A n c 16 _ (CC.drew) (by omega)).mono ?_); rintro e w9 ⟨V', N', D', rfl, C9, g9⟩; replace g9 := grown_undrew g9; clear r0 r1 r2 fr0 fr1 fr2 s0 s1 s2 fs0 fs1 fs2 p0 p1 p2 fp0 fp1 fp2; replace rB := (rB).far' g9 hrb; replace sB := (sB).far' g9 hsb; replace pB := (pB).far' g9 hpb; obtain ⟨⟨r0, r1, r2⟩, fr0, fr1, fr2⟩ := id rB; obtain ⟨⟨s0, s1, s2⟩, fs0, fs1, fs2⟩ := id sB; obtain ⟨⟨p0, p1, p2⟩, fp0, fp1, fp2⟩ := id pB; replace GG := below_grown (Nat.le_refl _) GG g9 hb1; clear g9 C9))
    all_goals
      go_wp2
      go_light
      refine bodyPost_ret (v := (.tuple #[.agg #[.int .i64 V, .int .i64 N, .int .i64 D], .agg #[.int .i64 V', .int .i64 N', .int .i64 D']])) (by simp (maxDischargeDepth := 8) [results, Try.results42, go_sem, *]) rfl ?_
      exact ⟨V, N, D, V', N', D', rfl, by (repeat' (first | (with_reducible exact Below.refl _ _) | (with_reducible assumption) | (with_reducible refine below_drewN ?_ _) | (with_reducible refine Below.alloc ?_ ?_ _) | (with_reducible refine Below.drew ?_) | (with_reducible refine Below.setCell ?_ ?_ _) | go_size))⟩
  · go_wp2_with fail
    refine (one_c b A n c 16 3 W4 C4 (by omega) (by omega)).mono ?_
    rintro e w5 ⟨t, rfl, C5, g5⟩
    have rB5 := rB4.far' g5 hrb
    have sB5 := sB4.far' g5 hsb
    have pB5 := pB4.far' g5 hpb
    have qB5 := qB4.far' g5 hqb
    have G5 := below_grown (Nat.le_refl _) G4 g5 hb1
    clear g5 C4 G4 rB4 sB4 pB4 qB4
    cases t
    · go_wp2_with fail
      have rB := rB5
      have sB := sB5
      have pB := pB5
      clear rB5 sB5 pB5
      have CC := C5
      have GG := G5
      clear C5 G5
      obtain ⟨⟨r0, r1, r2⟩, fr0, fr1, fr2⟩ := id rB
      obtain ⟨⟨s0, s1, s2⟩, fs0, fs1, fs2⟩ := id sB
      obtain ⟨⟨p0, p1, p2⟩, fp0, fp1, fp2⟩ := id pB
      go_region_held3 (fun w' => w'.cell? ⟨p, 0, none⟩ = some (.int .i64 V) ∧ w'.cell? ⟨p, 1, none⟩ = some (.int .i64 N) ∧ w'.cell? ⟨p, 2, none⟩ = some (.int .i64 D)) (simp (maxDischargeDepth := 3) [*, go_sem]) (first | (go_at_call 61; (with_reducible refine (content_c b A n c 18 _ (CC.drew) (by omega)).mono ?_); rintro e w9 ⟨V', N', D', rfl, C9, g9⟩; replace g9 := grown_undrew g9; clear r0 r1 r2 fr0 fr1 fr2 s0 s1 s2 fs0 fs1 fs2 p0 p1 p2 fp0 fp1 fp2; replace rB := (rB).far' g9 hrb; replace sB := (sB).far' g9 hsb; replace pB := (pB).far' g9 hpb; obtain ⟨⟨r0, r1, r2⟩, fr0, fr1, fr2⟩ := id rB; obtain ⟨⟨s0, s1, s2⟩, fs0, fs1, fs2⟩ := id sB; obtain ⟨⟨p0, p1, p2⟩, fp0, fp1, fp2⟩ := id pB; replace GG := below_grown (Nat.le_refl _) GG g9 hb1; clear g9 C9))
      all_goals
        go_wp2
        go_light
        refine bodyPost_ret (v := (.tuple #[.agg #[.int .i64 V, .int .i64 N, .int .i64 D], .agg #[.int .i64 V', .int .i64 N', .int .i64 D']])) (by simp (maxDischargeDepth := 8) [results, Try.results42, go_sem, *]) rfl ?_
        exact ⟨V, N, D, V', N', D', rfl, by (repeat' (first | (with_reducible exact Below.refl _ _) | (with_reducible assumption) | (with_reducible refine below_drewN ?_ _) | (with_reducible refine Below.alloc ?_ ?_ _) | (with_reducible refine Below.drew ?_) | (with_reducible refine Below.setCell ?_ ?_ _) | go_size))⟩
    · obtain ⟨⟨r0, r1, r2⟩, fr0, fr1, fr2⟩ := id rB5
      obtain ⟨⟨s0, s1, s2⟩, fs0, fs1, fs2⟩ := id sB5
      obtain ⟨⟨p0, p1, p2⟩, fp0, fp1, fp2⟩ := id pB5
      obtain ⟨⟨q0, q1, q2⟩, fq0, fq1, fq2⟩ := id qB5
      go_wp2_with fail
      go_region_held3 (fun w' => w'.cell? ⟨p, 0, none⟩ = some (.int .i64 V) ∧ w'.cell? ⟨p, 1, none⟩ = some (.int .i64 N) ∧ w'.cell? ⟨p, 2, none⟩ = some (.int .i64 D) ∧ w'.cell? ⟨q, 0, none⟩ = some (.int .i64 T1) ∧ w'.cell? ⟨q, 1, none⟩ = some (.int .i64 T2) ∧ w'.cell? ⟨q, 2, none⟩ = some (.int .i64 T3)) (simp (maxDischargeDepth := 3) [*, go_sem]) (first | fail)
      all_goals
        go_wp2
        go_light
        refine bodyPost_ret (v := (.tuple #[.agg #[.int .i64 V, .int .i64 N, .int .i64 D], .agg #[.int .i64 T1, .int .i64 T2, .int .i64 T3]])) (by simp (maxDischargeDepth := 8) [results, Try.results42, go_sem, *]) rfl ?_
        exact ⟨V, N, D, T1, T2, T3, rfl, by (repeat' (first | (with_reducible exact Below.refl _ _) | (with_reducible assumption) | (with_reducible refine below_drewN ?_ _) | (with_reducible refine Below.alloc ?_ ?_ _) | (with_reducible refine Below.drew ?_) | (with_reducible refine Below.setCell ?_ ?_ _) | go_size))⟩
end Go.Proofs.Ytbcgcpdnmpejlaa
