/- Contracts: what the great law on contents draws. -/
import Derived.Test.YtbcgcpdnmpejlaaCDraw2
namespace Go.Proofs.Ytbcgcpdnmpejlaa
open Go.RowKit

set_option maxHeartbeats 2000000 in
theorem drawIsValid_c (A : Option Addr) (n c : Nat) (w : World) (h : RdB w w.heap.size A n) :
    Calls Try.prog 65 #[.slice A n c] w fun e w' => ∃ V N D : Int, e = .returned (.agg #[.int .i64 V, .int .i64 N, .int .i64 D]) ∧ Below w.heap.size w w' := by
  go_enter Try.func65, Try.ntmps65
  go_wp2_with fail
  obtain ⟨W0, hW0⟩ : ∃ W, W = w.alloc (.cells #[.int .i64 0, .int .i64 0, .int .i64 0] 25) := ⟨_, rfl⟩
  obtain ⟨W, hW⟩ : ∃ W, W = W0.alloc (.cells #[.slice A n c, .int .i64 0, .int .u64 0] 71) := ⟨_, rfl⟩
  rw [← hW0, ← hW]
  have B0 : Below w.heap.size w W := by rw [hW, hW0]; exact ((Below.refl _ _).alloc (Nat.le_refl _) _).alloc (by simp only [World.size_alloc]; omega) _
  have sb : W0.heap.size = w.heap.size + 1 := by rw [hW0]; simp
  have C0 : Cur W W0.heap.size A n c 0 := by rw [hW]; exact Cur.new _ _ (by rw [sb, hW0]; exact (h.below ((Below.refl _ _).alloc (Nat.le_refl _) _)).more (by omega))
  have rB0 : Box3 W w.heap.size 0 0 0 := by rw [hW, hW0]; exact (Box3.new _ _ _ _ _).alloc _
  rw [sb] at C0
  clear hW hW0 sb h
  obtain ⟨b, hb⟩ : ∃ b, b = w.heap.size + 1 := ⟨_, rfl⟩
  rw [← hb] at C0 ⊢
  have hb1 : w.heap.size ≤ b := by omega
  have hrb : w.heap.size ≠ b := by omega
  clear hb
  refine (content_c b A n c 0 W C0 (by omega)).mono ?_
  rintro e w1 ⟨V, N, D, rfl, C1, g1⟩
  have G1 := below_grown (Nat.le_refl _) B0 g1 hb1
  have rB1 := rB0.far' g1 hrb
  clear g1 C0 B0 rB0
  obtain ⟨⟨r0, r1, r2⟩, fr0, fr1, fr2⟩ := id rB1
  go_wp2
  go_light
  refine bodyPost_ret (v := .agg #[.int .i64 V, .int .i64 N, .int .i64 D]) (by simp (maxDischargeDepth := 8) [results, Try.results65, go_sem, *]) rfl ?_
  exact ⟨V, N, D, rfl, by (repeat' (first | (with_reducible exact Below.refl _ _) | (with_reducible assumption) | (with_reducible refine below_drewN ?_ _) | (with_reducible refine Below.alloc ?_ ?_ _) | (with_reducible refine Below.drew ?_) | (with_reducible refine Below.setCell ?_ ?_ _) | go_size))⟩

theorem drawConc_c (A : Option Addr) (n c : Nat) (w : World) (h : RdB w w.heap.size A n) :
    Calls Try.prog 38 #[.slice A n c] w fun e w' => ∃ V N D : Int, e = .returned (.agg #[.int .i64 V, .int .i64 N, .int .i64 D]) ∧ Below w.heap.size w w' := by
  go_enter Try.func38, Try.ntmps38
  go_wp2_with fail
  refine (drawIsValid_c A n c _ ((h.below ((Below.refl _ _).alloc (Nat.le_refl _) _)).more (by simp))).mono ?_
  rintro e w1 ⟨V, N, D, rfl, hb1⟩
  have hz1 := hb1.size; (repeat (first | rw [World.size_alloc] at hz1 | rw [World.size_drew] at hz1 | rw [World.heap_drewN] at hz1 | rw [World.size_setCell] at hz1)); have hB : Below w.heap.size w w1 := Below.trans (by (repeat' (first | (with_reducible exact Below.refl _ _) | (with_reducible assumption) | (with_reducible refine below_drewN ?_ _) | (with_reducible refine Below.alloc ?_ ?_ _) | (with_reducible refine Below.drew ?_) | (with_reducible refine Below.setCell ?_ ?_ _) | go_size))) (hb1.mono (by go_size)); have hL1 := hb1; clear hb1; obtain ⟨hc1, hf1⟩ := bcell hL1
  go_wp2
  refine bodyPost_ret (v := .agg #[.int .i64 V, .int .i64 N, .int .i64 D]) (by simp (maxDischargeDepth := 3) [results, Try.results38, go_sem, *]) rfl ?_
  exact ⟨V, N, D, rfl, by (repeat' (first | (with_reducible exact Below.refl _ _) | (with_reducible assumption) | (with_reducible refine below_drewN ?_ _) | (with_reducible refine Below.alloc ?_ ?_ _) | (with_reducible refine Below.drew ?_) | (with_reducible refine Below.setCell ?_ ?_ _) | go_size))⟩

set_option maxHeartbeats 2000000 in
theorem drawTake_c (A : Option Addr) (n c : Nat) (w : World) (h : RdB w w.heap.size A n) :
    Calls Try.prog 35 #[.slice A n c] w fun e w' => ∃ V N D v : Int, 0 ≤ v ∧ v ≤ 101 ∧ e = .returned (.tuple #[.agg #[.int .i64 V, .int .i64 N, .int .i64 D], .int .i64 v]) ∧ Below w.heap.size w w' := by
  go_enter Try.func35, Try.ntmps35
  go_wp2_with fail
  obtain ⟨W0, hW0⟩ : ∃ W, W = w.alloc (.cells #[.int .i64 0, .int .i64 0, .int .i64 0] 25) := ⟨_, rfl⟩
  obtain ⟨W, hW⟩ : ∃ W, W = W0.alloc (.cells #[.slice A n c, .int .i64 0, .int .u64 0] 71) := ⟨_, rfl⟩
  rw [← hW0, ← hW]
  have B0 : Below w.heap.size w W := by rw [hW, hW0]; exact ((Below.refl _ _).alloc (Nat.le_refl _) _).alloc (by simp only [World.size_alloc]; omega) _
  have sb : W0.heap.size = w.heap.size + 1 := by rw [hW0]; simp
  have C0 : Cur W W0.heap.size A n c 0 := by rw [hW]; exact Cur.new _ _ (by rw [sb, hW0]; exact (h.below ((Below.refl _ _).alloc (Nat.le_refl _) _)).more (by omega))
  have rB0 : Box3 W w.heap.size 0 0 0 := by rw [hW, hW0]; exact (Box3.new _ _ _ _ _).alloc _
  rw [sb] at C0
  clear hW hW0 sb h
  obtain ⟨b, hb⟩ : ∃ b, b = w.heap.size + 1 := ⟨_, rfl⟩
  rw [← hb] at C0 ⊢
  have hb1 : w.heap.size ≤ b := by omega
  have hrb : w.heap.size ≠ b := by omega
  clear hb
  refine (content_c b A n c 0 W C0 (by omega)).mono ?_
  rintro e w1 ⟨V, N, D, rfl, C1, g1⟩
  have G1 := below_grown (Nat.le_refl _) B0 g1 hb1
  have rB1 := rB0.far' g1 hrb
  clear g1 C0 B0 rB0
  go_wp2_with fail
  obtain ⟨W2, hW2⟩ : ∃ W, W = w1.alloc (.cells #[.int .i64 V, .int .i64 N, .int .i64 D] 25) := ⟨_, rfl⟩
  rw [← hW2]
  have C2 : Cur W2 b A n c 16 := by rw [hW2]; exact C1.alloc _
  have rB2 : Box3 W2 w.heap.size 0 0 0 := by rw [hW2]; exact rB1.alloc _
  have pB2 : Box3 W2 w1.heap.size V N D := by rw [hW2]; exact Box3.new _ _ _ _ _
  have G2 : Below w.heap.size w W2 := by rw [hW2]; exact G1.alloc G1.size _
  have hpb : w1.heap.size ≠ b := by have := C1.lt; omega
  have hrp : ¬ w.heap.size = w1.heap.size := by have := rB1.lt; omega
  have hpr : ¬ w1.heap.size = w.heap.size := by omega
  clear hW2 C1 G1 rB1
  generalize w1.heap.size = p at *
  have rB := rB2
  have pB := pB2
  clear rB2 pB2
  have CC := C2
  have GG := G2
  clear C2 G2
  obtain ⟨⟨r0, r1, r2⟩, fr0, fr1, fr2⟩ := id rB
  obtain ⟨⟨p0, p1, p2⟩, fp0, fp1, fp2⟩ := id pB
  go_region_held3 (fun w' => w'.cell? ⟨p, 0, none⟩ = some (.int .i64 V) ∧ w'.cell? ⟨p, 1, none⟩ = some (.int .i64 N) ∧ w'.cell? ⟨p, 2, none⟩ = some (.int .i64 D)) (simp (maxDischargeDepth := 3) [*, go_sem]) (first | (go_at_call 62; (with_reducible refine (liters_c b A n c 16 _ (CC.drew) (by omega)).mono ?_); rintro e w3 ⟨v, v0, v1, rfl, C3, g3⟩; replace g3 := grown_undrew g3; clear r0 r1 r2 fr0 fr1 fr2 p0 p1 p2 fp0 fp1 fp2; replace rB := (rB).far' g3 hrb; replace pB := (pB).far' g3 hpb; obtain ⟨⟨r0, r1, r2⟩, fr0, fr1, fr2⟩ := id rB; obtain ⟨⟨p0, p1, p2⟩, fp0, fp1, fp2⟩ := id pB; replace GG := below_grown (Nat.le_refl _) GG g3 hb1; replace CC := C3; clear g3 C3))
  go_wp2
  go_light
  refine bodyPost_ret (v := .tuple #[.agg #[.int .i64 V, .int .i64 N, .int .i64 D], .int .i64 v]) (by simp (maxDischargeDepth := 8) [results, Try.results35, go_sem, *]) rfl ?_
  exact ⟨V, N, D, v, v0, v1, rfl, by (repeat' (first | (with_reducible exact Below.refl _ _) | (with_reducible assumption) | (with_reducible refine below_drewN ?_ _) | (with_reducible refine Below.alloc ?_ ?_ _) | (with_reducible refine Below.drew ?_) | (with_reducible refine Below.setCell ?_ ?_ _) | go_size))⟩

set_option maxHeartbeats 2000000 in
theorem drawAdd_c (A : Option Addr) (n c : Nat) (w : World) (h : RdB w w.heap.size A n) :
    Calls Try.prog 36 #[.slice A n c] w fun e w' => ∃ V N D v m : Int, (0 ≤ v ∧ v ≤ 101) ∧ (-1 ≤ m ∧ m ≤ 10001) ∧ e = .returned (.tuple #[.agg #[.int .i64 V, .int .i64 N, .int .i64 D], .int .i64 v, .int .i64 m]) ∧ Below w.heap.size w w' := by
  go_enter Try.func36, Try.ntmps36
  go_wp2_with fail
  obtain ⟨W0, hW0⟩ : ∃ W, W = w.alloc (.cells #[.int .i64 0, .int .i64 0, .int .i64 0] 25) := ⟨_, rfl⟩
  obtain ⟨W, hW⟩ : ∃ W, W = W0.alloc (.cells #[.slice A n c, .int .i64 0, .int .u64 0] 71) := ⟨_, rfl⟩
  rw [← hW0, ← hW]
  have B0 : Below w.heap.size w W := by rw [hW, hW0]; exact ((Below.refl _ _).alloc (Nat.le_refl _) _).alloc (by simp only [World.size_alloc]; omega) _
  have sb : W0.heap.size = w.heap.size + 1 := by rw [hW0]; simp
  have C0 : Cur W W0.heap.size A n c 0 := by rw [hW]; exact Cur.new _ _ (by rw [sb, hW0]; exact (h.below ((Below.refl _ _).alloc (Nat.le_refl _) _)).more (by omega))
  have rB0 : Box3 W w.heap.size 0 0 0 := by rw [hW, hW0]; exact (Box3.new _ _ _ _ _).alloc _
  rw [sb] at C0
  clear hW hW0 sb h
  obtain ⟨b, hb⟩ : ∃ b, b = w.heap.size + 1 := ⟨_, rfl⟩
  rw [← hb] at C0 ⊢
  have hb1 : w.heap.size ≤ b := by omega
  have hrb : w.heap.size ≠ b := by omega
  clear hb
  refine (content_c b A n c 0 W C0 (by omega)).mono ?_
  rintro e w1 ⟨V, N, D, rfl, C1, g1⟩
  have G1 := below_grown (Nat.le_refl _) B0 g1 hb1
  have rB1 := rB0.far' g1 hrb
  clear g1 C0 B0 rB0
  go_wp2_with fail
  obtain ⟨W2, hW2⟩ : ∃ W, W = w1.alloc (.cells #[.int .i64 V, .int .i64 N, .int .i64 D] 25) := ⟨_, rfl⟩
  rw [← hW2]
  have C2 : Cur W2 b A n c 16 := by rw [hW2]; exact C1.alloc _
  have rB2 : Box3 W2 w.heap.size 0 0 0 := by rw [hW2]; exact rB1.alloc _
  have pB2 : Box3 W2 w1.heap.size V N D := by rw [hW2]; exact Box3.new _ _ _ _ _
  have G2 : Below w.heap.size w W2 := by rw [hW2]; exact G1.alloc G1.size _
  have hpb : w1.heap.size ≠ b := by have := C1.lt; omega
  have hrp : ¬ w.heap.size = w1.heap.size := by have := rB1.lt; omega
  have hpr : ¬ w1.heap.size = w.heap.size := by omega
  clear hW2 C1 G1 rB1
  generalize w1.heap.size = p at *
  have rB := rB2
  have pB := pB2
  clear rB2 pB2
  have CC := C2
  have GG := G2
  clear C2 G2
  obtain ⟨⟨r0, r1, r2⟩, fr0, fr1, fr2⟩ := id rB
  obtain ⟨⟨p0, p1, p2⟩, fp0, fp1, fp2⟩ := id pB
  go_region_held3 (fun w' => w'.cell? ⟨p, 0, none⟩ = some (.int .i64 V) ∧ w'.cell? ⟨p, 1, none⟩ = some (.int .i64 N) ∧ w'.cell? ⟨p, 2, none⟩ = some (.int .i64 D)) (simp (maxDischargeDepth := 3) [*, go_sem]) (first | (go_at_call 62; (with_reducible refine (liters_c b A n c 16 _ (CC.drew) (by omega)).mono ?_); rintro e w3 ⟨v, v0, v1, rfl, C3, g3⟩; replace g3 := grown_undrew g3; clear r0 r1 r2 fr0 fr1 fr2 p0 p1 p2 fp0 fp1 fp2; replace rB := (rB).far' g3 hrb; replace pB := (pB).far' g3 hpb; obtain ⟨⟨r0, r1, r2⟩, fr0, fr1, fr2⟩ := id rB; obtain ⟨⟨p0, p1, p2⟩, fp0, fp1, fp2⟩ := id pB; replace GG := below_grown (Nat.le_refl _) GG g3 hb1; replace CC := C3; clear g3 C3) | (go_at_call 62; (with_reducible refine (liters_c b A n c 16 _ ((CC.alloc _).drew) (by omega)).mono ?_); rintro e w3 ⟨v, v0, v1, rfl, C3, g3⟩; replace g3 := grown_undrew g3; clear r0 r1 r2 fr0 fr1 fr2 p0 p1 p2 fp0 fp1 fp2; replace rB := (rB.alloc _).far' g3 hrb; replace pB := (pB.alloc _).far' g3 hpb; obtain ⟨⟨r0, r1, r2⟩, fr0, fr1, fr2⟩ := id rB; obtain ⟨⟨p0, p1, p2⟩, fp0, fp1, fp2⟩ := id pB; have HC := Lib.hid (lits_far [0, 1, 50, 9000, 10000, -1, 10001] g3 CC.lt rfl); have hbq := CC.lt; replace GG := below_grown (Nat.le_refl _) ((GG).alloc GG.size _) g3 hb1; replace CC := C3; clear g3 C3) | (go_at_call 64; (with_reducible refine (pick_c b A n c 20 24 _ (CC.alloc _) (by omega) (by omega)).mono ?_); rintro e w4 ⟨y, y0, y1, rfl, C4, g4⟩; clear r0 r1 r2 fr0 fr1 fr2 p0 p1 p2 fp0 fp1 fp2; replace rB := (rB.alloc _).far' g4 hrb; replace pB := (pB.alloc _).far' g4 hpb; obtain ⟨⟨r0, r1, r2⟩, fr0, fr1, fr2⟩ := id rB; obtain ⟨⟨p0, p1, p2⟩, fp0, fp1, fp2⟩ := id pB; have HC := Lib.hid (lits_far [0, 1, 50, 9000, 10000, -1, 10001] g4 CC.lt rfl); have hbq := CC.lt; replace GG := below_grown (Nat.le_refl _) ((GG).alloc GG.size _) g4 hb1; replace CC := C4; clear g4 C4; obtain ⟨k, hk, hkb⟩ : ∃ k : Nat, y.tdiv 11 = k ∧ k ≤ 2 := ⟨(y / 11).toNat, (by rw [Int.tdiv_eq_ediv_of_nonneg y0]; omega), (by omega)⟩; have sa : IntKind.i64.wrap (k : Int) = (k : Int) := IntWalk.i64_in _ (by omega); obtain ⟨q, sq⟩ : ∃ q : Nat, q = 5 + k := ⟨_, rfl⟩; have sb : IntKind.i64.wrap (5 + (k : Int)) = (q : Int) := (by rw [sq]; exact IntWalk.i64_in _ (by omega)); have sc : (0 : Int) ≤ (q : Int) := (by omega); have sd : (q : Int) ≤ 7 := (by omega); have se : 0 < q := (by omega); have sf : q ≤ 7 := (by omega); clear sq y0 y1) | (go_at_call 64; replace HC := HC.out; (with_reducible refine (pick_c b A n c 20 24 _ CC (by omega) (by omega)).mono ?_); rintro e w4 ⟨y, y0, y1, rfl, C4, g4⟩; clear r0 r1 r2 fr0 fr1 fr2 p0 p1 p2 fp0 fp1 fp2; replace rB := (rB).far' g4 hrb; replace pB := (pB).far' g4 hpb; obtain ⟨⟨r0, r1, r2⟩, fr0, fr1, fr2⟩ := id rB; obtain ⟨⟨p0, p1, p2⟩, fp0, fp1, fp2⟩ := id pB; replace HC := Lib.hid (fun j hj => far_cell g4 (HC j hj) hbq); replace GG := below_grown (Nat.le_refl _) GG g4 hb1; replace CC := C4; clear g4 C4; obtain ⟨k, hk, hkb⟩ : ∃ k : Nat, y.tdiv 11 = k ∧ k ≤ 2 := ⟨(y / 11).toNat, (by rw [Int.tdiv_eq_ediv_of_nonneg y0]; omega), (by omega)⟩; have sa : IntKind.i64.wrap (k : Int) = (k : Int) := IntWalk.i64_in _ (by omega); obtain ⟨q, sq⟩ : ∃ q : Nat, q = 5 + k := ⟨_, rfl⟩; have sb : IntKind.i64.wrap (5 + (k : Int)) = (q : Int) := (by rw [sq]; exact IntWalk.i64_in _ (by omega)); have sc : (0 : Int) ≤ (q : Int) := (by omega); have sd : (q : Int) ≤ 7 := (by omega); have se : 0 < q := (by omega); have sf : q ≤ 7 := (by omega); clear sq y0 y1) | (go_at_call 64; (with_reducible refine (pick_c b A n c 20 24 _ CC (by omega) (by omega)).mono ?_); rintro e w4 ⟨y, y0, y1, rfl, C4, g4⟩; clear r0 r1 r2 fr0 fr1 fr2 p0 p1 p2 fp0 fp1 fp2; replace rB := (rB).far' g4 hrb; replace pB := (pB).far' g4 hpb; obtain ⟨⟨r0, r1, r2⟩, fr0, fr1, fr2⟩ := id rB; obtain ⟨⟨p0, p1, p2⟩, fp0, fp1, fp2⟩ := id pB; replace GG := below_grown (Nat.le_refl _) GG g4 hb1; replace CC := C4; clear g4 C4; obtain ⟨k, hk, hkb⟩ : ∃ k : Nat, y.tdiv 11 = k ∧ k ≤ 2 := ⟨(y / 11).toNat, (by rw [Int.tdiv_eq_ediv_of_nonneg y0]; omega), (by omega)⟩; have sa : IntKind.i64.wrap (k : Int) = (k : Int) := IntWalk.i64_in _ (by omega); obtain ⟨q, sq⟩ : ∃ q : Nat, q = 5 + k := ⟨_, rfl⟩; have sb : IntKind.i64.wrap (5 + (k : Int)) = (q : Int) := (by rw [sq]; exact IntWalk.i64_in _ (by omega)); have sc : (0 : Int) ≤ (q : Int) := (by omega); have sd : (q : Int) ≤ 7 := (by omega); have se : 0 < q := (by omega); have sf : q ≤ 7 := (by omega); clear sq y0 y1) | (go_at_call 63; have hc := HC.out; have hl := lt_of_cell (w := w4) (by rw [hc 0 (by simp)]; rfl); (with_reducible refine (amongT_c b A n c 22 [0, 1, 50, 9000, 10000, -1, 10001] w4 CC _ q 7 (by omega) (Nat.ne_of_gt hbq) hl hc se (by simpa using sf) (by simp)).mono ?_); clear hc hl; rintro e w5 ⟨z, hz, rfl, C5, g5⟩; have bz : -1 ≤ z ∧ z ≤ 10001 := (by simp at hz; omega); clear r0 r1 r2 fr0 fr1 fr2 p0 p1 p2 fp0 fp1 fp2; replace rB := (rB).far' g5 hrb; replace pB := (pB).far' g5 hpb; obtain ⟨⟨r0, r1, r2⟩, fr0, fr1, fr2⟩ := id rB; obtain ⟨⟨p0, p1, p2⟩, fp0, fp1, fp2⟩ := id pB; replace GG := below_grown (Nat.le_refl _) GG g5 hb1; replace CC := C5; clear g5 C5 HC hbq hz hk hkb sa sb sc sd se sf) | (go_at_call 63; (with_reducible refine (amongT_c b A n c 22 [0, 1, 50, 9000, 10000, -1, 10001] _ (CC.alloc _) w4.heap.size q 7 (by omega) (by have := CC.lt; omega) (by simp) (lits_new [0, 1, 50, 9000, 10000, -1, 10001] (by simp)) se (by simpa using sf) (by simp)).mono ?_); rintro e w5 ⟨z, hz, rfl, C5, g5⟩; have bz : -1 ≤ z ∧ z ≤ 10001 := (by simp at hz; omega); clear r0 r1 r2 fr0 fr1 fr2 p0 p1 p2 fp0 fp1 fp2; replace rB := (rB.alloc _).far' g5 hrb; replace pB := (pB.alloc _).far' g5 hpb; obtain ⟨⟨r0, r1, r2⟩, fr0, fr1, fr2⟩ := id rB; obtain ⟨⟨p0, p1, p2⟩, fp0, fp1, fp2⟩ := id pB; replace GG := below_grown (Nat.le_refl _) (GG.alloc GG.size _) g5 hb1; replace CC := C5; clear g5 C5 hz hk hkb sa sb sc sd se sf))
  all_goals
    go_wp2
    go_light
    refine bodyPost_ret (v := .tuple #[.agg #[.int .i64 V, .int .i64 N, .int .i64 D], .int .i64 v, .int .i64 z]) (by simp (maxDischargeDepth := 8) [results, Try.results36, go_sem, *]) rfl ?_
    exact ⟨V, N, D, v, z, ⟨v0, v1⟩, bz, rfl, by (repeat' (first | (with_reducible exact Below.refl _ _) | (with_reducible assumption) | (with_reducible refine below_drewN ?_ _) | (with_reducible refine Below.alloc ?_ ?_ _) | (with_reducible refine Below.drew ?_) | (with_reducible refine Below.setCell ?_ ?_ _) | go_size))⟩

set_option maxHeartbeats 2000000 in
theorem drawJoin_c (A : Option Addr) (n c : Nat) (w : World) (h : RdB w w.heap.size A n) :
    Calls Try.prog 37 #[.slice A n c] w fun e w' => ∃ V N D V' N' D' : Int, e = .returned (.tuple #[.agg #[.int .i64 V, .int .i64 N, .int .i64 D], .agg #[.int .i64 V', .int .i64 N', .int .i64 D']]) ∧ Below w.heap.size w w' := by
  go_enter Try.func37, Try.ntmps37
  go_wp2_with fail
  obtain ⟨W0, hW0⟩ : ∃ W, W = w.alloc (.cells #[.int .i64 0, .int .i64 0, .int .i64 0] 25) := ⟨_, rfl⟩
  obtain ⟨W1, hW1⟩ : ∃ W, W = W0.alloc (.cells #[.int .i64 0, .int .i64 0, .int .i64 0] 25) := ⟨_, rfl⟩
  obtain ⟨W, hW⟩ : ∃ W, W = W1.alloc (.cells #[.slice A n c, .int .i64 0, .int .u64 0] 71) := ⟨_, rfl⟩
  rw [← hW0, ← hW1, ← hW]
  have B0 : Below w.heap.size w W := by rw [hW, hW1, hW0]; exact (((Below.refl _ _).alloc (Nat.le_refl _) _).alloc (by simp only [World.size_alloc]; omega) _).alloc (by simp only [World.size_alloc]; omega) _
  have sb : W1.heap.size = w.heap.size + 1 + 1 := by rw [hW1, hW0]; simp
  have C0 : Cur W W1.heap.size A n c 0 := by rw [hW]; exact Cur.new _ _ (by rw [sb, hW1, hW0]; exact (h.below (((Below.refl _ _).alloc (Nat.le_refl _) _).alloc (by simp only [World.size_alloc]; omega) _)).more (by omega))
  have rB0 : Box3 W w.heap.size 0 0 0 := by rw [hW, hW1, hW0]; exact ((Box3.new _ _ _ _ _).alloc _).alloc _
  have sB0 : Box3 W (w.heap.size + 1) 0 0 0 := by have e : W0.heap.size = w.heap.size + 1 := by { rw [hW0]; simp }
                                                  rw [hW, hW1, ← e]; exact (Box3.new _ _ _ _ _).alloc _
  rw [sb] at C0
  clear hW hW0 hW1 sb h
  obtain ⟨b, hb⟩ : ∃ b, b = w.heap.size + 1 + 1 := ⟨_, rfl⟩
  rw [← hb] at C0 ⊢
  have hb1 : w.heap.size ≤ b := by omega
  have hrb : w.heap.size ≠ b := by omega
  have hsb : w.heap.size + 1 ≠ b := by omega
  clear hb
  refine (content_c b A n c 0 W C0 (by omega)).mono ?_
  rintro e w1 ⟨V, N, D, rfl, C1, g1⟩
  have G1 := below_grown (Nat.le_refl _) B0 g1 hb1
  have rB1 := rB0.far' g1 hrb
  have sB1 := sB0.far' g1 hsb
  clear g1 C0 B0 rB0 sB0
  go_wp2_with fail
  refine (content_c b A n c 16 w1 C1 (by omega)).mono ?_
  rintro e w2 ⟨V', N', D', rfl, C2, g2⟩
  have G2 := below_grown (Nat.le_refl _) G1 g2 hb1
  have rB := rB1.far' g2 hrb
  have sB := sB1.far' g2 hsb
  clear rB1 sB1 g2 C1 G1
  obtain ⟨⟨r0, r1, r2⟩, fr0, fr1, fr2⟩ := id rB
  obtain ⟨⟨s0, s1, s2⟩, fs0, fs1, fs2⟩ := id sB
  go_wp2
  go_light
  refine bodyPost_ret (v := (.tuple #[.agg #[.int .i64 V, .int .i64 N, .int .i64 D], .agg #[.int .i64 V', .int .i64 N', .int .i64 D']])) (by simp (maxDischargeDepth := 8) [results, Try.results37, go_sem, *]) rfl ?_
  exact ⟨V, N, D, V', N', D', rfl, by (repeat' (first | (with_reducible exact Below.refl _ _) | (with_reducible assumption) | (with_reducible refine below_drewN ?_ _) | (with_reducible refine Below.alloc ?_ ?_ _) | (with_reducible refine Below.drew ?_) | (with_reducible refine Below.setCell ?_ ?_ _) | go_size))⟩
end Go.Proofs.Ytbcgcpdnmpejlaa
