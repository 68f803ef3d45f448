/- Contracts: the cost to go, the shadow price. -/
import Derived.Test.YtofcienabddpjaaQCost
import Derived.Test.YtofcienabddpjaaQSpec
namespace Go.Proofs.Ytofcienabddpjaa
open Go.RowKit

def askB (L E M P : Int) (xs ys : List Int) (k l : Int) : Bool := goodPm L E M P xs ys && (inB k 0 ys.length && inB l E M)
def cgo (L E M P : Int) (xs ys : List Int) (k l : Int) : Int × Bool :=
  if askB L E M P xs ys k l = true then (if tabV E M P L xs ys ys.length (ys.length - k.toNat) l < 0 then (0, false) else (tabV E M P L xs ys ys.length (ys.length - k.toNat) l, true)) else (0, false)
theorem cgo_no {L E M P : Int} {xs ys : List Int} {k l : Int} (h : askB L E M P xs ys k l = false) : cgo L E M P xs ys k l = (0, false) := by unfold cgo; rw [if_neg (by rw [h]; decide)]
theorem ask_ways (L E M P : Int) (xs ys : List Int) (k l : Int) :
    (goodPm L E M P xs ys = false ∧ askB L E M P xs ys k l = false) ∨ (goodPm L E M P xs ys = true ∧ inB k 0 ys.length = false ∧ askB L E M P xs ys k l = false) ∨
    (goodPm L E M P xs ys = true ∧ inB k 0 ys.length = true ∧ inB l E M = false ∧ askB L E M P xs ys k l = false) ∨
    (goodPm L E M P xs ys = true ∧ inB k 0 ys.length = true ∧ inB l E M = true ∧ askB L E M P xs ys k l = true) := by
  unfold askB
  cases goodPm L E M P xs ys <;> cases inB k 0 ys.length <;> cases inB l E M <;> simp
set_option maxHeartbeats 1000000 in
theorem implGo_c {B B' : Nat} (L E M P : Int) (A A' : Option Addr) (c c' : Nat) (xs ys : List Int) (k l : Int) (w : World) (h : RdI w B A xs) (h' : RdI w B' A' ys) (hS1 : B ≤ w.heap.size) (hS2 : B' ≤ w.heap.size) (hnil : A = none → c = 0) (hnil' : A' = none → c' = 0) (hm : xs.length ≤ 1048576) (hm' : ys.length ≤ 1048576) :
    Calls Try.prog 15 #[.agg #[.int .i64 L, .int .i64 E, .int .i64 M, .int .i64 P, .slice A xs.length c, .slice A' ys.length c'], .int .i64 k, .int .i64 l] w fun e w' => e = .returned (.tuple #[.int .i64 (cgo L E M P xs ys k l).1, .bool (cgo L E M P xs ys k l).2]) ∧ Below w.heap.size w w' := by
  have good := implPump_c L E M P A A' c c' xs ys _ (h.alloc hS1 (.cells #[.int .i64 L, .int .i64 E, .int .i64 M, .int .i64 P, .slice A xs.length c, .slice A' ys.length c'] 28)) (h'.alloc hS2 _) (by simp; omega) (by simp; omega) hnil hnil' hm hm'
  rcases ask_ways L E M P xs ys k l with ⟨g, e⟩ | ⟨g, a, e⟩ | ⟨g, a, b, e⟩ | ⟨g, a, b, e⟩
  · rw [g] at good
    rw [cgo_no e]
    have GOOD := Lib.hid good
    clear good g e h h'
    go_enter Try.func15, Try.ntmps15
    go_wp2_with (first | (go_at_call 17; refine (GOOD.out).mono ?_; rintro e w1 ⟨rfl, hb1⟩; have hz1 := hb1.size; (repeat (first | rw [World.size_alloc] at hz1 | rw [World.size_drew] at hz1 | rw [World.heap_drewN] at hz1 | rw [World.size_setCell] at hz1)); have hB : Below w.heap.size w w1 := Below.trans (by (repeat' (first | (with_reducible exact Below.refl _ _) | (with_reducible assumption) | (with_reducible refine below_drewN ?_ _) | (with_reducible refine Below.alloc ?_ ?_ _) | (with_reducible refine Below.drew ?_) | (with_reducible refine Below.setCell ?_ ?_ _) | go_size))) (hb1.mono (by go_size)); have hL1 := hb1; clear hb1; obtain ⟨hc1, hf1⟩ := bcell hL1) | (go_at_call 45; refine (inside_c _ _ _ _).mono ?_; rintro e w' ⟨rfl, rfl⟩))
    (go_returns; exact ⟨by first | rfl | (simp; done) | (simp; omega), by (repeat' (first | (with_reducible exact Below.refl _ _) | (with_reducible assumption) | (with_reducible refine below_drewN ?_ _) | (with_reducible refine Below.alloc ?_ ?_ _) | (with_reducible refine Below.drew ?_) | (with_reducible refine Below.setCell ?_ ?_ _) | go_size))⟩)
  · rw [g] at good
    rw [cgo_no e]
    have GOOD := Lib.hid good
    clear good g e h h'
    go_enter Try.func15, Try.ntmps15
    go_wp2_with (first | (go_at_call 17; refine (GOOD.out).mono ?_; rintro e w1 ⟨rfl, hb1⟩; have hz1 := hb1.size; (repeat (first | rw [World.size_alloc] at hz1 | rw [World.size_drew] at hz1 | rw [World.heap_drewN] at hz1 | rw [World.size_setCell] at hz1)); have hB : Below w.heap.size w w1 := Below.trans (by (repeat' (first | (with_reducible exact Below.refl _ _) | (with_reducible assumption) | (with_reducible refine below_drewN ?_ _) | (with_reducible refine Below.alloc ?_ ?_ _) | (with_reducible refine Below.drew ?_) | (with_reducible refine Below.setCell ?_ ?_ _) | go_size))) (hb1.mono (by go_size)); have hL1 := hb1; clear hb1; obtain ⟨hc1, hf1⟩ := bcell hL1) | (go_at_call 45; refine (inside_c _ _ _ _).mono ?_; rintro e w' ⟨rfl, rfl⟩))
    (go_returns; exact ⟨by first | rfl | (simp; done) | (simp; omega), by (repeat' (first | (with_reducible exact Below.refl _ _) | (with_reducible assumption) | (with_reducible refine below_drewN ?_ _) | (with_reducible refine Below.alloc ?_ ?_ _) | (with_reducible refine Below.drew ?_) | (with_reducible refine Below.setCell ?_ ?_ _) | go_size))⟩)
  · rw [g] at good
    rw [cgo_no e]
    have GOOD := Lib.hid good
    clear good g e h h'
    go_enter Try.func15, Try.ntmps15
    go_wp2_with (first | (go_at_call 17; refine (GOOD.out).mono ?_; rintro e w1 ⟨rfl, hb1⟩; have hz1 := hb1.size; (repeat (first | rw [World.size_alloc] at hz1 | rw [World.size_drew] at hz1 | rw [World.heap_drewN] at hz1 | rw [World.size_setCell] at hz1)); have hB : Below w.heap.size w w1 := Below.trans (by (repeat' (first | (with_reducible exact Below.refl _ _) | (with_reducible assumption) | (with_reducible refine below_drewN ?_ _) | (with_reducible refine Below.alloc ?_ ?_ _) | (with_reducible refine Below.drew ?_) | (with_reducible refine Below.setCell ?_ ?_ _) | go_size))) (hb1.mono (by go_size)); have hL1 := hb1; clear hb1; obtain ⟨hc1, hf1⟩ := bcell hL1) | (go_at_call 45; refine (inside_c _ _ _ _).mono ?_; rintro e w' ⟨rfl, rfl⟩))
    (go_returns; exact ⟨by first | rfl | (simp; done) | (simp; omega), by (repeat' (first | (with_reducible exact Below.refl _ _) | (with_reducible assumption) | (with_reducible refine below_drewN ?_ _) | (with_reducible refine Below.alloc ?_ ?_ _) | (with_reducible refine Below.drew ?_) | (with_reducible refine Below.setCell ?_ ?_ _) | go_size))⟩)
  have nb := NumB.of g
  obtain ⟨e0, el, lm, m1, g0, g1, n1, n2, nq, hq, hy⟩ := id nb
  have ka := inB_out a
  have lb := inB_out b
  obtain ⟨k, rfl⟩ := Int.eq_ofNat_of_zero_le ka.1
  obtain ⟨l, rfl⟩ := Int.eq_ofNat_of_zero_le (show 0 ≤ l by omega)
  have cst := fun (s : World) (q1 : RdI s s.heap.size A xs) (q2 : RdI s s.heap.size A' ys) => costsOf_c L E M P A A' A c c' c xs ys xs s q1 q2 (Nat.le_refl _) (Nat.le_refl _) nb
  have tb := tabV_b (E := E) (M := M) (L := L) (ys := ys) (xs := xs) (P := P) g1 hq (ys.length - k) (by omega) l
  have ec : cgo L E M P xs ys k l = if tabV E M P L xs ys ys.length (ys.length - k) l < 0 then (0, false) else (tabV E M P L xs ys ys.length (ys.length - k) l, true) := by unfold cgo; rw [if_pos e, Int.toNat_natCast]
  have hk13 : (k : Int) < 13 := by omega
  have hl61 : (l : Int) < 61 := by omega
  have k0 : (0 : Int) ≤ k := by omega
  have l0 : (0 : Int) ≤ l := by omega
  have hi : k * 61 + l < 793 := by omega
  have hk : k ≤ ys.length := by omega
  have hl1 : E ≤ l := lb.1
  have hl2 : (l : Int) ≤ M := lb.2
  rw [g] at good
  obtain ⟨r1, r2, hr⟩ : ∃ r1 r2, cgo L E M P xs ys k l = (r1, r2) := ⟨_, _, rfl⟩
  rw [hr]
  rw [ec] at hr
  have HR := Lib.hid hr
  clear hr
  have GOOD := Lib.hid good
  have CST := Lib.hid cst
  have H1 := Lib.hid h
  have H2 := Lib.hid h'
  clear good g e ec h h' cst nb nq hq hy hm hm' ka lb
  go_enter Try.func15, Try.ntmps15
  go_wp2_with (first | (go_at_call 17; refine (GOOD.out).mono ?_; rintro e w1 ⟨rfl, hb1⟩; have hz1 := hb1.size; (repeat (first | rw [World.size_alloc] at hz1 | rw [World.size_drew] at hz1 | rw [World.heap_drewN] at hz1 | rw [World.size_setCell] at hz1)); have hB : Below w.heap.size w w1 := Below.trans (by (repeat' (first | (with_reducible exact Below.refl _ _) | (with_reducible assumption) | (with_reducible refine below_drewN ?_ _) | (with_reducible refine Below.alloc ?_ ?_ _) | (with_reducible refine Below.drew ?_) | (with_reducible refine Below.setCell ?_ ?_ _) | go_size))) (hb1.mono (by go_size)); have hL1 := hb1; clear hb1; obtain ⟨hc1, hf1⟩ := bcell hL1) | (go_at_call 45; refine (inside_c _ _ _ _).mono ?_; rintro e w' ⟨rfl, rfl⟩))
  go_at_call 46
  with_reducible refine (CST.out _ ((H1.out.below (hB.mono hS1)).more (Nat.le_trans hS1 hB.size)) ((H2.out.below (hB.mono hS2)).more (Nat.le_trans hS2 hB.size))).mono ?_
  rintro e' w2 ⟨T, F, rfl, hT, hTab, hR, hb2⟩
  have hv := hR (ys.length - k) (by omega) l hl1 hl2 (by omega)
  rw [show ys.length - (ys.length - k) = k by omega] at hv
  have cT := hTab.cell _ hi
  rw [hv] at cT
  have BX := hB.trans (hb2.mono hB.size)
  clear hR hTab hv hb2 CST GOOD H1 H2
  generalize tabV E M P L xs ys ys.length (ys.length - k) l = v at *
  by_cases hv : v < 0
  · rw [encV, if_pos hv] at cT
    have hr := HR.out
    rw [if_pos hv] at hr
    obtain ⟨rfl, rfl⟩ := Prod.mk.inj hr
    clear HR hr
    unfold noC at cT
    go_wp2
    (go_returns; exact ⟨by first | rfl | (simp; done) | (simp; omega), by (repeat' (first | (with_reducible exact Below.refl _ _) | (with_reducible assumption) | (with_reducible refine below_drewN ?_ _) | (with_reducible refine Below.alloc ?_ ?_ _) | (with_reducible refine Below.drew ?_) | (with_reducible refine Below.setCell ?_ ?_ _) | go_size))⟩)
  · rw [encV, if_neg hv] at cT
    have hr := HR.out
    rw [if_neg hv] at hr
    obtain ⟨rfl, rfl⟩ := Prod.mk.inj hr
    clear HR hr
    go_wp2
    (go_returns; exact ⟨by first | rfl | (simp; done) | (simp; omega), by (repeat' (first | (with_reducible exact Below.refl _ _) | (with_reducible assumption) | (with_reducible refine below_drewN ?_ _) | (with_reducible refine Below.alloc ?_ ?_ _) | (with_reducible refine Below.drew ?_) | (with_reducible refine Below.setCell ?_ ?_ _) | go_size))⟩)
set_option maxHeartbeats 1000000 in
theorem asked_c {B B' : Nat} (L E M P : Int) (A A' : Option Addr) (c c' : Nat) (xs ys : List Int) (k l : Int) (w : World) (h : RdI w B A xs) (h' : RdI w B' A' ys) (hS1 : B ≤ w.heap.size) (hS2 : B' ≤ w.heap.size) (hm : xs.length ≤ 1048576) (hm' : ys.length ≤ 1048576) :
    Calls Try.prog 47 #[.agg #[.int .i64 L, .int .i64 E, .int .i64 M, .int .i64 P, .slice A xs.length c, .slice A' ys.length c'], .int .i64 k, .int .i64 l] w fun e w' => e = .returned (.bool (askB L E M P xs ys k l)) ∧ Below w.heap.size w w' := by
  have good := l13Good_c L E M P A A' c c' xs ys _ (h.alloc hS1 (.cells #[.int .i64 L, .int .i64 E, .int .i64 M, .int .i64 P, .slice A xs.length c, .slice A' ys.length c'] 28)) (h'.alloc hS2 _) (by simp; omega) (by simp; omega) hm hm'
  rcases ask_ways L E M P xs ys k l with ⟨g, e⟩ | ⟨g, a, e⟩ | ⟨g, a, b, e⟩ | ⟨g, a, b, e⟩
  · rw [g] at good
    rw [e]
    have GOOD := Lib.hid good
    clear good g e h h'
    go_enter Try.func47, Try.ntmps47
    go_wp2_with (first | (go_at_call 57; refine (GOOD.out).mono ?_; rintro e w1 ⟨rfl, hb1⟩; have hz1 := hb1.size; (repeat (first | rw [World.size_alloc] at hz1 | rw [World.size_drew] at hz1 | rw [World.heap_drewN] at hz1 | rw [World.size_setCell] at hz1)); have hB : Below w.heap.size w w1 := Below.trans (by (repeat' (first | (with_reducible exact Below.refl _ _) | (with_reducible assumption) | (with_reducible refine below_drewN ?_ _) | (with_reducible refine Below.alloc ?_ ?_ _) | (with_reducible refine Below.drew ?_) | (with_reducible refine Below.setCell ?_ ?_ _) | go_size))) (hb1.mono (by go_size)); have hL1 := hb1; clear hb1; obtain ⟨hc1, hf1⟩ := bcell hL1) | (go_at_call 74; refine (l1In_c _ _ _ _).mono ?_; rintro e w' ⟨rfl, rfl⟩))
    (go_returns; exact ⟨by first | rfl | (simp; done) | (simp; omega), by (repeat' (first | (with_reducible exact Below.refl _ _) | (with_reducible assumption) | (with_reducible refine below_drewN ?_ _) | (with_reducible refine Below.alloc ?_ ?_ _) | (with_reducible refine Below.drew ?_) | (with_reducible refine Below.setCell ?_ ?_ _) | go_size))⟩)
  all_goals
    have nq := (NumB.of g).nq
    rw [nq] at good
    rw [g] at good
    rw [nq, e]
    have GOOD := Lib.hid good
    clear good g e h h' nq
    go_enter Try.func47, Try.ntmps47
    go_wp2_with (first | (go_at_call 57; refine (GOOD.out).mono ?_; rintro e w1 ⟨rfl, hb1⟩; have hz1 := hb1.size; (repeat (first | rw [World.size_alloc] at hz1 | rw [World.size_drew] at hz1 | rw [World.heap_drewN] at hz1 | rw [World.size_setCell] at hz1)); have hB : Below w.heap.size w w1 := Below.trans (by (repeat' (first | (with_reducible exact Below.refl _ _) | (with_reducible assumption) | (with_reducible refine below_drewN ?_ _) | (with_reducible refine Below.alloc ?_ ?_ _) | (with_reducible refine Below.drew ?_) | (with_reducible refine Below.setCell ?_ ?_ _) | go_size))) (hb1.mono (by go_size)); have hL1 := hb1; clear hb1; obtain ⟨hc1, hf1⟩ := bcell hL1) | (go_at_call 74; refine (l1In_c _ _ _ _).mono ?_; rintro e w' ⟨rfl, rfl⟩))
    (go_returns; exact ⟨by first | rfl | (simp; done) | (simp; omega), by (repeat' (first | (with_reducible exact Below.refl _ _) | (with_reducible assumption) | (with_reducible refine below_drewN ?_ _) | (with_reducible refine Below.alloc ?_ ?_ _) | (with_reducible refine Below.drew ?_) | (with_reducible refine Below.setCell ?_ ?_ _) | go_size))⟩)
set_option maxHeartbeats 1000000 in
theorem specGo_c {B B' : Nat} (L E M P : Int) (A A' : Option Addr) (c c' : Nat) (xs ys : List Int) (k l : Int) (w : World) (h : RdI w B A xs) (h' : RdI w B' A' ys) (hS1 : B ≤ w.heap.size) (hS2 : B' ≤ w.heap.size) (hm : xs.length ≤ 1048576) (hm' : ys.length ≤ 1048576) :
    Calls Try.prog 16 #[.agg #[.int .i64 L, .int .i64 E, .int .i64 M, .int .i64 P, .slice A xs.length c, .slice A' ys.length c'], .int .i64 k, .int .i64 l] w fun e w' => e = .returned (.tuple #[.int .i64 (cgo L E M P xs ys k l).1, .bool (cgo L E M P xs ys k l).2]) ∧ Below w.heap.size w w' := by
  have good := asked_c L E M P A A' c c' xs ys k l _ (h.alloc hS1 (.cells #[.int .i64 L, .int .i64 E, .int .i64 M, .int .i64 P, .slice A xs.length c, .slice A' ys.length c'] 28)) (h'.alloc hS2 _) (by simp; omega) (by simp; omega) hm hm'
  rcases ask_ways L E M P xs ys k l with ⟨g, e⟩ | ⟨g, a, e⟩ | ⟨g, a, b, e⟩ | ⟨g, a, b, e⟩
  case inr.inr.inr =>
    have nb := NumB.of g
    obtain ⟨e0, el, lm, m1, g0, g1, n1, n2, nq, hq, hy⟩ := id nb
    have ka := inB_out a
    have lb := inB_out b
    obtain ⟨k, rfl⟩ := Int.eq_ofNat_of_zero_le ka.1
    obtain ⟨l, rfl⟩ := Int.eq_ofNat_of_zero_le (show 0 ≤ l by omega)
    have cst := fun (s : World) (q1 : RdI s s.heap.size A xs) (q2 : RdI s s.heap.size A' ys) => l13Table_c L E M P A A' c c' xs ys s q1 q2 (Nat.le_refl _) (Nat.le_refl _) g
    have ec : cgo L E M P xs ys k l = if tabV E M P L xs ys ys.length (ys.length - k) l < 0 then (0, false) else (tabV E M P L xs ys ys.length (ys.length - k) l, true) := by unfold cgo; rw [if_pos e, Int.toNat_natCast]
    have hkn : (k : Int) < (ys.length : Int) + 1 := by omega
    have k0 : (0 : Int) ≤ k := by omega
    have l0 : (0 : Int) ≤ l := by omega
    have hk : k ≤ ys.length := by omega
    have hlm : l < M.toNat + 1 := by omega
    have hlm2 : (l : Int) < (M.toNat : Int) + 1 := by omega
    rw [e] at good
    obtain ⟨r1, r2, hr⟩ : ∃ r1 r2, cgo L E M P xs ys k l = (r1, r2) := ⟨_, _, rfl⟩
    rw [hr]
    rw [ec] at hr
    have HR := Lib.hid hr
    have GOOD := Lib.hid good
    have CST := Lib.hid cst
    have H1 := Lib.hid h
    have H2 := Lib.hid h'
    clear good g e ec h h' cst nb nq hq hy hm hm' ka lb a b hr
    go_enter Try.func16, Try.ntmps16
    go_wp2_with (first | (go_at_call 47; refine (GOOD.out).mono ?_; rintro e w1 ⟨rfl, hb1⟩; have hz1 := hb1.size; (repeat (first | rw [World.size_alloc] at hz1 | rw [World.size_drew] at hz1 | rw [World.heap_drewN] at hz1 | rw [World.size_setCell] at hz1)); have hB : Below w.heap.size w w1 := Below.trans (by (repeat' (first | (with_reducible exact Below.refl _ _) | (with_reducible assumption) | (with_reducible refine below_drewN ?_ _) | (with_reducible refine Below.alloc ?_ ?_ _) | (with_reducible refine Below.drew ?_) | (with_reducible refine Below.setCell ?_ ?_ _) | go_size))) (hb1.mono (by go_size)); have hL1 := hb1; clear hb1; obtain ⟨hc1, hf1⟩ := bcell hL1))
    go_at_call 48
    with_reducible refine (CST.out _ ((H1.out.below (hB.mono hS1)).more (Nat.le_trans hS1 hB.size)) ((H2.out.below (hB.mono hS2)).more (Nat.le_trans hS2 hB.size))).mono ?_
    rintro e' w2 ⟨T, B1, rfl, hT, hb2⟩
    obtain ⟨b3, o3, c3, q1, q2, q3, q4⟩ := hT.rows k (by omega) hk
    have q5 : w2.cell? ⟨b3, o3 + l, none⟩ = some (.int .i64 (tabV E M P L xs ys ys.length (ys.length - k) l)) := q4 l hlm
    have BX := hB.trans (hb2.mono hB.size)
    clear hb2 CST GOOD H1 H2 hT q4
    generalize tabV E M P L xs ys ys.length (ys.length - k) l = v at *
    by_cases hv : v < 0
    · have hr := HR.out
      rw [if_pos hv] at hr
      obtain ⟨rfl, rfl⟩ := Prod.mk.inj hr
      clear HR hr
      go_wp2
      (go_returns; exact ⟨by first | rfl | (simp; done) | (simp; omega), by (repeat' (first | (with_reducible exact Below.refl _ _) | (with_reducible assumption) | (with_reducible refine below_drewN ?_ _) | (with_reducible refine Below.alloc ?_ ?_ _) | (with_reducible refine Below.drew ?_) | (with_reducible refine Below.setCell ?_ ?_ _) | go_size))⟩)
    · have hr := HR.out
      rw [if_neg hv] at hr
      obtain ⟨rfl, rfl⟩ := Prod.mk.inj hr
      clear HR hr
      go_wp2
      (go_returns; exact ⟨by first | rfl | (simp; done) | (simp; omega), by (repeat' (first | (with_reducible exact Below.refl _ _) | (with_reducible assumption) | (with_reducible refine below_drewN ?_ _) | (with_reducible refine Below.alloc ?_ ?_ _) | (with_reducible refine Below.drew ?_) | (with_reducible refine Below.setCell ?_ ?_ _) | go_size))⟩)
  all_goals
    rw [e] at good
    rw [cgo_no e]
    have GOOD := Lib.hid good
    clear good g e h h'
    go_enter Try.func16, Try.ntmps16
    go_wp2_with (first | (go_at_call 47; refine (GOOD.out).mono ?_; rintro e w1 ⟨rfl, hb1⟩; have hz1 := hb1.size; (repeat (first | rw [World.size_alloc] at hz1 | rw [World.size_drew] at hz1 | rw [World.heap_drewN] at hz1 | rw [World.size_setCell] at hz1)); have hB : Below w.heap.size w w1 := Below.trans (by (repeat' (first | (with_reducible exact Below.refl _ _) | (with_reducible assumption) | (with_reducible refine below_drewN ?_ _) | (with_reducible refine Below.alloc ?_ ?_ _) | (with_reducible refine Below.drew ?_) | (with_reducible refine Below.setCell ?_ ?_ _) | go_size))) (hb1.mono (by go_size)); have hL1 := hb1; clear hb1; obtain ⟨hc1, hf1⟩ := bcell hL1))
    (go_returns; exact ⟨by first | rfl | (simp; done) | (simp; omega), by (repeat' (first | (with_reducible exact Below.refl _ _) | (with_reducible assumption) | (with_reducible refine below_drewN ?_ _) | (with_reducible refine Below.alloc ?_ ?_ _) | (with_reducible refine Below.drew ?_) | (with_reducible refine Below.setCell ?_ ?_ _) | go_size))⟩)
end Go.Proofs.Ytofcienabddpjaa
