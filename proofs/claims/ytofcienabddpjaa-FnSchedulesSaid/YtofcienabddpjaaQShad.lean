/- Contracts: the shadow price. -/
import Derived.Test.YtofcienabddpjaaQGo
namespace Go.Proofs.Ytofcienabddpjaa
open Go.RowKit

def shp (L E M P : Int) (xs ys : List Int) (k l : Int) : Int × Bool :=
  if (cgo L E M P xs ys k l).2 = true ∧ (cgo L E M P xs ys k (IntKind.i64.wrap (l + 1))).2 = true then ((cgo L E M P xs ys k l).1 - (cgo L E M P xs ys k (IntKind.i64.wrap (l + 1))).1, true) else (0, false)
theorem cgo_yes {L E M P : Int} {xs ys : List Int} {k l : Int} (h : (cgo L E M P xs ys k l).2 = true) : l ≤ 60 ∧ 0 ≤ (cgo L E M P xs ys k l).1 ∧ (cgo L E M P xs ys k l).1 ≤ 100000 := by
  rcases ask_ways L E M P xs ys k l with ⟨g, e⟩ | ⟨g, a, e⟩ | ⟨g, a, b, e⟩ | ⟨g, a, b, e⟩
  · rw [cgo_no e] at h; cases h
  · rw [cgo_no e] at h; cases h
  · rw [cgo_no e] at h; cases h
  · have nb := NumB.of g
    have ka := inB_out a
    have lb := inB_out b
    have tb := tabV_b (E := E) (M := M) (L := L) (ys := ys) (xs := xs) (P := P) (n := ys.length) nb.p1 nb.hq (ys.length - k.toNat) (by omega) l
    have := nb.m1
    have := nb.n2
    unfold cgo at h ⊢
    rw [if_pos e] at h ⊢
    by_cases q : tabV E M P L xs ys ys.length (ys.length - k.toNat) l < 0
    · rw [if_pos q] at h; cases h
    · rw [if_neg q]
      exact ⟨by omega, by simp only; omega, by simp only; omega⟩
theorem shp_val {L E M P : Int} {xs ys : List Int} {k l a1 a2 : Int} {b1 b2 : Bool} (h1 : cgo L E M P xs ys k l = (a1, b1)) (h2 : cgo L E M P xs ys k (IntKind.i64.wrap (l + 1)) = (a2, b2)) : shp L E M P xs ys k l = if b1 = true ∧ b2 = true then (a1 - a2, true) else (0, false) := by
  unfold shp; rw [h1, h2]
set_option maxHeartbeats 1000000 in
theorem specShad_c {B B' : Nat} (L E M P : Int) (A A' : Option Addr) (c c' : Nat) (xs ys : List Int) (k l : Int) (w : World) (h : RdI w B A xs) (h' : RdI w B' A' ys) (hS1 : B ≤ w.heap.size) (hS2 : B' ≤ w.heap.size) (hm : xs.length ≤ 1048576) (hm' : ys.length ≤ 1048576) :
    Calls Try.prog 22 #[.agg #[.int .i64 L, .int .i64 E, .int .i64 M, .int .i64 P, .slice A xs.length c, .slice A' ys.length c'], .int .i64 k, .int .i64 l] w fun e w' => e = .returned (.tuple #[.int .i64 (shp L E M P xs ys k l).1, .bool (shp L E M P xs ys k l).2]) ∧ Below w.heap.size w w' := by
  have one := fun (s : World) (q1 : RdI s s.heap.size A xs) (q2 : RdI s s.heap.size A' ys) => specGo_c L E M P A A' c c' xs ys k l s q1 q2 (Nat.le_refl _) (Nat.le_refl _) hm hm'
  have two := fun (s : World) (q1 : RdI s s.heap.size A xs) (q2 : RdI s s.heap.size A' ys) => specGo_c L E M P A A' c c' xs ys k (IntKind.i64.wrap (l + 1)) s q1 q2 (Nat.le_refl _) (Nat.le_refl _) hm hm'
  obtain ⟨a1, b1, e1⟩ : ∃ a1 b1, cgo L E M P xs ys k l = (a1, b1) := ⟨_, _, rfl⟩
  obtain ⟨a2, b2, e2⟩ : ∃ a2 b2, cgo L E M P xs ys k (IntKind.i64.wrap (l + 1)) = (a2, b2) := ⟨_, _, rfl⟩
  have y1 := cgo_yes (L := L) (E := E) (M := M) (P := P) (xs := xs) (ys := ys) (k := k) (l := l)
  have y2 := cgo_yes (L := L) (E := E) (M := M) (P := P) (xs := xs) (ys := ys) (k := k) (l := IntKind.i64.wrap (l + 1))
  rw [shp_val e1 e2]
  rw [e1] at y1
  rw [e2] at y2
  simp only [e1] at one
  simp only [e2] at two
  obtain ⟨l2, hl2⟩ : ∃ l2, IntKind.i64.wrap (l + 1) = l2 := ⟨_, rfl⟩
  simp only [hl2] at two y2
  have ONE := Lib.hid one
  have TWO := Lib.hid two
  have H1 := Lib.hid h
  have H2 := Lib.hid h'
  clear one two h h' e1 e2
  cases b1
  · clear y1 y2
    rw [if_neg (by simp)]
    go_enter Try.func22, Try.ntmps22
    go_wp2_with (first | (go_at_call 16; refine (TWO.out _ ((H1.out.below (hB.mono hS1)).more (Nat.le_trans hS1 hB.size)) ((H2.out.below (hB.mono hS2)).more (Nat.le_trans hS2 hB.size))).mono ?_; rintro e w2 ⟨rfl, hb2⟩; have hz2 := hb2.size; (repeat (first | rw [World.size_alloc] at hz2 | rw [World.size_drew] at hz2 | rw [World.heap_drewN] at hz2 | rw [World.size_setCell] at hz2)); replace hB : Below w.heap.size w w2 := Below.trans (by (repeat' (first | (with_reducible exact Below.refl _ _) | (with_reducible assumption) | (with_reducible refine below_drewN ?_ _) | (with_reducible refine Below.alloc ?_ ?_ _) | (with_reducible refine Below.drew ?_) | (with_reducible refine Below.setCell ?_ ?_ _) | go_size))) (hb2.mono (by go_size)); (first | (refine extend_then hL1 hb2 ?_ ?_ (fun hq => ?_); (focus ((repeat' (first | (with_reducible exact Below.refl _ _) | (with_reducible assumption) | (with_reducible refine below_drewN ?_ _) | (with_reducible refine Below.alloc ?_ ?_ _) | (with_reducible refine Below.drew ?_) | (with_reducible refine Below.setCell ?_ ?_ _) | go_size)); done)); (focus (go_size; done)); replace hL1 := hq; clear hq hc1 hf1; obtain ⟨hc1, hf1⟩ := bcell hL1) | (clear hL1 hc1 hf1) | skip); have hL2 := hb2; clear hb2; obtain ⟨hc2, hf2⟩ := bcell hL2) | (go_at_call 16; refine (ONE.out _ ((H1.out.alloc hS1 _).more (by simp; omega)) ((H2.out.alloc hS2 _).more (by simp; omega))).mono ?_; rintro e w1 ⟨rfl, hb1⟩; have hz1 := hb1.size; (repeat (first | rw [World.size_alloc] at hz1 | rw [World.size_drew] at hz1 | rw [World.heap_drewN] at hz1 | rw [World.size_setCell] at hz1)); have hB : Below w.heap.size w w1 := Below.trans (by (repeat' (first | (with_reducible exact Below.refl _ _) | (with_reducible assumption) | (with_reducible refine below_drewN ?_ _) | (with_reducible refine Below.alloc ?_ ?_ _) | (with_reducible refine Below.drew ?_) | (with_reducible refine Below.setCell ?_ ?_ _) | go_size))) (hb1.mono (by go_size)); have hL1 := hb1; clear hb1; obtain ⟨hc1, hf1⟩ := bcell hL1))
    (go_returns; exact ⟨by first | rfl | (simp; done) | (simp; omega), by (repeat' (first | (with_reducible exact Below.refl _ _) | (with_reducible assumption) | (with_reducible refine below_drewN ?_ _) | (with_reducible refine Below.alloc ?_ ?_ _) | (with_reducible refine Below.drew ?_) | (with_reducible refine Below.setCell ?_ ?_ _) | go_size))⟩)
  · have z1 := y1 rfl
    try simp only at z1
    cases b2
    · clear y1 y2
      rw [if_neg (by simp)]
      go_enter Try.func22, Try.ntmps22
      go_wp2_with (first | (go_at_call 16; refine (TWO.out _ ((H1.out.below (hB.mono hS1)).more (Nat.le_trans hS1 hB.size)) ((H2.out.below (hB.mono hS2)).more (Nat.le_trans hS2 hB.size))).mono ?_; rintro e w2 ⟨rfl, hb2⟩; have hz2 := hb2.size; (repeat (first | rw [World.size_alloc] at hz2 | rw [World.size_drew] at hz2 | rw [World.heap_drewN] at hz2 | rw [World.size_setCell] at hz2)); replace hB : Below w.heap.size w w2 := Below.trans (by (repeat' (first | (with_reducible exact Below.refl _ _) | (with_reducible assumption) | (with_reducible refine below_drewN ?_ _) | (with_reducible refine Below.alloc ?_ ?_ _) | (with_reducible refine Below.drew ?_) | (with_reducible refine Below.setCell ?_ ?_ _) | go_size))) (hb2.mono (by go_size)); (first | (refine extend_then hL1 hb2 ?_ ?_ (fun hq => ?_); (focus ((repeat' (first | (with_reducible exact Below.refl _ _) | (with_reducible assumption) | (with_reducible refine below_drewN ?_ _) | (with_reducible refine Below.alloc ?_ ?_ _) | (with_reducible refine Below.drew ?_) | (with_reducible refine Below.setCell ?_ ?_ _) | go_size)); done)); (focus (go_size; done)); replace hL1 := hq; clear hq hc1 hf1; obtain ⟨hc1, hf1⟩ := bcell hL1) | (clear hL1 hc1 hf1) | skip); have hL2 := hb2; clear hb2; obtain ⟨hc2, hf2⟩ := bcell hL2) | (go_at_call 16; refine (ONE.out _ ((H1.out.alloc hS1 _).more (by simp; omega)) ((H2.out.alloc hS2 _).more (by simp; omega))).mono ?_; rintro e w1 ⟨rfl, hb1⟩; have hz1 := hb1.size; (repeat (first | rw [World.size_alloc] at hz1 | rw [World.size_drew] at hz1 | rw [World.heap_drewN] at hz1 | rw [World.size_setCell] at hz1)); have hB : Below w.heap.size w w1 := Below.trans (by (repeat' (first | (with_reducible exact Below.refl _ _) | (with_reducible assumption) | (with_reducible refine below_drewN ?_ _) | (with_reducible refine Below.alloc ?_ ?_ _) | (with_reducible refine Below.drew ?_) | (with_reducible refine Below.setCell ?_ ?_ _) | go_size))) (hb1.mono (by go_size)); have hL1 := hb1; clear hb1; obtain ⟨hc1, hf1⟩ := bcell hL1))
      (go_returns; exact ⟨by first | rfl | (simp; done) | (simp; omega), by (repeat' (first | (with_reducible exact Below.refl _ _) | (with_reducible assumption) | (with_reducible refine below_drewN ?_ _) | (with_reducible refine Below.alloc ?_ ?_ _) | (with_reducible refine Below.drew ?_) | (with_reducible refine Below.setCell ?_ ?_ _) | go_size))⟩)
    · have z2 := y2 rfl
      try simp only at z2
      have W : IntKind.i64.wrap (a1 - a2) = a1 - a2 := IntWalk.i64_in _ (by omega)
      clear y1 y2
      rw [if_pos ⟨rfl, rfl⟩]
      go_enter Try.func22, Try.ntmps22
      go_wp2_with (first | (go_at_call 16; refine (TWO.out _ ((H1.out.below (hB.mono hS1)).more (Nat.le_trans hS1 hB.size)) ((H2.out.below (hB.mono hS2)).more (Nat.le_trans hS2 hB.size))).mono ?_; rintro e w2 ⟨rfl, hb2⟩; have hz2 := hb2.size; (repeat (first | rw [World.size_alloc] at hz2 | rw [World.size_drew] at hz2 | rw [World.heap_drewN] at hz2 | rw [World.size_setCell] at hz2)); replace hB : Below w.heap.size w w2 := Below.trans (by (repeat' (first | (with_reducible exact Below.refl _ _) | (with_reducible assumption) | (with_reducible refine below_drewN ?_ _) | (with_reducible refine Below.alloc ?_ ?_ _) | (with_reducible refine Below.drew ?_) | (with_reducible refine Below.setCell ?_ ?_ _) | go_size))) (hb2.mono (by go_size)); (first | (refine extend_then hL1 hb2 ?_ ?_ (fun hq => ?_); (focus ((repeat' (first | (with_reducible exact Below.refl _ _) | (with_reducible assumption) | (with_reducible refine below_drewN ?_ _) | (with_reducible refine Below.alloc ?_ ?_ _) | (with_reducible refine Below.drew ?_) | (with_reducible refine Below.setCell ?_ ?_ _) | go_size)); done)); (focus (go_size; done)); replace hL1 := hq; clear hq hc1 hf1; obtain ⟨hc1, hf1⟩ := bcell hL1) | (clear hL1 hc1 hf1) | skip); have hL2 := hb2; clear hb2; obtain ⟨hc2, hf2⟩ := bcell hL2) | (go_at_call 16; refine (ONE.out _ ((H1.out.alloc hS1 _).more (by simp; omega)) ((H2.out.alloc hS2 _).more (by simp; omega))).mono ?_; rintro e w1 ⟨rfl, hb1⟩; have hz1 := hb1.size; (repeat (first | rw [World.size_alloc] at hz1 | rw [World.size_drew] at hz1 | rw [World.heap_drewN] at hz1 | rw [World.size_setCell] at hz1)); have hB : Below w.heap.size w w1 := Below.trans (by (repeat' (first | (with_reducible exact Below.refl _ _) | (with_reducible assumption) | (with_reducible refine below_drewN ?_ _) | (with_reducible refine Below.alloc ?_ ?_ _) | (with_reducible refine Below.drew ?_) | (with_reducible refine Below.setCell ?_ ?_ _) | go_size))) (hb1.mono (by go_size)); have hL1 := hb1; clear hb1; obtain ⟨hc1, hf1⟩ := bcell hL1))
      (go_returns; exact ⟨by first | rfl | (simp; done) | (simp; omega), by (repeat' (first | (with_reducible exact Below.refl _ _) | (with_reducible assumption) | (with_reducible refine below_drewN ?_ _) | (with_reducible refine Below.alloc ?_ ?_ _) | (with_reducible refine Below.drew ?_) | (with_reducible refine Below.setCell ?_ ?_ _) | go_size))⟩)
set_option maxHeartbeats 1000000 in
theorem implShad_c {B B' : Nat} (L E M P : Int) (A A' : Option Addr) (c c' : Nat) (xs ys : List Int) (k l : Int) (w : World) (h : RdI w B A xs) (h' : RdI w B' A' ys) (hS1 : B ≤ w.heap.size) (hS2 : B' ≤ w.heap.size) (hnil : A = none → c = 0) (hnil' : A' = none → c' = 0) (hm : xs.length ≤ 1048576) (hm' : ys.length ≤ 1048576) :
    Calls Try.prog 21 #[.agg #[.int .i64 L, .int .i64 E, .int .i64 M, .int .i64 P, .slice A xs.length c, .slice A' ys.length c'], .int .i64 k, .int .i64 l] w fun e w' => e = .returned (.tuple #[.int .i64 (shp L E M P xs ys k l).1, .bool (shp L E M P xs ys k l).2]) ∧ Below w.heap.size w w' := by
  have one := fun (s : World) (q1 : RdI s s.heap.size A xs) (q2 : RdI s s.heap.size A' ys) => implGo_c L E M P A A' c c' xs ys k l s q1 q2 (Nat.le_refl _) (Nat.le_refl _) hnil hnil' hm hm'
  have two := fun (s : World) (q1 : RdI s s.heap.size A xs) (q2 : RdI s s.heap.size A' ys) => implGo_c L E M P A A' c c' xs ys k (IntKind.i64.wrap (l + 1)) s q1 q2 (Nat.le_refl _) (Nat.le_refl _) hnil hnil' hm hm'
  obtain ⟨a1, b1, e1⟩ : ∃ a1 b1, cgo L E M P xs ys k l = (a1, b1) := ⟨_, _, rfl⟩
  obtain ⟨a2, b2, e2⟩ : ∃ a2 b2, cgo L E M P xs ys k (IntKind.i64.wrap (l + 1)) = (a2, b2) := ⟨_, _, rfl⟩
  have y1 := cgo_yes (L := L) (E := E) (M := M) (P := P) (xs := xs) (ys := ys) (k := k) (l := l)
  have y2 := cgo_yes (L := L) (E := E) (M := M) (P := P) (xs := xs) (ys := ys) (k := k) (l := IntKind.i64.wrap (l + 1))
  rw [shp_val e1 e2]
  rw [e1] at y1
  rw [e2] at y2
  simp only [e1] at one
  simp only [e2] at two
  by_cases hl : l = 9223372036854775807
  · cases b1
    · have hlb : (l == 9223372036854775807) = true := by simp [hl]
      rw [if_neg (by simp)]
      clear one two h h' e1 e2 y1 y2 hl
      go_enter Try.func21, Try.ntmps21
      go_wp2
      (go_returns; exact ⟨by first | rfl | (simp; done) | (simp; omega), by (repeat' (first | (with_reducible exact Below.refl _ _) | (with_reducible assumption) | (with_reducible refine below_drewN ?_ _) | (with_reducible refine Below.alloc ?_ ?_ _) | (with_reducible refine Below.drew ?_) | (with_reducible refine Below.setCell ?_ ?_ _) | go_size))⟩)
    · have := (y1 rfl).1
      omega
  obtain ⟨l2, hl2⟩ : ∃ l2, IntKind.i64.wrap (l + 1) = l2 := ⟨_, rfl⟩
  simp only [hl2] at two y2
  have hlb : (l == 9223372036854775807) = false := by simp [hl]
  have ONE := Lib.hid one
  have TWO := Lib.hid two
  have H1 := Lib.hid h
  have H2 := Lib.hid h'
  clear one two h h' e1 e2
  cases b1
  · clear y1 y2
    rw [if_neg (by simp)]
    go_enter Try.func21, Try.ntmps21
    go_wp2_with (first | (go_at_call 15; refine (TWO.out _ ((H1.out.below (hB.mono hS1)).more (Nat.le_trans hS1 hB.size)) ((H2.out.below (hB.mono hS2)).more (Nat.le_trans hS2 hB.size))).mono ?_; rintro e w2 ⟨rfl, hb2⟩; have hz2 := hb2.size; (repeat (first | rw [World.size_alloc] at hz2 | rw [World.size_drew] at hz2 | rw [World.heap_drewN] at hz2 | rw [World.size_setCell] at hz2)); replace hB : Below w.heap.size w w2 := Below.trans (by (repeat' (first | (with_reducible exact Below.refl _ _) | (with_reducible assumption) | (with_reducible refine below_drewN ?_ _) | (with_reducible refine Below.alloc ?_ ?_ _) | (with_reducible refine Below.drew ?_) | (with_reducible refine Below.setCell ?_ ?_ _) | go_size))) (hb2.mono (by go_size)); (first | (refine extend_then hL1 hb2 ?_ ?_ (fun hq => ?_); (focus ((repeat' (first | (with_reducible exact Below.refl _ _) | (with_reducible assumption) | (with_reducible refine below_drewN ?_ _) | (with_reducible refine Below.alloc ?_ ?_ _) | (with_reducible refine Below.drew ?_) | (with_reducible refine Below.setCell ?_ ?_ _) | go_size)); done)); (focus (go_size; done)); replace hL1 := hq; clear hq hc1 hf1; obtain ⟨hc1, hf1⟩ := bcell hL1) | (clear hL1 hc1 hf1) | skip); have hL2 := hb2; clear hb2; obtain ⟨hc2, hf2⟩ := bcell hL2) | (go_at_call 15; refine (ONE.out _ ((H1.out.alloc hS1 _).more (by simp; omega)) ((H2.out.alloc hS2 _).more (by simp; omega))).mono ?_; rintro e w1 ⟨rfl, hb1⟩; have hz1 := hb1.size; (repeat (first | rw [World.size_alloc] at hz1 | rw [World.size_drew] at hz1 | rw [World.heap_drewN] at hz1 | rw [World.size_setCell] at hz1)); have hB : Below w.heap.size w w1 := Below.trans (by (repeat' (first | (with_reducible exact Below.refl _ _) | (with_reducible assumption) | (with_reducible refine below_drewN ?_ _) | (with_reducible refine Below.alloc ?_ ?_ _) | (with_reducible refine Below.drew ?_) | (with_reducible refine Below.setCell ?_ ?_ _) | go_size))) (hb1.mono (by go_size)); have hL1 := hb1; clear hb1; obtain ⟨hc1, hf1⟩ := bcell hL1))
    (go_returns; exact ⟨by first | rfl | (simp; done) | (simp; omega), by (repeat' (first | (with_reducible exact Below.refl _ _) | (with_reducible assumption) | (with_reducible refine below_drewN ?_ _) | (with_reducible refine Below.alloc ?_ ?_ _) | (with_reducible refine Below.drew ?_) | (with_reducible refine Below.setCell ?_ ?_ _) | go_size))⟩)
  · have z1 := y1 rfl
    try simp only at z1
    cases b2
    · clear y1 y2
      rw [if_neg (by simp)]
      go_enter Try.func21, Try.ntmps21
      go_wp2_with (first | (go_at_call 15; refine (TWO.out _ ((H1.out.below (hB.mono hS1)).more (Nat.le_trans hS1 hB.size)) ((H2.out.below (hB.mono hS2)).more (Nat.le_trans hS2 hB.size))).mono ?_; rintro e w2 ⟨rfl, hb2⟩; have hz2 := hb2.size; (repeat (first | rw [World.size_alloc] at hz2 | rw [World.size_drew] at hz2 | rw [World.heap_drewN] at hz2 | rw [World.size_setCell] at hz2)); replace hB : Below w.heap.size w w2 := Below.trans (by (repeat' (first | (with_reducible exact Below.refl _ _) | (with_reducible assumption) | (with_reducible refine below_drewN ?_ _) | (with_reducible refine Below.alloc ?_ ?_ _) | (with_reducible refine Below.drew ?_) | (with_reducible refine Below.setCell ?_ ?_ _) | go_size))) (hb2.mono (by go_size)); (first | (refine extend_then hL1 hb2 ?_ ?_ (fun hq => ?_); (focus ((repeat' (first | (with_reducible exact Below.refl _ _) | (with_reducible assumption) | (with_reducible refine below_drewN ?_ _) | (with_reducible refine Below.alloc ?_ ?_ _) | (with_reducible refine Below.drew ?_) | (with_reducible refine Below.setCell ?_ ?_ _) | go_size)); done)); (focus (go_size; done)); replace hL1 := hq; clear hq hc1 hf1; obtain ⟨hc1, hf1⟩ := bcell hL1) | (clear hL1 hc1 hf1) | skip); have hL2 := hb2; clear hb2; obtain ⟨hc2, hf2⟩ := bcell hL2) | (go_at_call 15; refine (ONE.out _ ((H1.out.alloc hS1 _).more (by simp; omega)) ((H2.out.alloc hS2 _).more (by simp; omega))).mono ?_; rintro e w1 ⟨rfl, hb1⟩; have hz1 := hb1.size; (repeat (first | rw [World.size_alloc] at hz1 | rw [World.size_drew] at hz1 | rw [World.heap_drewN] at hz1 | rw [World.size_setCell] at hz1)); have hB : Below w.heap.size w w1 := Below.trans (by (repeat' (first | (with_reducible exact Below.refl _ _) | (with_reducible assumption) | (with_reducible refine below_drewN ?_ _) | (with_reducible refine Below.alloc ?_ ?_ _) | (with_reducible refine Below.drew ?_) | (with_reducible refine Below.setCell ?_ ?_ _) | go_size))) (hb1.mono (by go_size)); have hL1 := hb1; clear hb1; obtain ⟨hc1, hf1⟩ := bcell hL1))
      (go_returns; exact ⟨by first | rfl | (simp; done) | (simp; omega), by (repeat' (first | (with_reducible exact Below.refl _ _) | (with_reducible assumption) | (with_reducible refine below_drewN ?_ _) | (with_reducible refine Below.alloc ?_ ?_ _) | (with_reducible refine Below.drew ?_) | (with_reducible refine Below.setCell ?_ ?_ _) | go_size))⟩)
    · have z2 := y2 rfl
      try simp only at z2
      have W : IntKind.i64.wrap (a1 - a2) = a1 - a2 := IntWalk.i64_in _ (by omega)
      clear y1 y2
      rw [if_pos ⟨rfl, rfl⟩]
      go_enter Try.func21, Try.ntmps21
      go_wp2_with (first | (go_at_call 15; refine (TWO.out _ ((H1.out.below (hB.mono hS1)).more (Nat.le_trans hS1 hB.size)) ((H2.out.below (hB.mono hS2)).more (Nat.le_trans hS2 hB.size))).mono ?_; rintro e w2 ⟨rfl, hb2⟩; have hz2 := hb2.size; (repeat (first | rw [World.size_alloc] at hz2 | rw [World.size_drew] at hz2 | rw [World.heap_drewN] at hz2 | rw [World.size_setCell] at hz2)); replace hB : Below w.heap.size w w2 := Below.trans (by (repeat' (first | (with_reducible exact Below.refl _ _) | (with_reducible assumption) | (with_reducible refine below_drewN ?_ _) | (with_reducible refine Below.alloc ?_ ?_ _) | (with_reducible refine Below.drew ?_) | (with_reducible refine Below.setCell ?_ ?_ _) | go_size))) (hb2.mono (by go_size)); (first | (refine extend_then hL1 hb2 ?_ ?_ (fun hq => ?_); (focus ((repeat' (first | (with_reducible exact Below.refl _ _) | (with_reducible assumption) | (with_reducible refine below_drewN ?_ _) | (with_reducible refine Below.alloc ?_ ?_ _) | (with_reducible refine Below.drew ?_) | (with_reducible refine Below.setCell ?_ ?_ _) | go_size)); done)); (focus (go_size; done)); replace hL1 := hq; clear hq hc1 hf1; obtain ⟨hc1, hf1⟩ := bcell hL1) | (clear hL1 hc1 hf1) | skip); have hL2 := hb2; clear hb2; obtain ⟨hc2, hf2⟩ := bcell hL2) | (go_at_call 15; refine (ONE.out _ ((H1.out.alloc hS1 _).more (by simp; omega)) ((H2.out.alloc hS2 _).more (by simp; omega))).mono ?_; rintro e w1 ⟨rfl, hb1⟩; have hz1 := hb1.size; (repeat (first | rw [World.size_alloc] at hz1 | rw [World.size_drew] at hz1 | rw [World.heap_drewN] at hz1 | rw [World.size_setCell] at hz1)); have hB : Below w.heap.size w w1 := Below.trans (by (repeat' (first | (with_reducible exact Below.refl _ _) | (with_reducible assumption) | (with_reducible refine below_drewN ?_ _) | (with_reducible refine Below.alloc ?_ ?_ _) | (with_reducible refine Below.drew ?_) | (with_reducible refine Below.setCell ?_ ?_ _) | go_size))) (hb1.mono (by go_size)); have hL1 := hb1; clear hb1; obtain ⟨hc1, hf1⟩ := bcell hL1))
      (go_returns; exact ⟨by first | rfl | (simp; done) | (simp; omega), by (repeat' (first | (with_reducible exact Below.refl _ _) | (with_reducible assumption) | (with_reducible refine below_drewN ?_ _) | (with_reducible refine Below.alloc ?_ ?_ _) | (with_reducible refine Below.drew ?_) | (with_reducible refine Below.setCell ?_ ?_ _) | go_size))⟩)
end Go.Proofs.Ytofcienabddpjaa
