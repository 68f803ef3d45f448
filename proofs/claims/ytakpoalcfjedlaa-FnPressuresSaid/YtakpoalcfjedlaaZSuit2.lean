/- SuitedPlaces: contracts. -/
import Derived.Test.YtakpoalcfjedlaaZSuit
namespace Go.Proofs.Ytakpoalcfjedlaa
open Go.RowKit

set_option maxHeartbeats 400000 in
theorem implSuit_c (A : Option Addr) (c : Nat) (xs : List Int) (L M l : Int) (w : World) (h : RdI w w.heap.size A xs) (hm0 : xs.length ≤ 1048576) :
    Calls Try.prog 24 #[.slice A xs.length c, .agg #[.int .i64 L, .int .i64 M], .int .i64 l] w (RetI w (suitL xs L M l).1 (fun v => .tuple #[v, .bool (suitL xs L M l).2])) := by
  have hm : xs.length ≤ 4611686018427387904 := by omega
  cases h1 : goodZ xs L M
  · rw [suitL_no (.inl h1)]
    go_enter Try.func24, Try.ntmps24
    go_wp2_with (first | (go_at_call 50; refine (canZone_c _ _ _ _ _ _ (h.alloc (Nat.le_refl _) _) (by simp) hm).mono ?_; rintro e w1 ⟨rfl, hb1⟩; have hz1 := hb1.size; (repeat (first | rw [World.size_alloc] at hz1 | rw [World.size_drew] at hz1 | rw [World.heap_drewN] at hz1 | rw [World.size_setCell] at hz1)); have hB : Below w.heap.size w w1 := Below.trans (by (repeat' (first | (with_reducible exact Below.refl _ _) | (with_reducible assumption) | (with_reducible refine below_drewN ?_ _) | (with_reducible refine Below.alloc ?_ ?_ _) | (with_reducible refine Below.drew ?_) | (with_reducible refine Below.setCell ?_ ?_ _) | go_size))) (hb1.mono (by go_size)); have hL1 := hb1; clear hb1; obtain ⟨hc1, hf1⟩ := bcell hL1) | (go_at_call 45; refine (isZoneLevel_c _ _).mono ?_; rintro e w' ⟨rfl, rfl⟩))
    go_ret2
    exact ⟨_, _, rfl, OwnI.nil _ _, by (repeat' (first | (with_reducible exact Below.refl _ _) | (with_reducible assumption) | (with_reducible refine below_drewN ?_ _) | (with_reducible refine Below.alloc ?_ ?_ _) | (with_reducible refine Below.drew ?_) | (with_reducible refine Below.setCell ?_ ?_ _) | go_size))⟩
  cases h2 : inB l 0 2000
  · rw [suitL_no (.inr h2)]
    go_enter Try.func24, Try.ntmps24
    go_wp2_with (first | (go_at_call 50; refine (canZone_c _ _ _ _ _ _ (h.alloc (Nat.le_refl _) _) (by simp) hm).mono ?_; rintro e w1 ⟨rfl, hb1⟩; have hz1 := hb1.size; (repeat (first | rw [World.size_alloc] at hz1 | rw [World.size_drew] at hz1 | rw [World.heap_drewN] at hz1 | rw [World.size_setCell] at hz1)); have hB : Below w.heap.size w w1 := Below.trans (by (repeat' (first | (with_reducible exact Below.refl _ _) | (with_reducible assumption) | (with_reducible refine below_drewN ?_ _) | (with_reducible refine Below.alloc ?_ ?_ _) | (with_reducible refine Below.drew ?_) | (with_reducible refine Below.setCell ?_ ?_ _) | go_size))) (hb1.mono (by go_size)); have hL1 := hb1; clear hb1; obtain ⟨hc1, hf1⟩ := bcell hL1) | (go_at_call 45; refine (isZoneLevel_c _ _).mono ?_; rintro e w' ⟨rfl, rfl⟩))
    go_ret2
    exact ⟨_, _, rfl, OwnI.nil _ _, by (repeat' (first | (with_reducible exact Below.refl _ _) | (with_reducible assumption) | (with_reducible refine below_drewN ?_ _) | (with_reducible refine Below.alloc ?_ ?_ _) | (with_reducible refine Below.drew ?_) | (with_reducible refine Below.setCell ?_ ?_ _) | go_size))⟩
  obtain ⟨l1, l2⟩ := inB_out h2
  have g0 : goodL xs = true := by unfold goodZ at h1; simp at h1; exact h1.1
  obtain ⟨g1, g2⟩ := goodL_out g0
  rw [suitL_yes h1 h2]
  clear g0
  go_enter Try.func24, Try.ntmps24
  go_wp2_with fail; (go_at_call 50; refine (canZone_c _ _ _ _ _ _ (h.alloc (Nat.le_refl _) _) (by simp) hm).mono ?_; rintro e w1 ⟨rfl, hb1⟩; have hz1 := hb1.size; (repeat (first | rw [World.size_alloc] at hz1 | rw [World.size_drew] at hz1 | rw [World.heap_drewN] at hz1 | rw [World.size_setCell] at hz1)); have hB : Below w.heap.size w w1 := Below.trans (by (repeat' (first | (with_reducible exact Below.refl _ _) | (with_reducible assumption) | (with_reducible refine below_drewN ?_ _) | (with_reducible refine Below.alloc ?_ ?_ _) | (with_reducible refine Below.drew ?_) | (with_reducible refine Below.setCell ?_ ?_ _) | go_size))) (hb1.mono (by go_size)); have hL1 := hb1; clear hb1; obtain ⟨hc1, hf1⟩ := bcell hL1)
  have h3 := (h.below hB).more hB.size
  go_wp2_with (first | (go_at_call 45; refine (isZoneLevel_c _ _).mono ?_; rintro e w' ⟨rfl, rfl⟩))
  refine (suitedPlaces_c _ _ xs _ _ _ _ h3 g1 g2 l1 l2).mono ?_
  rintro y w2 ⟨A2, c2, rfl, o2, hb2⟩
  go_wp2
  go_ret2
  exact ⟨_, _, rfl, o2.weak hB.size, hB.trans (hb2.mono hB.size)⟩
set_option maxHeartbeats 400000 in
theorem specSuit_c (A : Option Addr) (c : Nat) (xs : List Int) (L M l : Int) (w : World) (h : RdI w w.heap.size A xs) (hm0 : xs.length ≤ 1048576) :
    Calls Try.prog 23 #[.slice A xs.length c, .agg #[.int .i64 L, .int .i64 M], .int .i64 l] w (RetI w (suitL xs L M l).1 (fun v => .tuple #[v, .bool (suitL xs L M l).2])) := by
  have hm : xs.length ≤ 4611686018427387904 := by omega
  cases h1 : goodZ xs L M
  · rw [suitL_no (.inl h1)]
    go_enter Try.func23, Try.ntmps23
    go_wp2_with (first | (go_at_call 48; refine (l12Asked_c _ _ _ _ _ _ (h.alloc (Nat.le_refl _) _) (by simp) hm).mono ?_; rintro e w1 ⟨rfl, hb1⟩; have hz1 := hb1.size; (repeat (first | rw [World.size_alloc] at hz1 | rw [World.size_drew] at hz1 | rw [World.heap_drewN] at hz1 | rw [World.size_setCell] at hz1)); have hB : Below w.heap.size w w1 := Below.trans (by (repeat' (first | (with_reducible exact Below.refl _ _) | (with_reducible assumption) | (with_reducible refine below_drewN ?_ _) | (with_reducible refine Below.alloc ?_ ?_ _) | (with_reducible refine Below.drew ?_) | (with_reducible refine Below.setCell ?_ ?_ _) | go_size))) (hb1.mono (by go_size)); have hL1 := hb1; clear hb1; obtain ⟨hc1, hf1⟩ := bcell hL1) | (go_at_call 43; refine (l12Level_c _ _).mono ?_; rintro e w' ⟨rfl, rfl⟩))
    go_ret2
    exact ⟨_, _, rfl, (own_empty w1 _ hB.size).weak (Nat.le_refl _), by (repeat' (first | (with_reducible exact Below.refl _ _) | (with_reducible assumption) | (with_reducible refine below_drewN ?_ _) | (with_reducible refine Below.alloc ?_ ?_ _) | (with_reducible refine Below.drew ?_) | (with_reducible refine Below.setCell ?_ ?_ _) | go_size))⟩
  cases h2 : inB l 0 2000
  · rw [suitL_no (.inr h2)]
    go_enter Try.func23, Try.ntmps23
    go_wp2_with (first | (go_at_call 48; refine (l12Asked_c _ _ _ _ _ _ (h.alloc (Nat.le_refl _) _) (by simp) hm).mono ?_; rintro e w1 ⟨rfl, hb1⟩; have hz1 := hb1.size; (repeat (first | rw [World.size_alloc] at hz1 | rw [World.size_drew] at hz1 | rw [World.heap_drewN] at hz1 | rw [World.size_setCell] at hz1)); have hB : Below w.heap.size w w1 := Below.trans (by (repeat' (first | (with_reducible exact Below.refl _ _) | (with_reducible assumption) | (with_reducible refine below_drewN ?_ _) | (with_reducible refine Below.alloc ?_ ?_ _) | (with_reducible refine Below.drew ?_) | (with_reducible refine Below.setCell ?_ ?_ _) | go_size))) (hb1.mono (by go_size)); have hL1 := hb1; clear hb1; obtain ⟨hc1, hf1⟩ := bcell hL1) | (go_at_call 43; refine (l12Level_c _ _).mono ?_; rintro e w' ⟨rfl, rfl⟩))
    go_ret2
    exact ⟨_, _, rfl, (own_empty w1 _ hB.size).weak (Nat.le_refl _), by (repeat' (first | (with_reducible exact Below.refl _ _) | (with_reducible assumption) | (with_reducible refine below_drewN ?_ _) | (with_reducible refine Below.alloc ?_ ?_ _) | (with_reducible refine Below.drew ?_) | (with_reducible refine Below.setCell ?_ ?_ _) | go_size))⟩
  obtain ⟨l1, l2⟩ := inB_out h2
  have g0 : goodL xs = true := by unfold goodZ at h1; simp at h1; exact h1.1
  obtain ⟨g1, g2⟩ := goodL_out g0
  rw [suitL_yes h1 h2]
  clear g0
  go_enter Try.func23, Try.ntmps23
  go_wp2_with fail; (go_at_call 48; refine (l12Asked_c _ _ _ _ _ _ (h.alloc (Nat.le_refl _) _) (by simp) hm).mono ?_; rintro e w1 ⟨rfl, hb1⟩; have hz1 := hb1.size; (repeat (first | rw [World.size_alloc] at hz1 | rw [World.size_drew] at hz1 | rw [World.heap_drewN] at hz1 | rw [World.size_setCell] at hz1)); have hB : Below w.heap.size w w1 := Below.trans (by (repeat' (first | (with_reducible exact Below.refl _ _) | (with_reducible assumption) | (with_reducible refine below_drewN ?_ _) | (with_reducible refine Below.alloc ?_ ?_ _) | (with_reducible refine Below.drew ?_) | (with_reducible refine Below.setCell ?_ ?_ _) | go_size))) (hb1.mono (by go_size)); have hL1 := hb1; clear hb1; obtain ⟨hc1, hf1⟩ := bcell hL1)
  have h3 := (h.below hB).more hB.size
  go_wp2_with (first | (go_at_call 43; refine (l12Level_c _ _).mono ?_; rintro e w' ⟨rfl, rfl⟩))
  refine (l12Suited_c _ _ xs _ _ _ _ h3 g1 g2 l1 l2).mono ?_
  rintro y w2 ⟨A2, c2, rfl, o2, hb2⟩
  go_wp2
  go_ret2
  exact ⟨_, _, rfl, o2.weak hB.size, hB.trans (hb2.mono hB.size)⟩
end Go.Proofs.Ytakpoalcfjedlaa
