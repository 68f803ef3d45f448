/- BestLevel: contracts. -/
import Derived.Test.YtakpoalcfjedlaaZSuit
namespace Go.Proofs.Ytakpoalcfjedlaa
open Go.RowKit


set_option maxRecDepth 100000 in
set_option maxHeartbeats 1000000 in
theorem implBest_c (A : Option Addr) (c : Nat) (xs : List Int) (L M : Int) (w : World) (h : RdI w w.heap.size A xs) (hm0 : xs.length ≤ 1048576) :
    Calls Try.prog 22 #[.slice A xs.length c, .agg #[.int .i64 L, .int .i64 M]] w fun e w' => e = .returned (.tuple #[.int .i64 (bestL xs L M).1, .int .i64 (bestL xs L M).2.1, .bool (bestL xs L M).2.2]) ∧ Below w.heap.size w w' := by
  have hm : xs.length ≤ 4611686018427387904 := by omega
  cases h1 : goodZ xs L M
  · rw [bestL_no h1]
    go_enter Try.func22, Try.ntmps22
    go_wp2_with (go_at_call 50; refine (canZone_c _ _ _ _ _ _ (h.alloc (Nat.le_refl _) _) (by simp) hm).mono ?_; rintro e w1 ⟨rfl, hb1⟩; have hz1 := hb1.size; (repeat (first | rw [World.size_alloc] at hz1 | rw [World.size_drew] at hz1 | rw [World.heap_drewN] at hz1 | rw [World.size_setCell] at hz1)); have hB : Below w.heap.size w w1 := Below.trans (by (repeat' (first | (with_reducible exact Below.refl _ _) | (with_reducible assumption) | (with_reducible refine below_drewN ?_ _) | (with_reducible refine Below.alloc ?_ ?_ _) | (with_reducible refine Below.drew ?_) | (with_reducible refine Below.setCell ?_ ?_ _) | go_size))) (hb1.mono (by go_size)); have hL1 := hb1; clear hb1; obtain ⟨hc1, hf1⟩ := bcell hL1)
    (go_returns; exact ⟨by first | rfl | (simp; done) | (simp; omega), by (repeat' (first | (with_reducible exact Below.refl _ _) | (with_reducible assumption) | (with_reducible refine below_drewN ?_ _) | (with_reducible refine Below.alloc ?_ ?_ _) | (with_reducible refine Below.drew ?_) | (with_reducible refine Below.setCell ?_ ?_ _) | go_size))⟩)
  have g0 : goodL xs = true := by unfold goodZ at h1; simp at h1; exact h1.1
  obtain ⟨g1, g2⟩ := goodL_out g0
  obtain ⟨N, hN⟩ : ∃ N : Nat, N = 2001 := ⟨_, rfl⟩
  rw [bestL_yes hN h1]
  have hN1 : N ≤ 2001 := by omega
  have hN2 : 2001 ≤ N := by omega
  clear g0 hN
  go_enter Try.func22, Try.ntmps22
  go_wp2_with (go_at_call 50; refine (canZone_c _ _ _ _ _ _ (h.alloc (Nat.le_refl _) _) (by simp) hm).mono ?_; rintro e w1 ⟨rfl, hb1⟩; have hz1 := hb1.size; (repeat (first | rw [World.size_alloc] at hz1 | rw [World.size_drew] at hz1 | rw [World.heap_drewN] at hz1 | rw [World.size_setCell] at hz1)); have hB : Below w.heap.size w w1 := Below.trans (by (repeat' (first | (with_reducible exact Below.refl _ _) | (with_reducible assumption) | (with_reducible refine below_drewN ?_ _) | (with_reducible refine Below.alloc ?_ ?_ _) | (with_reducible refine Below.drew ?_) | (with_reducible refine Below.setCell ?_ ?_ _) | go_size))) (hb1.mono (by go_size)); have hL1 := hb1; clear hb1; obtain ⟨hc1, hf1⟩ := bcell hL1)
  go_loopw [7, 8, 15] (fun b m i wr => ∃ (k : Nat) (p : Int × Int), k ≤ N ∧ i = .int .i64 k ∧ b = .int .i64 p.1 ∧ m = .int .i64 p.2 ∧ ((k = 0 ∧ p = (0, -1)) ∨ (1 ≤ k ∧ p = bstK xs L M k)) ∧ Below w.heap.size w wr ∧ w.heap.size < wr.heap.size ∧ wr.cell? ⟨w.heap.size, 0, none⟩ = some (.int .i64 L) ∧ wr.cell? ⟨w.heap.size, 1, none⟩ = some (.int .i64 M)) (fun _ _ i _ => N - (intOf i).toNat)
  case atStart => exact ⟨0, (0, -1), by omega, rfl, rfl, rfl, .inl ⟨rfl, rfl⟩, by (repeat' (first | (with_reducible exact Below.refl _ _) | (with_reducible assumption) | (with_reducible refine below_drewN ?_ _) | (with_reducible refine Below.alloc ?_ ?_ _) | (with_reducible refine Below.drew ?_) | (with_reducible refine Below.setCell ?_ ?_ _) | go_size)), by first | omega | (simp; omega), by simp [*, go_sem], by simp [*, go_sem]⟩
  case round =>
    clear h1 hB hL1 hc1 hf1 hz1
    obtain ⟨k, p, hk, rfl, rfl, rfl, hp, hBr, hsz, c0, c1⟩ := hrel
    by_cases hlt : k < N
    · have h3 := (h.below hBr).more hBr.size
      have hkl : (k : Int) ≤ 2000 := by omega
      have hkm : (k : Int) < 2001 := by omega
      by_cases hq : p.2 < ((suitedL xs L M k).length : Int)
      · have hb1 : bstK xs L M (k + 1) = ((k : Int), ((suitedL xs L M k).length : Int)) := by
          rcases hp with ⟨rfl, rfl⟩ | ⟨_, rfl⟩
          · exact bstK_one xs L M
          · exact bstK_yes hq
        have HB := Lib.hid hb1
        clear hb1 hp h
        go_wp2_with (go_at_call 51; refine (suitedPlaces_c _ _ xs _ _ _ _ h3 g1 g2 (by omega) hkl).mono ?_; rintro y w2 ⟨A2, c2, rfl, o2, hb2⟩; have z2 := hb2.size; obtain ⟨hc2, hf2⟩ := bcell hb2)
        go_roundw
        case rel => exact ⟨k + 1, _, by omega, by go_num, rfl, rfl, .inr ⟨by omega, HB.out.symm⟩, hBr.trans (hb2.mono hBr.size), by omega, by simp [*, go_sem], by simp [*, go_sem]⟩
        case measure => simp [intOf]; omega
      · have hb1 : bstK xs L M (k + 1) = p := by
          rcases hp with ⟨rfl, rfl⟩ | ⟨_, rfl⟩
          · exact absurd (by simp; omega) hq
          · exact bstK_no hq
        have HB := Lib.hid hb1
        clear hb1 hp h
        go_wp2_with (go_at_call 51; refine (suitedPlaces_c _ _ xs _ _ _ _ h3 g1 g2 (by omega) hkl).mono ?_; rintro y w2 ⟨A2, c2, rfl, o2, hb2⟩; have z2 := hb2.size; obtain ⟨hc2, hf2⟩ := bcell hb2)
        go_roundw
        case rel => exact ⟨k + 1, p, by omega, by go_num, rfl, rfl, .inr ⟨by omega, HB.out.symm⟩, hBr.trans (hb2.mono hBr.size), by omega, by simp [*, go_sem], by simp [*, go_sem]⟩
        case measure => simp [intOf]; omega
    · have hk' : k = N := by omega
      subst hk'
      have hb1 : p = bstK xs L M k := by
        rcases hp with ⟨e1, _⟩ | ⟨_, e1⟩
        · omega
        · exact e1
      subst hb1
      have hkm : ¬ (k : Int) < 2001 := by omega
      clear h hp
      go_wp2
      go_returns
      exact ⟨rfl, hBr⟩

set_option maxRecDepth 100000 in
set_option maxHeartbeats 1000000 in
theorem specBest_c (A : Option Addr) (c : Nat) (xs : List Int) (L M : Int) (w : World) (h : RdI w w.heap.size A xs) (hm0 : xs.length ≤ 1048576) :
    Calls Try.prog 20 #[.slice A xs.length c, .agg #[.int .i64 L, .int .i64 M]] w fun e w' => e = .returned (.tuple #[.int .i64 (bestL xs L M).1, .int .i64 (bestL xs L M).2.1, .bool (bestL xs L M).2.2]) ∧ Below w.heap.size w w' := by
  have hm : xs.length ≤ 4611686018427387904 := by omega
  cases h1 : goodZ xs L M
  · rw [bestL_no h1]
    go_enter Try.func20, Try.ntmps20
    go_wp2_with (go_at_call 48; refine (l12Asked_c _ _ _ _ _ _ (h.alloc (Nat.le_refl _) _) (by simp) hm).mono ?_; rintro e w1 ⟨rfl, hb1⟩; have hz1 := hb1.size; (repeat (first | rw [World.size_alloc] at hz1 | rw [World.size_drew] at hz1 | rw [World.heap_drewN] at hz1 | rw [World.size_setCell] at hz1)); have hB : Below w.heap.size w w1 := Below.trans (by (repeat' (first | (with_reducible exact Below.refl _ _) | (with_reducible assumption) | (with_reducible refine below_drewN ?_ _) | (with_reducible refine Below.alloc ?_ ?_ _) | (with_reducible refine Below.drew ?_) | (with_reducible refine Below.setCell ?_ ?_ _) | go_size))) (hb1.mono (by go_size)); have hL1 := hb1; clear hb1; obtain ⟨hc1, hf1⟩ := bcell hL1)
    (go_returns; exact ⟨by first | rfl | (simp; done) | (simp; omega), by (repeat' (first | (with_reducible exact Below.refl _ _) | (with_reducible assumption) | (with_reducible refine below_drewN ?_ _) | (with_reducible refine Below.alloc ?_ ?_ _) | (with_reducible refine Below.drew ?_) | (with_reducible refine Below.setCell ?_ ?_ _) | go_size))⟩)
  have g0 : goodL xs = true := by unfold goodZ at h1; simp at h1; exact h1.1
  obtain ⟨g1, g2⟩ := goodL_out g0
  obtain ⟨N, hN⟩ : ∃ N : Nat, N = 2001 := ⟨_, rfl⟩
  rw [bestL_yes hN h1]
  have hN1 : N ≤ 2001 := by omega
  have hN2 : 2001 ≤ N := by omega
  clear g0 hN
  go_enter Try.func20, Try.ntmps20
  go_wp2_with (go_at_call 48; refine (l12Asked_c _ _ _ _ _ _ (h.alloc (Nat.le_refl _) _) (by simp) hm).mono ?_; rintro e w1 ⟨rfl, hb1⟩; have hz1 := hb1.size; (repeat (first | rw [World.size_alloc] at hz1 | rw [World.size_drew] at hz1 | rw [World.heap_drewN] at hz1 | rw [World.size_setCell] at hz1)); have hB : Below w.heap.size w w1 := Below.trans (by (repeat' (first | (with_reducible exact Below.refl _ _) | (with_reducible assumption) | (with_reducible refine below_drewN ?_ _) | (with_reducible refine Below.alloc ?_ ?_ _) | (with_reducible refine Below.drew ?_) | (with_reducible refine Below.setCell ?_ ?_ _) | go_size))) (hb1.mono (by go_size)); have hL1 := hb1; clear hb1; obtain ⟨hc1, hf1⟩ := bcell hL1)
  go_loopw [7, 8, 9] (fun b m i wr => ∃ (k : Nat) (p : Int × Int), k ≤ N ∧ i = .int .i64 k ∧ b = .int .i64 p.1 ∧ m = .int .i64 p.2 ∧ p = bstK xs L M k ∧ Below w.heap.size w wr ∧ w.heap.size < wr.heap.size ∧ wr.cell? ⟨w.heap.size, 0, none⟩ = some (.int .i64 L) ∧ wr.cell? ⟨w.heap.size, 1, none⟩ = some (.int .i64 M)) (fun _ _ i _ => N - (intOf i).toNat)
  case atStart => exact ⟨0, (0, 0), by omega, rfl, rfl, rfl, rfl, by (repeat' (first | (with_reducible exact Below.refl _ _) | (with_reducible assumption) | (with_reducible refine below_drewN ?_ _) | (with_reducible refine Below.alloc ?_ ?_ _) | (with_reducible refine Below.drew ?_) | (with_reducible refine Below.setCell ?_ ?_ _) | go_size)), by first | omega | (simp; omega), by simp [*, go_sem], by simp [*, go_sem]⟩
  case round =>
    clear h1 hB hL1 hc1 hf1 hz1
    obtain ⟨k, p, hk, rfl, rfl, rfl, hp, hBr, hsz, c0, c1⟩ := hrel
    by_cases hlt : k < N
    · have h3 := (h.below hBr).more hBr.size
      have hkl : (k : Int) ≤ 2000 := by omega
      by_cases hq : p.2 < ((suitedL xs L M k).length : Int)
      · have hb1 : bstK xs L M (k + 1) = ((k : Int), ((suitedL xs L M k).length : Int)) := by
          subst hp; exact bstK_yes hq
        have HB := Lib.hid hb1
        clear hb1 hp h
        go_wp2_with (go_at_call 49; refine (l12Suited_c _ _ xs _ _ _ _ h3 g1 g2 (by omega) hkl).mono ?_; rintro y w2 ⟨A2, c2, rfl, o2, hb2⟩; have z2 := hb2.size; obtain ⟨hc2, hf2⟩ := bcell hb2)
        go_roundw
        case rel => exact ⟨k + 1, _, by omega, by go_num, rfl, rfl, HB.out.symm, hBr.trans (hb2.mono hBr.size), by omega, by simp [*, go_sem], by simp [*, go_sem]⟩
        case measure => simp [intOf]; omega
      · have hb1 : bstK xs L M (k + 1) = p := by
          subst hp; exact bstK_no hq
        have HB := Lib.hid hb1
        clear hb1 hp h
        go_wp2_with (go_at_call 49; refine (l12Suited_c _ _ xs _ _ _ _ h3 g1 g2 (by omega) hkl).mono ?_; rintro y w2 ⟨A2, c2, rfl, o2, hb2⟩; have z2 := hb2.size; obtain ⟨hc2, hf2⟩ := bcell hb2)
        go_roundw
        case rel => exact ⟨k + 1, p, by omega, by go_num, rfl, rfl, HB.out.symm, hBr.trans (hb2.mono hBr.size), by omega, by simp [*, go_sem], by simp [*, go_sem]⟩
        case measure => simp [intOf]; omega
    · have hk' : k = N := by omega
      subst hk'
      have hb1 : p = bstK xs L M k := by
        exact hp
      subst hb1
      clear h hp
      go_wp2
      go_returns
      exact ⟨rfl, hBr⟩
end Go.Proofs.Ytakpoalcfjedlaa
