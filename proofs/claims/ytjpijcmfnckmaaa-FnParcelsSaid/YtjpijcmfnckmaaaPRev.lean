/- ReversePipe: contracts. -/
import Derived.Test.YtjpijcmfnckmaaaPPipe
import Derived.Test.YtjpijcmfnckmaaaPMore
namespace Go.Proofs.Ytjpijcmfnckmaaa
open Go.RowKit

set_option maxHeartbeats 400000 in
theorem implRev_c (A : Option Addr) (c : Nat) (xs : List (Int × Int)) (w : World) (h : RdP w w.heap.size A xs) (hm0 : xs.length ≤ 1048576) :
    Calls Try.prog 25 #[.slice A xs.length c] w (RetP w (revR xs).1 (fun v => .tuple #[v, .bool (revR xs).2])) := by
  have hm : xs.length ≤ 4611686018427387904 := by omega
  have hBs := Nat.le_refl w.heap.size
  cases h1 : goodPs xs
  · rw [revR_no h1]
    go_enter Try.func25, Try.ntmps25
    go_wp2_with (go_at_call 19; refine (implPipe_c _ _ _ _ h hBs hm).mono ?_; rintro e w1 ⟨rfl, hb1⟩; have hz1 := hb1.size; (repeat (first | rw [World.size_alloc] at hz1 | rw [World.size_drew] at hz1 | rw [World.heap_drewN] at hz1 | rw [World.size_setCell] at hz1)); have hB : Below w.heap.size w w1 := Below.trans (by (repeat' (first | (with_reducible exact Below.refl _ _) | (with_reducible assumption) | (with_reducible refine below_drewN ?_ _) | (with_reducible refine Below.alloc ?_ ?_ _) | (with_reducible refine Below.drew ?_) | (with_reducible refine Below.setCell ?_ ?_ _) | go_size))) (hb1.mono (by go_size)); have hL1 := hb1; clear hb1; obtain ⟨hc1, hf1⟩ := bcell hL1)
    go_returns
    exact ⟨_, _, rfl, OwnP.nil _ _, by (repeat' (first | (with_reducible exact Below.refl _ _) | (with_reducible assumption) | (with_reducible refine below_drewN ?_ _) | (with_reducible refine Below.alloc ?_ ?_ _) | (with_reducible refine Below.drew ?_) | (with_reducible refine Below.setCell ?_ ?_ _) | go_size))⟩
  have g := goodPs_out h1
  have hl1 := g.1
  have hl8 := g.2.1
  clear g
  rw [revR_yes h1]
  go_enter Try.func25, Try.ntmps25
  go_wp2_with (go_at_call 19; refine (implPipe_c _ _ _ _ h hBs hm).mono ?_; rintro e w1 ⟨rfl, hb1⟩; have hz1 := hb1.size; (repeat (first | rw [World.size_alloc] at hz1 | rw [World.size_drew] at hz1 | rw [World.heap_drewN] at hz1 | rw [World.size_setCell] at hz1)); have hB : Below w.heap.size w w1 := Below.trans (by (repeat' (first | (with_reducible exact Below.refl _ _) | (with_reducible assumption) | (with_reducible refine below_drewN ?_ _) | (with_reducible refine Below.alloc ?_ ?_ _) | (with_reducible refine Below.drew ?_) | (with_reducible refine Below.setCell ?_ ?_ _) | go_size))) (hb1.mono (by go_size)); have hL1 := hb1; clear hb1; obtain ⟨hc1, hf1⟩ := bcell hL1)
  go_loopw [4, 5] (fun o i wr => ∃ (k : Nat) (z : Int), k ≤ xs.length ∧ z = (k : Int) - 1 ∧ i = .int .i64 z ∧ OwnP wr w.heap.size o (xs.drop k).reverse ∧ Below w.heap.size w wr) (fun _ i _ => (intOf i + 1).toNat)
  case atStart => exact ⟨xs.length, _, Nat.le_refl _, rfl, by go_num, by rw [List.drop_length]; exact (OwnP.empty w1 _ (by omega)), by (repeat' (first | (with_reducible exact Below.refl _ _) | (with_reducible assumption) | (with_reducible refine below_drewN ?_ _) | (with_reducible refine Below.alloc ?_ ?_ _) | (with_reducible refine Below.drew ?_) | (with_reducible refine Below.setCell ?_ ?_ _) | go_size))⟩
  case round =>
    clear hL1 hc1 hf1 hz1 hB
    obtain ⟨k, z, hk, hz, rfl, hown, hB⟩ := hrel
    by_cases hlt : 0 ≤ z
    · obtain ⟨m, rfl⟩ : ∃ m : Nat, z = m := ⟨z.toNat, by omega⟩
      obtain rfl : k = m + 1 := by omega
      obtain ⟨b, off, x, y, rfl, hx, hb, hc0, hc1⟩ := (h.below hB).at_ (k := m) (by omega)
      have hsz := hB.size
      have hi : (m : Int) < (xs.length : Int) := by omega
      have hlen : (xs.drop (m + 1)).reverse.length ≤ 65536 := by simp; omega
      have wr1 : IntKind.i64.wrap ((m : Int) - 1) = (m : Int) - 1 := IntWalk.i64_in _ (by omega)
      have hrn := rev_next (by omega) hx
      have HT := Lib.hid hrn
      clear hx h hrn hz
      go_wp2_with (at_builtin; refine wpList_appP rfl (.tmp 17) (.tmp 22) rfl w.heap.size _ _ _ _ rfl hown rfl hlen (by omega) ?_; intro v1 w1 hown1 hb1)
      go_roundw
      case rel => exact ⟨m, _, by omega, rfl, by go_num, by rw [HT.out]; exact hown1, hB.trans hb1⟩
      case measure => first | (simp [intOf]; done) | (simp [intOf]; omega)
    · obtain rfl : k = 0 := by omega
      rw [List.drop_zero] at hown
      have hl : xs.reverse.length = xs.length := List.length_reverse
      obtain ⟨A', c', rfl⟩ := hown.shape
      have HO := Lib.hid hown
      clear h hown hz hl
      go_wp2
      go_ret2
      exact ⟨A', c', by simp, HO.out, hB⟩
set_option maxHeartbeats 400000 in
theorem specRev_c (A : Option Addr) (c : Nat) (xs : List (Int × Int)) (w : World) (h : RdP w w.heap.size A xs) (hm0 : xs.length ≤ 1048576) :
    Calls Try.prog 26 #[.slice A xs.length c] w (RetP w (revR xs).1 (fun v => .tuple #[v, .bool (revR xs).2])) := by
  have hm : xs.length ≤ 4611686018427387904 := by omega
  have hBs := Nat.le_refl w.heap.size
  cases h1 : goodPs xs
  · rw [revR_no h1]
    go_enter Try.func26, Try.ntmps26
    go_wp2_with (go_at_call 51; refine (specPipe0_c _ _ _ _ (h.alloc (Nat.le_refl _) _) (by simp) hm).mono ?_; rintro e w1 ⟨rfl, hb1⟩; have hz1 := hb1.size; (repeat (first | rw [World.size_alloc] at hz1 | rw [World.size_drew] at hz1 | rw [World.heap_drewN] at hz1 | rw [World.size_setCell] at hz1)); have hB : Below w.heap.size w w1 := Below.trans (by (repeat' (first | (with_reducible exact Below.refl _ _) | (with_reducible assumption) | (with_reducible refine below_drewN ?_ _) | (with_reducible refine Below.alloc ?_ ?_ _) | (with_reducible refine Below.drew ?_) | (with_reducible refine Below.setCell ?_ ?_ _) | go_size))) (hb1.mono (by go_size)); have hL1 := hb1; clear hb1; obtain ⟨hc1, hf1⟩ := bcell hL1)
    go_returns
    exact ⟨_, _, rfl, (OwnP.empty w _ (Nat.le_refl _)).below hL1, by (repeat' (first | (with_reducible exact Below.refl _ _) | (with_reducible assumption) | (with_reducible refine below_drewN ?_ _) | (with_reducible refine Below.alloc ?_ ?_ _) | (with_reducible refine Below.drew ?_) | (with_reducible refine Below.setCell ?_ ?_ _) | go_size))⟩
  have g := goodPs_out h1
  have hl1 := g.1
  have hl8 := g.2.1
  clear g
  rw [revR_yes h1]
  go_enter Try.func26, Try.ntmps26
  go_wp2_with (go_at_call 51; refine (specPipe0_c _ _ _ _ (h.alloc (Nat.le_refl _) _) (by simp) hm).mono ?_; rintro e w1 ⟨rfl, hb1⟩; have hz1 := hb1.size; (repeat (first | rw [World.size_alloc] at hz1 | rw [World.size_drew] at hz1 | rw [World.heap_drewN] at hz1 | rw [World.size_setCell] at hz1)); have hB : Below w.heap.size w w1 := Below.trans (by (repeat' (first | (with_reducible exact Below.refl _ _) | (with_reducible assumption) | (with_reducible refine below_drewN ?_ _) | (with_reducible refine Below.alloc ?_ ?_ _) | (with_reducible refine Below.drew ?_) | (with_reducible refine Below.setCell ?_ ?_ _) | go_size))) (hb1.mono (by go_size)); have hL1 := hb1; clear hb1; obtain ⟨hc1, hf1⟩ := bcell hL1)
  go_loopw [4, 5] (fun o i wr => ∃ (k : Nat) (z : Int), k ≤ xs.length ∧ z = (k : Int) - 1 ∧ i = .int .i64 z ∧ OwnP wr w.heap.size o (xs.drop k).reverse ∧ Below w.heap.size w wr) (fun _ i _ => (intOf i + 1).toNat)
  case atStart => exact ⟨xs.length, _, Nat.le_refl _, rfl, by go_num, by rw [List.drop_length]; exact ((OwnP.empty w _ (Nat.le_refl _)).below hL1), by (repeat' (first | (with_reducible exact Below.refl _ _) | (with_reducible assumption) | (with_reducible refine below_drewN ?_ _) | (with_reducible refine Below.alloc ?_ ?_ _) | (with_reducible refine Below.drew ?_) | (with_reducible refine Below.setCell ?_ ?_ _) | go_size))⟩
  case round =>
    clear hL1 hc1 hf1 hz1 hB
    obtain ⟨k, z, hk, hz, rfl, hown, hB⟩ := hrel
    by_cases hlt : 0 ≤ z
    · obtain ⟨m, rfl⟩ : ∃ m : Nat, z = m := ⟨z.toNat, by omega⟩
      obtain rfl : k = m + 1 := by omega
      obtain ⟨b, off, x, y, rfl, hx, hb, hc0, hc1⟩ := (h.below hB).at_ (k := m) (by omega)
      have hsz := hB.size
      have hi : (m : Int) < (xs.length : Int) := by omega
      have hlen : (xs.drop (m + 1)).reverse.length ≤ 65536 := by simp; omega
      have wr1 : IntKind.i64.wrap ((m : Int) - 1) = (m : Int) - 1 := IntWalk.i64_in _ (by omega)
      have hrn := rev_next (by omega) hx
      have HT := Lib.hid hrn
      clear hx h hrn hz
      go_wp2_with (at_builtin; refine wpList_appP rfl (.tmp 18) (.tmp 23) rfl w.heap.size _ _ _ _ rfl hown rfl hlen (by omega) ?_; intro v1 w1 hown1 hb1)
      go_roundw
      case rel => exact ⟨m, _, by omega, rfl, by go_num, by rw [HT.out]; exact hown1, hB.trans hb1⟩
      case measure => first | (simp [intOf]; done) | (simp [intOf]; omega)
    · obtain rfl : k = 0 := by omega
      rw [List.drop_zero] at hown
      have hl : xs.reverse.length = xs.length := List.length_reverse
      obtain ⟨A', c', rfl⟩ := hown.shape
      have HO := Lib.hid hown
      clear h hown hz hl
      go_wp2
      go_ret2
      exact ⟨A', c', by simp, HO.out, hB⟩
end Go.Proofs.Ytjpijcmfnckmaaa
