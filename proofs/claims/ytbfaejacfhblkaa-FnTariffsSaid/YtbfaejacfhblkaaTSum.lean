/- Contracts: the cost. -/
import Derived.Test.YtbfaejacfhblkaaTSplitS
namespace Go.Proofs.Ytbfaejacfhblkaa
open Go.RowKit

def sumI (ys : List Int) : Nat → Int
  | 0 => 0
  | k + 1 => sumI ys k + ys.getD k 0
theorem sumI_split {F : Int} {xs : List (Int × Int)} {v : Int} {n : Nat} : ∀ k : Nat, k ≤ n → sumI (splitT F xs v n) (k + 1) = sumT F xs v k
  | 0, _ => by
    show 0 + (splitT F xs v n).getD 0 0 = F
    rw [splitT_get (Nat.zero_le _)]
    simp
  | k + 1, hk => by
    have a := sumI_split (F := F) (xs := xs) (v := v) (n := n) k (by omega)
    rw [sumI, a, splitT_get hk]
    rfl
theorem sumI_cost (F : Int) (xs : List (Int × Int)) (v : Int) : sumI (splitT F xs v xs.length) (splitT F xs v xs.length).length = costT F xs v := by
  rw [splitT_len]
  exact sumI_split xs.length (Nat.le_refl _)
theorem sumI_b {F : Int} {xs : List (Int × Int)} {v : Int} (h : goodT F xs = true) (hv0 : 0 ≤ v) (hv1 : v ≤ 100001) {k : Nat} (hk : k ≤ xs.length + 1) : 0 ≤ sumI (splitT F xs v xs.length) k ∧ sumI (splitT F xs v xs.length) k ≤ 1000000000 := by
  have g := goodT_out h
  cases k with
  | zero => simp [sumI]
  | succ k =>
    rw [sumI_split k (by omega)]
    have := sumT_b h hv0 hv1 k (by omega)
    omega
theorem sumI_succ {ys : List Int} {k : Nat} {x : Int} (hx : x = ys.getD k 0) : sumI ys (k + 1) = sumI ys k + x := by rw [sumI, hx]
theorem sumInts_c {B : Nat} (A : Option Addr) (c : Nat) (ys : List Int) (w : World) (h : RdI w B A ys) (hb : ∀ k, k ≤ ys.length → 0 ≤ sumI ys k ∧ sumI ys k ≤ 1000000000) (hm : ys.length ≤ 60000) :
    Calls Try.prog 79 #[.slice A ys.length c] w fun e w' => e = .returned (.int .i64 (sumI ys ys.length)) ∧ w = w' := by
  go_enter Try.func79, Try.ntmps79
  go_wp2
  go_loop [3, 5, 8] (fun s _ i => ∃ k : Nat, k ≤ ys.length ∧ i = .int .i64 k ∧ s = .int .i64 (sumI ys k)) (fun _ _ i => ys.length - (intOf i).toNat)
  case atStart => exact ⟨0, by omega, rfl, rfl⟩
  case round =>
    obtain ⟨k, hk, rfl, rfl⟩ := hrel
    by_cases hlt : k < ys.length
    · obtain ⟨b, off, x, rfl, hx, hbB, hc0⟩ := h.at_ hlt
      have hi : (k : Int) < (ys.length : Int) := by omega
      have hs := sumI_succ hx
      have b1 := hb (k + 1) (by omega)
      have wr1 : IntKind.i64.wrap (sumI ys k + x) = sumI ys k + x := IntWalk.i64_in _ (by omega)
      have HS := Lib.hid hs
      clear hx h hs hb b1
      go_wp2
      go_round
      case rel => exact ⟨k + 1, by omega, by go_num, by rw [HS.out]⟩
      case measure => simp [intOf]; omega
    · obtain rfl : k = ys.length := by omega
      clear h hb
      go_wp2
      go_ret
      exact ⟨rfl, rfl⟩
theorem implCost_c {B : Nat} (F v : Int) (A : Option Addr) (c : Nat) (xs : List (Int × Int)) (w : World) (h : RdP w B A xs) (hBs : B ≤ w.heap.size) (hg : goodT F xs = true) (hv0 : 0 ≤ v) (hv1 : v ≤ 100001) :
    Calls Try.prog 61 #[.agg #[.int .i64 F, .slice A xs.length c], .int .i64 v] w fun e w' => e = .returned (.int .i64 (costT F xs v)) ∧ Below w.heap.size w w' := by
  have hb : ∀ k, k ≤ (splitT F xs v xs.length).length → 0 ≤ sumI (splitT F xs v xs.length) k ∧ sumI (splitT F xs v xs.length) k ≤ 1000000000 := fun k hk => sumI_b hg hv0 hv1 (by rw [splitT_len] at hk; exact hk)
  have hl : (splitT F xs v xs.length).length ≤ 60000 := by rw [splitT_len]; have := goodT_out hg; omega
  rw [← sumI_cost]
  go_enter Try.func61, Try.ntmps61
  go_wp2_with (first | (go_at_call 69; refine (implSplit_c F v A c xs _ (h.alloc hBs _) (by simp; omega) hg hv0 hv1).mono ?_; rintro e w1 ⟨A1, c1, rfl, o1, hb1⟩; have hrd := o1.rd; have hz1 := hb1.size; (repeat (first | rw [World.size_alloc] at hz1 | rw [World.size_drew] at hz1 | rw [World.heap_drewN] at hz1 | rw [World.size_setCell] at hz1)); have hB : Below w.heap.size w w1 := Below.trans (by (repeat' (first | (with_reducible exact Below.refl _ _) | (with_reducible assumption) | (with_reducible refine below_drewN ?_ _) | (with_reducible refine Below.alloc ?_ ?_ _) | (with_reducible refine Below.drew ?_) | (with_reducible refine Below.setCell ?_ ?_ _) | go_size))) (hb1.mono (by go_size)); have hL1 := hb1; clear hb1; obtain ⟨hc1, hf1⟩ := bcell hL1) | (go_at_call 79; refine (sumInts_c _ _ _ _ hrd hb hl).mono ?_; rintro e w' ⟨rfl, rfl⟩))
  (go_returns; exact ⟨by first | rfl | (simp; done) | (simp; omega), by (repeat' (first | (with_reducible exact Below.refl _ _) | (with_reducible assumption) | (with_reducible refine below_drewN ?_ _) | (with_reducible refine Below.alloc ?_ ?_ _) | (with_reducible refine Below.drew ?_) | (with_reducible refine Below.setCell ?_ ?_ _) | go_size))⟩)
theorem specCost_c {B : Nat} (F v : Int) (A : Option Addr) (c : Nat) (xs : List (Int × Int)) (w : World) (h : RdP w B A xs) (hBs : B ≤ w.heap.size) (hg : goodT F xs = true) (hv0 : 0 ≤ v) (hv1 : v ≤ 100001) :
    Calls Try.prog 64 #[.agg #[.int .i64 F, .slice A xs.length c], .int .i64 v] w fun e w' => e = .returned (.int .i64 (costT F xs v)) ∧ Below w.heap.size w w' := by
  have hb : ∀ k, k ≤ (splitT F xs v xs.length).length → 0 ≤ sumI (splitT F xs v xs.length) k ∧ sumI (splitT F xs v xs.length) k ≤ 1000000000 := fun k hk => sumI_b hg hv0 hv1 (by rw [splitT_len] at hk; exact hk)
  have hl : (splitT F xs v xs.length).length ≤ 60000 := by rw [splitT_len]; have := goodT_out hg; omega
  rw [← sumI_cost]
  go_enter Try.func64, Try.ntmps64
  go_wp2_with (go_at_call 68; refine (specSplit_c F v A c xs _ (h.alloc hBs _) (by simp; omega) hg hv0 hv1).mono ?_; rintro e w1 ⟨A1, c1, rfl, o1, hb1⟩; have hrd := o1.rd; have hz1 := hb1.size; (repeat (first | rw [World.size_alloc] at hz1 | rw [World.size_drew] at hz1 | rw [World.heap_drewN] at hz1 | rw [World.size_setCell] at hz1)); have hB : Below w.heap.size w w1 := Below.trans (by (repeat' (first | (with_reducible exact Below.refl _ _) | (with_reducible assumption) | (with_reducible refine below_drewN ?_ _) | (with_reducible refine Below.alloc ?_ ?_ _) | (with_reducible refine Below.drew ?_) | (with_reducible refine Below.setCell ?_ ?_ _) | go_size))) (hb1.mono (by go_size)); have hL1 := hb1; clear hb1; obtain ⟨hc1, hf1⟩ := bcell hL1)
  obtain ⟨ys, hys⟩ : ∃ ys, ys = splitT F xs v xs.length := ⟨_, rfl⟩
  have hyy : sumI ys ys.length = sumI (splitT F xs v xs.length) (splitT F xs v xs.length).length := by rw [hys]
  have HY := Lib.hid hyy
  rw [← hys] at hrd hb hl o1 ⊢
  clear hys hyy o1
  go_loop [5, 7] (fun s i => ∃ k : Nat, k ≤ ys.length ∧ i = .int .i64 k ∧ s = .int .i64 (sumI ys k)) (fun _ i => ys.length - (intOf i).toNat)
  case atStart => exact ⟨0, by omega, rfl, rfl⟩
  case round =>
    obtain ⟨k, hk, rfl, rfl⟩ := hrel
    by_cases hlt : k < ys.length
    · obtain ⟨b, off, x, rfl, hx, hbB, hc0⟩ := hrd.at_ hlt
      have hi : (k : Int) < (ys.length : Int) := by omega
      have hs := sumI_succ hx
      have b1 := hb (k + 1) (by omega)
      have wr1 : IntKind.i64.wrap (sumI ys k + x) = sumI ys k + x := IntWalk.i64_in _ (by omega)
      have HS := Lib.hid hs
      clear hx hrd hs hb b1
      go_wp2
      go_round
      case rel => exact ⟨k + 1, by omega, by go_num, by rw [HS.out]⟩
      case measure => simp [intOf]; omega
    · obtain rfl : k = ys.length := by omega
      clear hrd hb
      go_wp2
      go_returns
      exact ⟨by rw [← HY.out]; rfl, by (repeat' (first | (with_reducible exact Below.refl _ _) | (with_reducible assumption) | (with_reducible refine below_drewN ?_ _) | (with_reducible refine Below.alloc ?_ ?_ _) | (with_reducible refine Below.drew ?_) | (with_reducible refine Below.setCell ?_ ?_ _) | go_size))⟩
end Go.Proofs.Ytbfaejacfhblkaa
