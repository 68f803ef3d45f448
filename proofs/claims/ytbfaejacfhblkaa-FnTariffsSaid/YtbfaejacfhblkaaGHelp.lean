/- Helpers of the great laws on tariffs: two tariffs that read alike, the sum of a list. -/
import Derived.Test.YtbfaejacfhblkaaGBox
namespace Go.Proofs.Ytbfaejacfhblkaa
open Go.RowKit

theorem rBigT_c (A : Option Addr) (n c : Nat) (w : World) : Calls Try.prog 43 #[.slice A n c] w fun e w' => e = .returned (.bool (decide ((65536 : Int) < n))) ∧ w = w' := by
  go_enter Try.func43, Try.ntmps43
  go_wp2
  go_ret
  exact ⟨by simp, rfl⟩
set_option maxHeartbeats 1000000 in
/-- Two tariffs that read as one. -/
theorem rTariffs_c {B B' : Nat} (F : Int) (A A' : Option Addr) (c c' : Nat) (xs : List (Int × Int)) (w : World) (h : RdP w B A xs) (h' : RdP w B' A' xs) (hB : B ≤ w.heap.size) (hB' : B' ≤ w.heap.size) (hm : xs.length ≤ 9223372036854775807) :
    Calls Try.prog 47 #[.agg #[.int .i64 F, .slice A xs.length c], .agg #[.int .i64 F, .slice A' xs.length c']] w fun e w' => e = .returned (.bool true) ∧ Below w.heap.size w w' := by
  go_enter Try.func47, Try.ntmps47
  go_upto_region 1 with (fail)
  obtain ⟨W, hW⟩ : ∃ W, W = (w.alloc (.cells #[.int .i64 F, .slice A xs.length c] 29)).alloc (.cells #[.int .i64 F, .slice A' xs.length c'] 29) := ⟨_, rfl⟩
  rw [← hW]
  have hb : Below w.heap.size w W := by rw [hW]; exact ((Below.refl _ _).alloc (Nat.le_refl _) _).alloc (by simp) _
  have p0 : W.cell? ⟨w.heap.size, 0, none⟩ = some (.int .i64 F) := by rw [hW]; simp [go_sem]
  have p1 : W.cell? ⟨w.heap.size, 1, none⟩ = some (.slice A xs.length c) := by rw [hW]; simp [go_sem]
  have q0 : W.cell? ⟨w.heap.size + 1, 0, none⟩ = some (.int .i64 F) := by rw [hW]; simp [go_sem]
  have q1 : W.cell? ⟨w.heap.size + 1, 1, none⟩ = some (.slice A' xs.length c') := by rw [hW]; simp [go_sem]
  have H := (h.below (hb.mono hB))
  have H' := (h'.below (hb.mono hB'))
  clear hW h h'
  generalize w.heap.size + 1 = q at *
  go_wp2
  go_loopw [5] (fun i wr => ∃ k : Nat, k ≤ xs.length ∧ i = .int .i64 k ∧ ∃ n, wr = W.drewN n) (fun i _ => xs.length - (intOf i).toNat)
  case atStart => exact ⟨0, by omega, rfl, 0, rfl⟩
  case round =>
    obtain ⟨k, hk, rfl, n, rfl⟩ := hrel
    by_cases hlt : k < xs.length
    · obtain ⟨b, off, x, y, rfl, hx, hbb, hc0, hc1⟩ := H.at_ hlt
      obtain ⟨b', off', x', y', rfl, hx', hbb', hc0', hc1'⟩ := H'.at_ hlt
      have e := hx'.trans hx.symm
      simp only [Prod.mk.injEq] at e
      obtain ⟨rfl, rfl⟩ := e
      have hl1 : (k : Int) < (xs.length : Int) := by omega
      clear hx hx' H H'
      go_wp2
      go_quiet (fail)
      go_wp2
      go_roundw
      case rel => exact ⟨k + 1, by omega, by go_num, _, by first | rfl | exact World.drewN_drewN _ _ _⟩
      case measure => simp [intOf]; omega
    · clear H H'
      go_wp2
      go_returns
      exact ⟨rfl, below_drewN hb _⟩
theorem rSum_c {B : Nat} (A : Option Addr) (c : Nat) (ys : List Int) (w : World) (h : RdI w B A ys) (hb : ∀ k, k ≤ ys.length → 0 ≤ sumI ys k ∧ sumI ys k ≤ 1000000000) (hm : ys.length ≤ 60000) :
    Calls Try.prog 50 #[.slice A ys.length c] w fun e w' => e = .returned (.int .i64 (sumI ys ys.length)) ∧ w = w' := by
  go_enter Try.func50, Try.ntmps50
  go_wp2
  go_loop [3, 4] (fun s i => ∃ k : Nat, k ≤ ys.length ∧ i = .int .i64 k ∧ s = .int .i64 (sumI ys k)) (fun _ i => ys.length - (intOf i).toNat)
  case atStart => exact ⟨0, by omega, rfl, rfl⟩
  case round =>
    obtain ⟨k, hk, rfl, rfl⟩ := hrel
    by_cases hlt : k < ys.length
    · obtain ⟨b, off, x, rfl, hx, hbB, hc0⟩ := h.at_ hlt
      have hi : (k : Int) < (ys.length : Int) := by omega
      have hs := sumI_succ hx
      have b1 := hb (k + 1) (by omega)
      have wr1 : IntKind.i64.wrap (sumI ys k + x) = sumI ys k + x := IntWalk.i64_in _ (by omega)
      have HS := Lib.hid hs
      clear hx h hs hb b1
      go_wp2
      go_round
      case rel => exact ⟨k + 1, by omega, by go_num, by rw [HS.out]⟩
      case measure => simp [intOf]; omega
    · obtain rfl : k = ys.length := by omega
      clear h hb
      go_wp2
      go_ret
      exact ⟨rfl, rfl⟩
end Go.Proofs.Ytbfaejacfhblkaa
