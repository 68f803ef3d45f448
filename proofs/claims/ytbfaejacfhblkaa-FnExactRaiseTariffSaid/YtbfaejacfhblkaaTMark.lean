/- Tariffs: marking and holding; what is owned beside what. -/
import Derived.Test.YtbfaejacfhblkaaTTar
namespace Go.Proofs.Ytbfaejacfhblkaa
open Go.RowKit

theorem ownX_older {v v' : Value} {b H b' H' : Nat} (h : ∀ k, v.ownBlock = some k → b ≤ k ∧ k < H) (h' : ∀ k, v'.ownBlock = some k → b' ≤ k ∧ k < H') (hle : H ≤ b') : v.ownBlock = none ∨ v.ownBlock ≠ v'.ownBlock := by
  cases hv : v.ownBlock with
  | none => exact .inl rfl
  | some k =>
    refine .inr fun e => ?_
    have a := (h k hv).2
    have b := (h' k e.symm).1
    omega
theorem ownX_newer {v v' : Value} {b H b' H' : Nat} (h : ∀ k, v.ownBlock = some k → b ≤ k ∧ k < H) (h' : ∀ k, v'.ownBlock = some k → b' ≤ k ∧ k < H') (hle : H' ≤ b) : v.ownBlock = none ∨ v.ownBlock ≠ v'.ownBlock := by
  cases hv : v.ownBlock with
  | none => exact .inl rfl
  | some k =>
    refine .inr fun e => ?_
    have a := (h k hv).1
    have b := (h' k e.symm).2
    omega
theorem ownX_least {W w : World} {v : Value} {H : Nat} (h : Below W.heap.size W w) (o : ∀ k, v.ownBlock = some k → w.heap.size ≤ k ∧ k < H) : ∀ g, v.ownBlock = some g → W.heap.size ≤ g := fun g hg => Nat.le_trans h.size (o g hg).1
theorem markTar_c (F : Int) (A : Option Addr) (c base : Nat) (xs : List (Int × Int)) (k0 : Int) (w : World) (ho : OwnP w base (.slice A xs.length c) xs) (h0 : 0 ≤ k0) (h1 : k0 ≤ 4611686018427387904) (hm : xs.length ≤ 1152921504606846976) :
    Calls Try.prog 28 #[.agg #[.int .i64 F, .slice A xs.length c], .int .i64 k0] w (RetMP w base (.slice A xs.length c) k0 xs.length) := by
  have hw : IntKind.i64.wrap (k0 + 2 * xs.length) = k0 + 2 * xs.length := IntWalk.i64_in _ (by omega)
  go_enter Try.func28, Try.ntmps28
  go_wp2_with (go_at_call 62; refine (markParS_c A c base xs k0 _ (ho.alloc _) h0 h1 hm).mono ?_; rintro e w1 ⟨rfl, o1, hg1⟩)
  go_ret
  exact ⟨rfl, o1, grown_trans (World.grownBy_alloc _ _ _) hg1⟩
end Go.Proofs.Ytbfaejacfhblkaa
