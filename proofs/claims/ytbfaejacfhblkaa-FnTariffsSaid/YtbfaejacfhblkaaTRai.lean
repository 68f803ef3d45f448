/- Contracts: raising numbers. -/
import Derived.Test.YtbfaejacfhblkaaTSimS
import Derived.Test.YtbfaejacfhblkaaTRaiP
namespace Go.Proofs.Ytbfaejacfhblkaa
open Go.RowKit

theorem l14Raise_c (n p : Int) (w : World) (h0 : 0 ≤ n) (h1 : n ≤ 1000000) (h2 : -100 ≤ p) (h3 : p ≤ 100) : Calls Try.prog 66 #[.int .i64 n, .int .i64 p] w fun e w' => e = .returned (.int .i64 (raP p n)) ∧ w = w' := by
  have m := raP_mul h0 h1 h2 h3
  have b := raP_b h0 h1 h2 h3
  have W1 : IntKind.i64.wrap (100 + p) = 100 + p := IntWalk.i64_in _ (by omega)
  have W2 : IntKind.i64.wrap (n * (100 + p)) = n * (100 + p) := IntWalk.i64_in _ (by omega)
  have W3 : IntKind.i64.wrap (n * (100 + p) + 50) = n * (100 + p) + 50 := IntWalk.i64_in _ (by omega)
  have e : (n * (100 + p) + 50).tdiv 100 = raP p n := by rw [Int.tdiv_eq_ediv_of_nonneg (by omega)]; rfl
  have W4 : IntKind.i64.wrap (raP p n) = raP p n := IntWalk.i64_in _ (by omega)
  clear m b h0 h1 h2 h3
  go_enter Try.func66, Try.ntmps66
  go_wp2
  go_ret
  exact ⟨rfl, rfl⟩
theorem raised_c (n p : Int) (P : Nat) (w : World) (hP : w.cell? ⟨P, 0, none⟩ = some (.int .i64 p)) (h0 : 0 ≤ n) (h1 : n ≤ 1000000) (h2 : -100 ≤ p) (h3 : p ≤ 100) : Calls Try.prog 67 #[.int .i64 n, .pointer (some ⟨P, 0, none⟩)] w fun e w' => e = .returned (.int .i64 (raP p n)) ∧ w = w' := by
  have m := raP_mul h0 h1 h2 h3
  have b := raP_b h0 h1 h2 h3
  have m2 : 2 * n * (100 + p) = 2 * (n * (100 + p)) := Int.mul_assoc _ _ _
  have W0 : IntKind.i64.wrap (2 * n) = 2 * n := IntWalk.i64_in _ (by omega)
  have W1 : IntKind.i64.wrap (100 + p) = 100 + p := IntWalk.i64_in _ (by omega)
  have W2 : IntKind.i64.wrap (2 * n * (100 + p)) = 2 * n * (100 + p) := IntWalk.i64_in _ (by omega)
  have W3 : IntKind.i64.wrap (2 * n * (100 + p) + 100) = 2 * n * (100 + p) + 100 := IntWalk.i64_in _ (by omega)
  have e : (2 * n * (100 + p) + 100).tdiv 200 = raP p n := by rw [Int.tdiv_eq_ediv_of_nonneg (by omega)]; exact raP_two p n
  have W4 : IntKind.i64.wrap (raP p n) = raP p n := IntWalk.i64_in _ (by omega)
  clear m b m2 h0 h1 h2 h3
  go_enter Try.func67, Try.ntmps67
  go_wp2
  go_ret
  exact ⟨rfl, rfl⟩
end Go.Proofs.Ytbfaejacfhblkaa
