/- Contracts: valid tanks, days and pumpings. -/
import Derived.Test.YtofcienabddpjaaAppS
import Derived.Test.YtofcienabddpjaaUPlain
namespace Go.Proofs.Ytofcienabddpjaa
open Go.RowKit

theorem isHourly_c (n : Int) (w : World) : Calls Try.prog 53 #[.int .i64 n] w fun e w' => e = .returned (.bool (hourB n)) ∧ w = w' := by
  go_enter Try.func53, Try.ntmps53
  go_wp2_with (go_at_call 45; refine (inside_c _ _ _ _).mono ?_; rintro e w' ⟨rfl, rfl⟩)
  go_ret
  exact ⟨rfl, rfl⟩
theorem l11Volume_c (n : Int) (w : World) : Calls Try.prog 79 #[.int .i64 n] w fun e w' => e = .returned (.bool (hourB n)) ∧ w = w' := by
  go_enter Try.func79, Try.ntmps79
  go_wp2_with (go_at_call 74; refine (l1In_c _ _ _ _).mono ?_; rintro e w' ⟨rfl, rfl⟩)
  go_ret
  exact ⟨rfl, rfl⟩
theorem tday1_c (x : Int) (w : World) : Calls Try.prog 76 #[.int .i64 x] w fun e w' => e = .returned (.bool (badH x)) ∧ w = w' := by
  go_enter Try.func76, Try.ntmps76
  go_wp2_with (go_at_call 53; refine (isHourly_c _ _).mono ?_; rintro e w' ⟨rfl, rfl⟩)
  go_ret
  exact ⟨rfl, rfl⟩
theorem over1_c (x : Int) (w : World) : Calls Try.prog 51 #[.int .i64 x] w fun e w' => e = .returned (.bool (overP x)) ∧ w = w' := by
  go_enter Try.func51, Try.ntmps51
  go_wp2
  go_ret
  exact ⟨rfl, rfl⟩
theorem tday_idx {B : Nat} (A : Option Addr) (c : Nat) (xs : List Int) (w : World) (h : RdI w B A xs) (hm : xs.length ≤ 4611686018427387904) : Calls Try.prog 77 #[.slice A xs.length c, .func (.func 76) #[] #[]] w fun e w' => e = .returned (.int .i64 (idxI badH xs)) ∧ w = w' := by
  go_enter Try.func77, Try.ntmps77
  go_wp2
  go_loop [5, 8] (fun _ i => ∃ k : Nat, k ≤ xs.length ∧ i = .int .i64 k ∧ ∀ j, j < k → badH (xs.getD j 0) = false) (fun _ i => xs.length - (intOf i).toNat)
  case atStart => exact ⟨0, by omega, rfl, fun j hj => absurd hj (by omega)⟩
  case round =>
    obtain ⟨k, hk, rfl, hno⟩ := hrel
    by_cases hlt : k < xs.length
    · obtain ⟨b, off, x, rfl, hx, hb, hc⟩ := h.at_ hlt
      cases hp : badH x
      · have HNO := Lib.hid hno
        have HX := Lib.hid hx
        clear hno hx h
        go_wp2_with (go_at_call 76; refine (tday1_c _ _).mono ?_; rintro e w' ⟨rfl, rfl⟩)
        go_round
        case rel => exact ⟨k + 1, by omega, by go_num, fun j hj => by
          by_cases e : j = k
          · subst e; rw [← HX.out]; exact hp
          · exact HNO.out j (by omega)⟩
        case measure => simp [intOf]; omega
      · have hr := idxI_hit badH hlt hno (by rw [← hx]; exact hp)
        have HR := Lib.hid hr
        clear hno hx h hr
        go_wp2_with (go_at_call 76; refine (tday1_c _ _).mono ?_; rintro e w' ⟨rfl, rfl⟩)
        go_ret
        exact ⟨by rw [HR.out]; rfl, rfl⟩
    · have hr := idxI_none badH (fun j hj => hno j (by omega))
      have HR := Lib.hid hr
      clear hno h hr
      go_wp2
      go_ret
      exact ⟨by rw [HR.out]; rfl, rfl⟩
theorem tday_has {B : Nat} (A : Option Addr) (c : Nat) (xs : List Int) (w : World) (h : RdI w B A xs) (hm : xs.length ≤ 4611686018427387904) : Calls Try.prog 50 #[.slice A xs.length c, .func (.func 76) #[] #[]] w fun e w' => e = .returned (.bool (xs.any badH)) ∧ w = w' := by
  have hr := idxI_any badH xs
  go_enter Try.func50, Try.ntmps50
  go_wp2_with (go_at_call 77; refine (tday_idx _ _ _ _ h hm).mono ?_; rintro e w' ⟨rfl, rfl⟩)
  go_ret
  exact ⟨by rw [← hr]; rfl, rfl⟩
theorem over_idx {B : Nat} (A : Option Addr) (c : Nat) (xs : List Int) (w : World) (h : RdI w B A xs) (hm : xs.length ≤ 4611686018427387904) : Calls Try.prog 77 #[.slice A xs.length c, .func (.func 51) #[] #[]] w fun e w' => e = .returned (.int .i64 (idxI overP xs)) ∧ w = w' := by
  go_enter Try.func77, Try.ntmps77
  go_wp2
  go_loop [5, 8] (fun _ i => ∃ k : Nat, k ≤ xs.length ∧ i = .int .i64 k ∧ ∀ j, j < k → overP (xs.getD j 0) = false) (fun _ i => xs.length - (intOf i).toNat)
  case atStart => exact ⟨0, by omega, rfl, fun j hj => absurd hj (by omega)⟩
  case round =>
    obtain ⟨k, hk, rfl, hno⟩ := hrel
    by_cases hlt : k < xs.length
    · obtain ⟨b, off, x, rfl, hx, hb, hc⟩ := h.at_ hlt
      cases hp : overP x
      · have HNO := Lib.hid hno
        have HX := Lib.hid hx
        clear hno hx h
        go_wp2_with (go_at_call 51; refine (over1_c _ _).mono ?_; rintro e w' ⟨rfl, rfl⟩)
        go_round
        case rel => exact ⟨k + 1, by omega, by go_num, fun j hj => by
          by_cases e : j = k
          · subst e; rw [← HX.out]; exact hp
          · exact HNO.out j (by omega)⟩
        case measure => simp [intOf]; omega
      · have hr := idxI_hit overP hlt hno (by rw [← hx]; exact hp)
        have HR := Lib.hid hr
        clear hno hx h hr
        go_wp2_with (go_at_call 51; refine (over1_c _ _).mono ?_; rintro e w' ⟨rfl, rfl⟩)
        go_ret
        exact ⟨by rw [HR.out]; rfl, rfl⟩
    · have hr := idxI_none overP (fun j hj => hno j (by omega))
      have HR := Lib.hid hr
      clear hno h hr
      go_wp2
      go_ret
      exact ⟨by rw [HR.out]; rfl, rfl⟩
theorem over_has {B : Nat} (A : Option Addr) (c : Nat) (xs : List Int) (w : World) (h : RdI w B A xs) (hm : xs.length ≤ 4611686018427387904) : Calls Try.prog 50 #[.slice A xs.length c, .func (.func 51) #[] #[]] w fun e w' => e = .returned (.bool (xs.any overP)) ∧ w = w' := by
  have hr := idxI_any overP xs
  go_enter Try.func50, Try.ntmps50
  go_wp2_with (go_at_call 77; refine (over_idx _ _ _ _ h hm).mono ?_; rintro e w' ⟨rfl, rfl⟩)
  go_ret
  exact ⟨by rw [← hr]; rfl, rfl⟩
theorem implTank_c (L E M : Int) (w : World) : Calls Try.prog 52 #[.agg #[.int .i64 L, .int .i64 E, .int .i64 M]] w fun e w' => e = .returned (.bool (goodTk L E M)) ∧ Below w.heap.size w w' := by
  rcases goodTk_ways L E M with ⟨h1, e⟩ | ⟨h1, h2, e⟩ | ⟨h1, h2, h3, e⟩ | ⟨h1, h2, h3, h4, e⟩ | ⟨h1, h2, h3, h4, e⟩
  all_goals
    rw [e]; clear e
    go_enter Try.func52, Try.ntmps52
    go_wp2
    (go_returns; exact ⟨by first | rfl | (simp; done) | (simp; omega), by (repeat' (first | (with_reducible exact Below.refl _ _) | (with_reducible assumption) | (with_reducible refine below_drewN ?_ _) | (with_reducible refine Below.alloc ?_ ?_ _) | (with_reducible refine Below.drew ?_) | (with_reducible refine Below.setCell ?_ ?_ _) | go_size))⟩)
theorem specTank_c (L E M : Int) (w : World) : Calls Try.prog 78 #[.agg #[.int .i64 L, .int .i64 E, .int .i64 M]] w fun e w' => e = .returned (.bool (goodTk L E M)) ∧ Below w.heap.size w w' := by
  rcases goodTk_ways L E M with ⟨h1, e⟩ | ⟨h1, h2, e⟩ | ⟨h1, h2, h3, e⟩ | ⟨h1, h2, h3, h4, e⟩ | ⟨h1, h2, h3, h4, e⟩
  all_goals
    rw [e]; clear e
    go_enter Try.func78, Try.ntmps78
    go_wp2
    (go_returns; exact ⟨by first | rfl | (simp; done) | (simp; omega), by (repeat' (first | (with_reducible exact Below.refl _ _) | (with_reducible assumption) | (with_reducible refine below_drewN ?_ _) | (with_reducible refine Below.alloc ?_ ?_ _) | (with_reducible refine Below.drew ?_) | (with_reducible refine Below.setCell ?_ ?_ _) | go_size))⟩)
end Go.Proofs.Ytofcienabddpjaa
