/- Contracts: validity of places, rules and levels. -/
import Derived.Test.YtakpoalcfjedlaaSlices
import Derived.Test.YtakpoalcfjedlaaZPlain
namespace Go.Proofs.Ytakpoalcfjedlaa
open Go.RowKit

theorem isZoneLevel_c (n : Int) (w : World) : Calls Try.prog 45 #[.int .i64 n] w fun e w' => e = .returned (.bool (inB n 0 2000)) ∧ w = w' := by
  go_enter Try.func45, Try.ntmps45
  go_wp2_with (go_at_call 47; refine (inside_c _ _ _ _).mono ?_; rintro e w' ⟨rfl, rfl⟩)
  go_ret
  exact ⟨rfl, rfl⟩
theorem l12Level_c (n : Int) (w : World) : Calls Try.prog 43 #[.int .i64 n] w fun e w' => e = .returned (.bool (inB n 0 2000)) ∧ w = w' := by
  go_enter Try.func43, Try.ntmps43
  go_wp2_with (go_at_call 46; refine (l1In_c _ _ _ _).mono ?_; rintro e w' ⟨rfl, rfl⟩)
  go_ret
  exact ⟨rfl, rfl⟩
theorem l12Elevation_c (n : Int) (w : World) : Calls Try.prog 61 #[.int .i64 n] w fun e w' => e = .returned (.bool (inB n 0 1000)) ∧ w = w' := by
  go_enter Try.func61, Try.ntmps61
  go_wp2_with (go_at_call 46; refine (l1In_c _ _ _ _).mono ?_; rintro e w' ⟨rfl, rfl⟩)
  go_ret
  exact ⟨rfl, rfl⟩
theorem places1_c (x : Int) (w : World) : Calls Try.prog 71 #[.int .i64 x] w fun e w' => e = .returned (.bool (badE x)) ∧ w = w' := by
  go_enter Try.func71, Try.ntmps71
  go_wp2_with (go_at_call 47; refine (inside_c _ _ _ _).mono ?_; rintro e w' ⟨rfl, rfl⟩)
  go_ret
  exact ⟨rfl, rfl⟩
theorem places_idx {B : Nat} (A : Option Addr) (c : Nat) (xs : List Int) (w : World) (h : RdI w B A xs) (hm : xs.length ≤ 4611686018427387904) : Calls Try.prog 66 #[.slice A xs.length c, .func (.func 71) #[] #[]] w fun e w' => e = .returned (.int .i64 (idxI badE xs)) ∧ w = w' := by
  go_enter Try.func66, Try.ntmps66
  go_wp2
  go_loop [5, 8] (fun _ i => ∃ k : Nat, k ≤ xs.length ∧ i = .int .i64 k ∧ ∀ j, j < k → badE (xs.getD j 0) = false) (fun _ i => xs.length - (intOf i).toNat)
  case atStart => exact ⟨0, by omega, rfl, fun j hj => absurd hj (by omega)⟩
  case round =>
    obtain ⟨k, hk, rfl, hno⟩ := hrel
    by_cases hlt : k < xs.length
    · obtain ⟨b, off, x, rfl, hx, hb, hc⟩ := h.at_ hlt
      cases hp : badE x
      · have HNO := Lib.hid hno
        have HX := Lib.hid hx
        clear hno hx h
        go_wp2_with (go_at_call 71; refine (places1_c _ _).mono ?_; rintro e w' ⟨rfl, rfl⟩)
        go_round
        case rel => exact ⟨k + 1, by omega, by go_num, fun j hj => by
          by_cases e : j = k
          · subst e; rw [← HX.out]; exact hp
          · exact HNO.out j (by omega)⟩
        case measure => simp [intOf]; omega
      · have hr := idxI_hit badE hlt hno (by rw [← hx]; exact hp)
        have HR := Lib.hid hr
        clear hno hx h hr
        go_wp2_with (go_at_call 71; refine (places1_c _ _).mono ?_; rintro e w' ⟨rfl, rfl⟩)
        go_ret
        exact ⟨by rw [HR.out]; rfl, rfl⟩
    · have hr := idxI_none badE (fun j hj => hno j (by omega))
      have HR := Lib.hid hr
      clear hno h hr
      go_wp2
      go_ret
      exact ⟨by rw [HR.out]; rfl, rfl⟩
theorem places_has {B : Nat} (A : Option Addr) (c : Nat) (xs : List Int) (w : World) (h : RdI w B A xs) (hm : xs.length ≤ 4611686018427387904) : Calls Try.prog 70 #[.slice A xs.length c, .func (.func 71) #[] #[]] w fun e w' => e = .returned (.bool (xs.any badE)) ∧ w = w' := by
  have hr := idxI_any badE xs
  go_enter Try.func70, Try.ntmps70
  go_wp2_with (go_at_call 66; refine (places_idx _ _ _ _ h hm).mono ?_; rintro e w' ⟨rfl, rfl⟩)
  go_ret
  exact ⟨by rw [← hr]; rfl, rfl⟩

theorem arePlaces_c {B : Nat} (A : Option Addr) (c : Nat) (xs : List Int) (w : World) (h : RdI w B A xs) (hm : xs.length ≤ 4611686018427387904) : Calls Try.prog 44 #[.slice A xs.length c] w fun e w' => e = .returned (.bool (goodL xs)) ∧ w = w' := by
  rw [goodL_of_any]
  by_cases h1 : xs.length ≤ 12
  · have h1' : (xs.length : Int) ≤ 12 := by omega
    have h2 : decide (xs.length ≤ 12) = true := by simpa using h1
    rw [h2, Bool.true_and]
    clear h2
    go_enter Try.func44, Try.ntmps44
    go_wp2_with (go_at_call 70; refine (places_has _ _ _ _ h hm).mono ?_; rintro e w' ⟨rfl, rfl⟩)
    go_ret
    exact ⟨rfl, rfl⟩
  · have h1' : ¬ (xs.length : Int) ≤ 12 := by omega
    have h2 : decide (xs.length ≤ 12) = false := by simpa using h1
    rw [h2, Bool.false_and]
    clear h2
    go_enter Try.func44, Try.ntmps44
    go_wp2
    go_ret
    exact ⟨rfl, rfl⟩

theorem l12List_c {B : Nat} (A : Option Addr) (c : Nat) (xs : List Int) (w : World) (h : RdI w B A xs) (hm : xs.length ≤ 4611686018427387904) : Calls Try.prog 42 #[.slice A xs.length c] w fun e w' => e = .returned (.bool (goodL xs)) ∧ w = w' := by
  go_enter Try.func42, Try.ntmps42
  go_wp2
  go_loop [3] (fun i => ∃ k : Nat, k ≤ xs.length ∧ i = .int .i64 k ∧ ∀ j, j < k → inB (xs.getD j 0) 0 1000 = true) (fun i => xs.length - (intOf i).toNat)
  case atStart => exact ⟨0, by omega, rfl, fun j hj => absurd hj (by omega)⟩
  case round =>
    obtain ⟨k, hk, rfl, hno⟩ := hrel
    by_cases hlt : k < xs.length
    · obtain ⟨b, off, x, rfl, hx, hb, hc⟩ := h.at_ hlt
      cases hp : inB x 0 1000
      · have hr := goodL_bad hlt (by rw [← hx]; exact hp)
        have HR := Lib.hid hr
        clear hno hx h hr
        go_wp2_with (go_at_call 61; refine (l12Elevation_c _ _).mono ?_; rintro e w' ⟨rfl, rfl⟩)
        go_ret
        exact ⟨by rw [HR.out]; rfl, rfl⟩
      · have HNO := Lib.hid hno
        have HX := Lib.hid hx
        clear hno hx h
        go_wp2_with (go_at_call 61; refine (l12Elevation_c _ _).mono ?_; rintro e w' ⟨rfl, rfl⟩)
        go_round
        case rel => exact ⟨k + 1, by omega, by go_num, fun j hj => by
          by_cases e : j = k
          · subst e; rw [← HX.out]; exact hp
          · exact HNO.out j (by omega)⟩
        case measure => simp [intOf]; omega
    · have hr := goodL_end (xs := xs) (fun j hj => hno j (by omega))
      have HR := Lib.hid hr
      clear hno h hr
      go_wp2
      go_ret
      exact ⟨by rw [HR.out]; simp; omega, rfl⟩
end Go.Proofs.Ytakpoalcfjedlaa
