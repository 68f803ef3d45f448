/- Contracts: valid areas. -/
import Derived.Test.YtdkhiedgikjnkaaSlices
import Derived.Test.YtdkhiedgikjnkaaAPlain
namespace Go.Proofs.Ytdkhiedgikjnkaa
open Go.RowKit

theorem isLeakFlow_c (n : Int) (w : World) : Calls Try.prog 45 #[.int .i64 n] w fun e w' => e = .returned (.bool (okF n)) ∧ w = w' := by
  go_enter Try.func45, Try.ntmps45
  go_wp2_with (go_at_call 42; refine (inside_c _ _ _ _).mono ?_; rintro e w' ⟨rfl, rfl⟩)
  go_ret
  exact ⟨rfl, rfl⟩
theorem l17Flow_c (n : Int) (w : World) : Calls Try.prog 40 #[.int .i64 n] w fun e w' => e = .returned (.bool (okF n)) ∧ w = w' := by
  go_enter Try.func40, Try.ntmps40
  go_wp2_with (go_at_call 41; refine (l1In_c _ _ _ _).mono ?_; rintro e w' ⟨rfl, rfl⟩)
  go_ret
  exact ⟨rfl, rfl⟩
theorem area1_c (x : Int) (w : World) : Calls Try.prog 48 #[.int .i64 x] w fun e w' => e = .returned (.bool (badF x)) ∧ w = w' := by
  go_enter Try.func48, Try.ntmps48
  go_wp2_with (go_at_call 45; refine (isLeakFlow_c _ _).mono ?_; rintro e w' ⟨rfl, rfl⟩)
  go_ret
  exact ⟨rfl, rfl⟩
theorem step1_c (x : Int) (w : World) : Calls Try.prog 44 #[.int .i64 x] w fun e w' => e = .returned (.bool (badF x)) ∧ w = w' := by
  go_enter Try.func44, Try.ntmps44
  go_wp2_with (go_at_call 45; refine (isLeakFlow_c _ _).mono ?_; rintro e w' ⟨rfl, rfl⟩)
  go_ret
  exact ⟨rfl, rfl⟩
theorem area_idx {B : Nat} (A : Option Addr) (c : Nat) (xs : List Int) (w : World) (h : RdI w B A xs) (hm : xs.length ≤ 4611686018427387904) : Calls Try.prog 66 #[.slice A xs.length c, .func (.func 48) #[] #[]] w fun e w' => e = .returned (.int .i64 (idxI badF xs)) ∧ w = w' := by
  go_enter Try.func66, Try.ntmps66
  go_wp2
  go_loop [5, 8] (fun _ i => ∃ k : Nat, k ≤ xs.length ∧ i = .int .i64 k ∧ ∀ j, j < k → badF (xs.getD j 0) = false) (fun _ i => xs.length - (intOf i).toNat)
  case atStart => exact ⟨0, by omega, rfl, fun j hj => absurd hj (by omega)⟩
  case round =>
    obtain ⟨k, hk, rfl, hno⟩ := hrel
    by_cases hlt : k < xs.length
    · obtain ⟨b, off, x, rfl, hx, hb, hc⟩ := h.at_ hlt
      cases hp : badF x
      · have HNO := Lib.hid hno
        have HX := Lib.hid hx
        clear hno hx h
        go_wp2_with (go_at_call 48; refine (area1_c _ _).mono ?_; rintro e w' ⟨rfl, rfl⟩)
        go_round
        case rel => exact ⟨k + 1, by omega, by go_num, fun j hj => by
          by_cases e : j = k
          · subst e; rw [← HX.out]; exact hp
          · exact HNO.out j (by omega)⟩
        case measure => simp [intOf]; omega
      · have hr := idxI_hit badF hlt hno (by rw [← hx]; exact hp)
        have HR := Lib.hid hr
        clear hno hx h hr
        go_wp2_with (go_at_call 48; refine (area1_c _ _).mono ?_; rintro e w' ⟨rfl, rfl⟩)
        go_ret
        exact ⟨by rw [HR.out]; rfl, rfl⟩
    · have hr := idxI_none badF (fun j hj => hno j (by omega))
      have HR := Lib.hid hr
      clear hno h hr
      go_wp2
      go_ret
      exact ⟨by rw [HR.out]; rfl, rfl⟩
theorem area_has {B : Nat} (A : Option Addr) (c : Nat) (xs : List Int) (w : World) (h : RdI w B A xs) (hm : xs.length ≤ 4611686018427387904) : Calls Try.prog 43 #[.slice A xs.length c, .func (.func 48) #[] #[]] w fun e w' => e = .returned (.bool (xs.any badF)) ∧ w = w' := by
  have hr := idxI_any badF xs
  go_enter Try.func43, Try.ntmps43
  go_wp2_with (go_at_call 66; refine (area_idx _ _ _ _ h hm).mono ?_; rintro e w' ⟨rfl, rfl⟩)
  go_ret
  exact ⟨by rw [← hr]; rfl, rfl⟩
theorem stept_idx {B : Nat} (A : Option Addr) (c : Nat) (xs : List Int) (w : World) (h : RdI w B A xs) (hm : xs.length ≤ 4611686018427387904) : Calls Try.prog 66 #[.slice A xs.length c, .func (.func 44) #[] #[]] w fun e w' => e = .returned (.int .i64 (idxI badF xs)) ∧ w = w' := by
  go_enter Try.func66, Try.ntmps66
  go_wp2
  go_loop [5, 8] (fun _ i => ∃ k : Nat, k ≤ xs.length ∧ i = .int .i64 k ∧ ∀ j, j < k → badF (xs.getD j 0) = false) (fun _ i => xs.length - (intOf i).toNat)
  case atStart => exact ⟨0, by omega, rfl, fun j hj => absurd hj (by omega)⟩
  case round =>
    obtain ⟨k, hk, rfl, hno⟩ := hrel
    by_cases hlt : k < xs.length
    · obtain ⟨b, off, x, rfl, hx, hb, hc⟩ := h.at_ hlt
      cases hp : badF x
      · have HNO := Lib.hid hno
        have HX := Lib.hid hx
        clear hno hx h
        go_wp2_with (go_at_call 44; refine (step1_c _ _).mono ?_; rintro e w' ⟨rfl, rfl⟩)
        go_round
        case rel => exact ⟨k + 1, by omega, by go_num, fun j hj => by
          by_cases e : j = k
          · subst e; rw [← HX.out]; exact hp
          · exact HNO.out j (by omega)⟩
        case measure => simp [intOf]; omega
      · have hr := idxI_hit badF hlt hno (by rw [← hx]; exact hp)
        have HR := Lib.hid hr
        clear hno hx h hr
        go_wp2_with (go_at_call 44; refine (step1_c _ _).mono ?_; rintro e w' ⟨rfl, rfl⟩)
        go_ret
        exact ⟨by rw [HR.out]; rfl, rfl⟩
    · have hr := idxI_none badF (fun j hj => hno j (by omega))
      have HR := Lib.hid hr
      clear hno h hr
      go_wp2
      go_ret
      exact ⟨by rw [HR.out]; rfl, rfl⟩
theorem stept_has {B : Nat} (A : Option Addr) (c : Nat) (xs : List Int) (w : World) (h : RdI w B A xs) (hm : xs.length ≤ 4611686018427387904) : Calls Try.prog 43 #[.slice A xs.length c, .func (.func 44) #[] #[]] w fun e w' => e = .returned (.bool (xs.any badF)) ∧ w = w' := by
  have hr := idxI_any badF xs
  go_enter Try.func43, Try.ntmps43
  go_wp2_with (go_at_call 66; refine (stept_idx _ _ _ _ h hm).mono ?_; rintro e w' ⟨rfl, rfl⟩)
  go_ret
  exact ⟨by rw [← hr]; rfl, rfl⟩

theorem implArea_c {B : Nat} (I H : Int) (A : Option Addr) (c : Nat) (xs : List Int) (w : World) (h : RdI w B A xs) (hB : B ≤ w.heap.size) (hm : xs.length ≤ 4611686018427387904) : Calls Try.prog 19 #[.agg #[.int .i64 I, .int .i64 H, .slice A xs.length c]] w fun e w' => e = .returned (.bool (goodA I H xs)) ∧ Below w.heap.size w w' := by
  rcases goodA_ways I H xs with ⟨h1, e⟩ | ⟨h1, h2, e⟩ | ⟨h1, h2, h3, e⟩ | ⟨h1, h2, h3, e⟩
  all_goals
    rw [e]; clear e
    try rw [goodF_any]
    go_enter Try.func19, Try.ntmps19
    go_wp2_with (first | (go_at_call 42; refine (inside_c _ _ _ _).mono ?_; rintro e w' ⟨rfl, rfl⟩) | (go_at_call 43; refine (area_has _ _ _ _ (h.alloc hB _) hm).mono ?_; rintro e w' ⟨rfl, rfl⟩))
    (go_returns; exact ⟨by first | rfl | (simp; done) | (simp; omega), by (repeat' (first | (with_reducible exact Below.refl _ _) | (with_reducible assumption) | (with_reducible refine below_drewN ?_ _) | (with_reducible refine Below.alloc ?_ ?_ _) | (with_reducible refine Below.drew ?_) | (with_reducible refine Below.setCell ?_ ?_ _) | go_size))⟩)
set_option maxHeartbeats 400000 in
theorem l17Good_c {B : Nat} (I H : Int) (A : Option Addr) (c : Nat) (xs : List Int) (w : World) (h : RdI w B A xs) (hB : B ≤ w.heap.size) (hm : xs.length ≤ 4611686018427387904) : Calls Try.prog 47 #[.agg #[.int .i64 I, .int .i64 H, .slice A xs.length c]] w fun e w' => e = .returned (.bool (goodA I H xs)) ∧ Below w.heap.size w w' := by
  go_enter Try.func47, Try.ntmps47
  go_wp2
  go_loop [3] (fun i => ∃ k : Nat, k ≤ xs.length ∧ i = .int .i64 k ∧ ∀ j, j < k → okF (xs.getD j 0) = true) (fun i => xs.length - (intOf i).toNat)
  case atStart => exact ⟨0, by omega, rfl, fun j hj => absurd hj (by omega)⟩
  case round =>
    obtain ⟨k, hk, rfl, hno⟩ := hrel
    by_cases hlt : k < xs.length
    · obtain ⟨b, off, x, rfl, hx, hb, hc0⟩ := h.at_ hlt
      have hc : (w.alloc (.cells #[.int .i64 I, .int .i64 H, .slice (some ⟨b, off, none⟩) xs.length c] 32)).cell? ⟨b, off + k, none⟩ = some (.int .i64 x) := by
        rw [World.cell?_alloc_lt _ _ _ (show b < w.heap.size by omega)]; exact hc0
      cases hp : okF x
      · have hr : goodA I H xs = false := by unfold goodA; rw [goodF_bad hlt (by rw [← hx]; exact hp), Bool.and_false]
        have HR := Lib.hid hr
        clear hno hx h hr
        go_wp2_with (go_at_call 40; refine (l17Flow_c _ _).mono ?_; rintro e w' ⟨rfl, rfl⟩)
        go_returns
        exact ⟨by rw [HR.out]; rfl, by (repeat' (first | (with_reducible exact Below.refl _ _) | (with_reducible assumption) | (with_reducible refine below_drewN ?_ _) | (with_reducible refine Below.alloc ?_ ?_ _) | (with_reducible refine Below.drew ?_) | (with_reducible refine Below.setCell ?_ ?_ _) | go_size))⟩
      · have HNO := Lib.hid hno
        have HX := Lib.hid hx
        clear hno hx h
        go_wp2_with (go_at_call 40; refine (l17Flow_c _ _).mono ?_; rintro e w' ⟨rfl, rfl⟩)
        go_round
        case rel => exact ⟨k + 1, by omega, by go_num, fun j hj => by
          by_cases e : j = k
          · subst e; rw [← HX.out]; exact hp
          · exact HNO.out j (by omega)⟩
        case measure => simp [intOf]; omega
    · have hr : goodF xs = true := goodF_end (xs := xs) (fun j hj => hno j (by omega))
      rcases goodA_ways I H xs with ⟨h1, e⟩ | ⟨h1, h2, e⟩ | ⟨h1, h2, h3, e⟩ | ⟨h1, h2, h3, e⟩
      all_goals
        try rw [hr] at e
        have E := Lib.hid e
        clear e
        go_wp2_with (go_at_call 41; refine (l1In_c _ _ _ _).mono ?_; rintro e w' ⟨rfl, rfl⟩)
        go_returns
        exact ⟨by rw [E.out]; rfl, by (repeat' (first | (with_reducible exact Below.refl _ _) | (with_reducible assumption) | (with_reducible refine below_drewN ?_ _) | (with_reducible refine Below.alloc ?_ ?_ _) | (with_reducible refine Below.drew ?_) | (with_reducible refine Below.setCell ?_ ?_ _) | go_size))⟩
theorem specArea_c {B : Nat} (I H : Int) (A : Option Addr) (c : Nat) (xs : List Int) (w : World) (h : RdI w B A xs) (hB : B ≤ w.heap.size) (hm : xs.length ≤ 4611686018427387904) : Calls Try.prog 17 #[.agg #[.int .i64 I, .int .i64 H, .slice A xs.length c]] w fun e w' => e = .returned (.bool (goodA I H xs)) ∧ Below w.heap.size w w' := by
  go_enter Try.func17, Try.ntmps17
  go_wp2_with fail; (go_at_call 47; refine (l17Good_c _ _ _ _ _ _ (h.alloc hB _) (by simp; omega) hm).mono ?_; rintro e w1 ⟨rfl, hb1⟩; have hz1 := hb1.size; (repeat (first | rw [World.size_alloc] at hz1 | rw [World.size_drew] at hz1 | rw [World.heap_drewN] at hz1 | rw [World.size_setCell] at hz1)); have hB : Below w.heap.size w w1 := Below.trans (by (repeat' (first | (with_reducible exact Below.refl _ _) | (with_reducible assumption) | (with_reducible refine below_drewN ?_ _) | (with_reducible refine Below.alloc ?_ ?_ _) | (with_reducible refine Below.drew ?_) | (with_reducible refine Below.setCell ?_ ?_ _) | go_size))) (hb1.mono (by go_size)); have hL1 := hb1; clear hb1; obtain ⟨hc1, hf1⟩ := bcell hL1)
  go_wp2
  (go_returns; exact ⟨by first | rfl | (simp; done) | (simp; omega), by (repeat' (first | (with_reducible exact Below.refl _ _) | (with_reducible assumption) | (with_reducible refine below_drewN ?_ _) | (with_reducible refine Below.alloc ?_ ?_ _) | (with_reducible refine Below.drew ?_) | (with_reducible refine Below.setCell ?_ ?_ _) | go_size))⟩)
end Go.Proofs.Ytdkhiedgikjnkaa
