/- The flow lost until repaired: contracts. -/
import Derived.Test.YtdkhiedgikjnkaaAWalk
namespace Go.Proofs.Ytdkhiedgikjnkaa
open Go.RowKit

def repAt (ls hs : List Int) (j : Nat) : Bool := okF (ls.getD j 0) && inB (hs.getD j 0) 1 100
def repG (ls hs : List Int) : Bool := decide (ls.length ≤ 10) && (decide (hs.length = ls.length) && (List.range ls.length).all (repAt ls hs))
theorem repG_len {ls hs : List Int} (h : ¬ ls.length ≤ 10) : repG ls hs = false := by simp [repG, h]
theorem repG_neq {ls hs : List Int} (h : ¬ hs.length = ls.length) : repG ls hs = false := by simp [repG, h]
theorem repG_bad {ls hs : List Int} {k : Nat} (hk : k < ls.length) (h : repAt ls hs k = false) : repG ls hs = false := by
  have : (List.range ls.length).all (repAt ls hs) = false := by
    rw [List.all_eq_false]; exact ⟨k, by simpa using hk, by simp [h]⟩
  simp [repG, this]
theorem repG_yes {ls hs : List Int} (h1 : ls.length ≤ 10) (h2 : hs.length = ls.length) (h : ∀ j, j < ls.length → repAt ls hs j = true) : repG ls hs = true := by
  have : (List.range ls.length).all (repAt ls hs) = true := by
    rw [List.all_eq_true]; intro j hj; exact h j (by simpa using hj)
  simp [repG, this, h1, h2]
theorem repG_out {ls hs : List Int} (h : repG ls hs = true) : ls.length ≤ 10 ∧ hs.length = ls.length ∧ ∀ j, j < ls.length → 0 ≤ ls.getD j 0 ∧ ls.getD j 0 ≤ 1000000 ∧ 1 ≤ hs.getD j 0 ∧ hs.getD j 0 ≤ 100 := by
  simp only [repG, Bool.and_eq_true, decide_eq_true_eq, List.all_eq_true, List.mem_range] at h
  refine ⟨h.1, h.2.1, fun j hj => ?_⟩
  have := h.2.2 j hj
  simp only [repAt, Bool.and_eq_true] at this
  have a := inB_out this.1
  have b := inB_out this.2
  exact ⟨a.1, a.2, b.1, b.2⟩
/-- The k-th of an order is a place that has not come yet. -/
def luAt (n : Nat) (os : List Int) (k : Nat) : Bool := inB (os.getD k 0) 0 ((n : Int) - 1) && !(os.take k).any (fun x => os.getD k 0 == x)
def luK (ls hs os : List Int) : Nat → Int × Int
  | 0 => (0, 0)
  | k + 1 => ((luK ls hs os k).1 + ls.getD (os.getD k 0).toNat 0 * ((luK ls hs os k).2 + hs.getD (os.getD k 0).toNat 0), (luK ls hs os k).2 + hs.getD (os.getD k 0).toNat 0)
theorem luK_next {ls hs os : List Int} {k i : Nat} {p : Int × Int} {a b : Int} (hp : p = luK ls hs os k) (hi : (i : Int) = os.getD k 0) (ha : a = ls.getD i 0) (hb : b = hs.getD i 0) :
    luK ls hs os (k + 1) = (p.1 + a * (p.2 + b), p.2 + b) := by
  rw [luK, ← hi, ← hp, Int.toNat_natCast, ← ha, ← hb]
def luG (ls hs os : List Int) : Bool := repG ls hs && (decide (os.length = ls.length) && (List.range os.length).all (luAt ls.length os))
def luR (ls hs os : List Int) : Int × Bool := if luG ls hs os then ((luK ls hs os os.length).1, true) else (0, false)
theorem luR_rep {ls hs os : List Int} (h : repG ls hs = false) : luR ls hs os = (0, false) := by simp [luR, luG, h]
theorem luR_neq {ls hs os : List Int} (h : ¬ os.length = ls.length) : luR ls hs os = (0, false) := by simp [luR, luG, h]
theorem luR_bad {ls hs os : List Int} {k : Nat} (hk : k < os.length) (h : luAt ls.length os k = false) : luR ls hs os = (0, false) := by
  have : (List.range os.length).all (luAt ls.length os) = false := by
    rw [List.all_eq_false]; exact ⟨k, by simpa using hk, by simp [h]⟩
  simp [luR, luG, this]
theorem luR_yes {ls hs os : List Int} (h1 : repG ls hs = true) (h2 : os.length = ls.length) (h : ∀ j, j < os.length → luAt ls.length os j = true) : luR ls hs os = ((luK ls hs os os.length).1, true) := by
  have : (List.range os.length).all (luAt ls.length os) = true := by
    rw [List.all_eq_true]; intro j hj; exact h j (by simpa using hj)
  have hg : luG ls hs os = true := by rw [luG, h1, this, decide_eq_true h2]; rfl
  rw [luR, if_pos hg]
theorem RdI.take {w : World} {B : Nat} {A : Option Addr} {xs : List Int} (h : RdI w B A xs) (k : Nat) : RdI w B A (xs.take k) := fun hp => by
  obtain ⟨b, off, hA, hb, hc⟩ := h (by rw [List.length_take] at hp; omega)
  refine ⟨b, off, hA, hb, fun j hj => ?_⟩
  rw [List.length_take] at hj
  rw [hc j (by omega)]
  congr 2
  simp only [List.getD_eq_getElem?_getD]
  rw [List.getElem?_take_of_lt (by omega)]

theorem slicesIndex_c {B : Nat} (A : Option Addr) (c : Nat) (xs : List Int) (n : Int) (w : World) (h : RdI w B A xs) (hm : xs.length ≤ 4611686018427387904) : Calls Try.prog 67 #[.slice A xs.length c, .int .i64 n] w fun e w' => e = .returned (.int .i64 (idxI (fun x => n == x) xs)) ∧ w = w' := by
  go_enter Try.func67, Try.ntmps67
  go_wp2
  go_loop [5, 8] (fun _ i => ∃ k : Nat, k ≤ xs.length ∧ i = .int .i64 k ∧ ∀ j, j < k → (fun x => n == x) (xs.getD j 0) = false) (fun _ i => xs.length - (intOf i).toNat)
  case atStart => exact ⟨0, by omega, rfl, fun j hj => absurd hj (by omega)⟩
  case round =>
    obtain ⟨k, hk, rfl, hno⟩ := hrel
    by_cases hlt : k < xs.length
    · obtain ⟨b, off, x, rfl, hx, hb, hc⟩ := h.at_ hlt
      cases hp : (n == x)
      · have hnx : ¬ n = x := by simpa using hp
        have HNO := Lib.hid hno
        have HX := Lib.hid hx
        clear hno hx h
        go_wp2
        go_round
        case rel => exact ⟨k + 1, by omega, by go_num, fun j hj => by
          by_cases e : j = k
          · subst e; rw [← HX.out]; exact hp
          · exact HNO.out j (by omega)⟩
        case measure => simp [intOf]; omega
      · have hr := idxI_hit (fun x => n == x) hlt hno (by rw [← hx]; exact hp)
        obtain rfl : n = x := by simpa using hp
        have HR := Lib.hid hr
        clear hno hx h hr
        go_wp2
        go_ret
        exact ⟨by rw [HR.out]; rfl, rfl⟩
    · have hr := idxI_none (fun x => n == x) (fun j hj => hno j (by omega))
      have HR := Lib.hid hr
      clear hno h hr
      go_wp2
      go_ret
      exact ⟨by rw [HR.out]; rfl, rfl⟩
/-- slices.Contains of the first k numbers. -/
theorem slicesContains_c {B : Nat} (A : Option Addr) (c k : Nat) (xs : List Int) (n : Int) (w : World) (h : RdI w B A xs) (hk : k ≤ xs.length) (hm : xs.length ≤ 4611686018427387904) : Calls Try.prog 52 #[.slice A k c, .int .i64 n] w fun e w' => e = .returned (.bool ((xs.take k).any (fun x => n == x))) ∧ w = w' := by
  have hr := idxI_any (fun x => n == x) (xs.take k)
  have hl : (xs.take k).length = k := by rw [List.length_take]; omega
  have hi := slicesIndex_c A c (xs.take k) n w (h.take k) (by omega)
  rw [hl] at hi
  clear hl
  go_enter Try.func52, Try.ntmps52
  go_wp2_with (go_at_call 67; refine (hi).mono ?_; rintro e w' ⟨rfl, rfl⟩)
  go_ret
  exact ⟨by rw [← hr]; rfl, rfl⟩
theorem anyOf_hit (P : Int → Bool) {xs : List Int} {k : Nat} (hk : k < xs.length) (h : P (xs.getD k 0) = true) : xs.any P = true := by
  rw [List.any_eq_true]
  exact ⟨xs.getD k 0, by simp [List.getD_eq_getElem?_getD, hk], h⟩
theorem anyOf_none (P : Int → Bool) {xs : List Int} (h : ∀ j, j < xs.length → P (xs.getD j 0) = false) : xs.any P = false := by
  rw [List.any_eq_false]
  intro x hx
  obtain ⟨j, hj, rfl⟩ := List.getElem_of_mem hx
  have := h j hj
  simpa [List.getD_eq_getElem?_getD, hj] using this
theorem l1HasAll_c {B : Nat} (A : Option Addr) (c : Nat) (xs : List Int) (n : Int) (w : World) (h : RdI w B A xs) (hm : xs.length ≤ 4611686018427387904) : Calls Try.prog 50 #[.slice A xs.length c, .int .i64 n] w fun e w' => e = .returned (.bool (xs.any (fun x => n == x))) ∧ w = w' := by
  go_enter Try.func50, Try.ntmps50
  go_wp2
  go_loop [5] (fun i => ∃ k : Nat, k ≤ xs.length ∧ i = .int .i64 k ∧ ∀ j, j < k → (fun x => n == x) (xs.getD j 0) = false) (fun i => xs.length - (intOf i).toNat)
  case atStart => exact ⟨0, by omega, rfl, fun j hj => absurd hj (by omega)⟩
  case round =>
    obtain ⟨k, hk, rfl, hno⟩ := hrel
    by_cases hlt : k < xs.length
    · obtain ⟨b, off, x, rfl, hx, hb, hc⟩ := h.at_ hlt
      cases hp : (n == x)
      · have hnx : ¬ x = n := fun e => by simp [e] at hp
        have HNO := Lib.hid hno
        have HX := Lib.hid hx
        clear hno hx h
        go_wp2
        go_round
        case rel => exact ⟨k + 1, by omega, by go_num, fun j hj => by
          by_cases e : j = k
          · subst e; rw [← HX.out]; exact hp
          · exact HNO.out j (by omega)⟩
        case measure => simp [intOf]; omega
      · have hr := anyOf_hit (fun x => n == x) hlt (by rw [← hx]; exact hp)
        obtain rfl : n = x := by simpa using hp
        have HR := Lib.hid hr
        clear hno hx h hr
        go_wp2
        go_ret
        exact ⟨by rw [HR.out]; rfl, rfl⟩
    · have hr := anyOf_none (fun x => n == x) (fun j hj => hno j (by omega))
      have HR := Lib.hid hr
      clear hno h hr
      go_wp2
      go_ret
      exact ⟨by rw [HR.out]; rfl, rfl⟩
theorem l1HasTake_c {B : Nat} (A : Option Addr) (c k : Nat) (xs : List Int) (n : Int) (w : World) (h : RdI w B A xs) (hk : k ≤ xs.length) (hm : xs.length ≤ 4611686018427387904) : Calls Try.prog 50 #[.slice A k c, .int .i64 n] w fun e w' => e = .returned (.bool ((xs.take k).any (fun x => n == x))) ∧ w = w' := by
  have hl : (xs.take k).length = k := by rw [List.length_take]; omega
  have hi := l1HasAll_c A c (xs.take k) n w (h.take k) (by omega)
  rw [hl] at hi
  exact hi

set_option maxHeartbeats 1000000 in
theorem areRepairs_c {B B' : Nat} (A A' : Option Addr) (c c' : Nat) (ls hs : List Int) (w : World) (h : RdI w B A ls) (h' : RdI w B' A' hs) (hm : ls.length ≤ 4611686018427387904) : Calls Try.prog 51 #[.slice A ls.length c, .slice A' hs.length c'] w fun e w' => e = .returned (.bool (repG ls hs)) ∧ w = w' := by
  by_cases h1 : ls.length ≤ 10
  case neg =>
    rw [repG_len h1]
    have hi : (10 : Int) < (ls.length : Int) := by omega
    by_cases h2 : hs.length = ls.length
    case neg =>
      have hn : ¬ (ls.length : Int) = (hs.length : Int) := by omega
      have hn' : ¬ (hs.length : Int) = (ls.length : Int) := by omega
      go_enter Try.func51, Try.ntmps51
      go_wp2
      go_ret
      exact ⟨rfl, rfl⟩
    · rw [h2]
      go_enter Try.func51, Try.ntmps51
      go_wp2
      go_ret
      exact ⟨rfl, rfl⟩
  have hi : ¬ (10 : Int) < (ls.length : Int) := by omega
  by_cases h2 : hs.length = ls.length
  case neg =>
    rw [repG_neq h2]
    have hn : ¬ (ls.length : Int) = (hs.length : Int) := by omega
    have hn' : ¬ (hs.length : Int) = (ls.length : Int) := by omega
    go_enter Try.func51, Try.ntmps51
    go_wp2
    go_ret
    exact ⟨rfl, rfl⟩
  have H2 := Lib.hid h2
  rw [h2]
  clear h2
  go_enter Try.func51, Try.ntmps51
  go_wp2
  go_loop [5, 6, 19] (fun _ _ i => ∃ k : Nat, k ≤ ls.length ∧ i = .int .i64 k ∧ ∀ j, j < k → repAt ls hs j = true) (fun _ _ i => ls.length - (intOf i).toNat)
  case atStart => exact ⟨0, by omega, rfl, fun j hj => absurd hj (by omega)⟩
  case round =>
    obtain ⟨k, hk, rfl, hno⟩ := hrel
    by_cases hlt : k < ls.length
    · obtain ⟨b, off, x, rfl, hx, hb, hc⟩ := h.at_ hlt
      obtain ⟨b', off', x', rfl, hx', hb', hc'⟩ := h'.at_ (k := k) (by have := H2.out; omega)
      cases hp : okF x
      · have hr := repG_bad (ls := ls) (hs := hs) hlt (by rw [repAt, ← hx, hp]; rfl)
        have HR := Lib.hid hr
        clear hno hx hx' h h' hr
        go_wp2_with (first | (go_at_call 45; refine (isLeakFlow_c _ _).mono ?_; rintro e w' ⟨rfl, rfl⟩) | (go_at_call 42; refine (inside_c _ _ _ _).mono ?_; rintro e w' ⟨rfl, rfl⟩))
        go_ret
        exact ⟨by rw [HR.out]; rfl, rfl⟩
      cases hq : inB x' 1 100
      · have hr := repG_bad (ls := ls) (hs := hs) hlt (by rw [repAt, ← hx', hq, Bool.and_false])
        have HR := Lib.hid hr
        clear hno hx hx' h h' hr
        go_wp2_with (first | (go_at_call 45; refine (isLeakFlow_c _ _).mono ?_; rintro e w' ⟨rfl, rfl⟩) | (go_at_call 42; refine (inside_c _ _ _ _).mono ?_; rintro e w' ⟨rfl, rfl⟩))
        go_ret
        exact ⟨by rw [HR.out]; rfl, rfl⟩
      · have hq2 : repAt ls hs k = true := by rw [repAt, ← hx, ← hx', hp, hq]; rfl
        have HNO := Lib.hid hno
        have HQ := Lib.hid hq2
        clear hno hx hx' h h' hq2
        go_wp2_with (first | (go_at_call 45; refine (isLeakFlow_c _ _).mono ?_; rintro e w' ⟨rfl, rfl⟩) | (go_at_call 42; refine (inside_c _ _ _ _).mono ?_; rintro e w' ⟨rfl, rfl⟩))
        go_round
        case rel => exact ⟨k + 1, by omega, by go_num, fun j hj => by
          by_cases e : j = k
          · subst e; exact HQ.out
          · exact HNO.out j (by omega)⟩
        case measure => simp [intOf]; omega
    · have hr := repG_yes (by omega) H2.out (fun j hj => hno j (by omega))
      have HR := Lib.hid hr
      clear hno h h' hr
      go_wp2
      go_ret
      exact ⟨by rw [HR.out]; rfl, rfl⟩
set_option maxHeartbeats 1000000 in
theorem l17Repairs_c {B B' : Nat} (A A' : Option Addr) (c c' : Nat) (ls hs : List Int) (w : World) (h : RdI w B A ls) (h' : RdI w B' A' hs) (hm : ls.length ≤ 4611686018427387904) : Calls Try.prog 49 #[.slice A ls.length c, .slice A' hs.length c'] w fun e w' => e = .returned (.bool (repG ls hs)) ∧ w = w' := by
  by_cases h1 : ls.length ≤ 10
  case neg =>
    rw [repG_len h1]
    have hi : (10 : Int) < (ls.length : Int) := by omega
    by_cases h2 : hs.length = ls.length
    case neg =>
      have hn : ¬ (ls.length : Int) = (hs.length : Int) := by omega
      have hn' : ¬ (hs.length : Int) = (ls.length : Int) := by omega
      go_enter Try.func49, Try.ntmps49
      go_wp2
      go_ret
      exact ⟨rfl, rfl⟩
    · rw [h2]
      go_enter Try.func49, Try.ntmps49
      go_wp2
      go_ret
      exact ⟨rfl, rfl⟩
  have hi : ¬ (10 : Int) < (ls.length : Int) := by omega
  by_cases h2 : hs.length = ls.length
  case neg =>
    rw [repG_neq h2]
    have hn : ¬ (ls.length : Int) = (hs.length : Int) := by omega
    have hn' : ¬ (hs.length : Int) = (ls.length : Int) := by omega
    go_enter Try.func49, Try.ntmps49
    go_wp2
    go_ret
    exact ⟨rfl, rfl⟩
  have H2 := Lib.hid h2
  rw [h2]
  clear h2
  go_enter Try.func49, Try.ntmps49
  go_wp2
  go_loop [5] (fun i => ∃ k : Nat, k ≤ ls.length ∧ i = .int .i64 k ∧ ∀ j, j < k → repAt ls hs j = true) (fun i => ls.length - (intOf i).toNat)
  case atStart => exact ⟨0, by omega, rfl, fun j hj => absurd hj (by omega)⟩
  case round =>
    obtain ⟨k, hk, rfl, hno⟩ := hrel
    by_cases hlt : k < ls.length
    · obtain ⟨b, off, x, rfl, hx, hb, hc⟩ := h.at_ hlt
      obtain ⟨b', off', x', rfl, hx', hb', hc'⟩ := h'.at_ (k := k) (by have := H2.out; omega)
      cases hp : okF x
      · have hr := repG_bad (ls := ls) (hs := hs) hlt (by rw [repAt, ← hx, hp]; rfl)
        have HR := Lib.hid hr
        clear hno hx hx' h h' hr
        go_wp2_with (first | (go_at_call 40; refine (l17Flow_c _ _).mono ?_; rintro e w' ⟨rfl, rfl⟩) | (go_at_call 41; refine (l1In_c _ _ _ _).mono ?_; rintro e w' ⟨rfl, rfl⟩))
        go_ret
        exact ⟨by rw [HR.out]; rfl, rfl⟩
      cases hq : inB x' 1 100
      · have hr := repG_bad (ls := ls) (hs := hs) hlt (by rw [repAt, ← hx', hq, Bool.and_false])
        have HR := Lib.hid hr
        clear hno hx hx' h h' hr
        go_wp2_with (first | (go_at_call 40; refine (l17Flow_c _ _).mono ?_; rintro e w' ⟨rfl, rfl⟩) | (go_at_call 41; refine (l1In_c _ _ _ _).mono ?_; rintro e w' ⟨rfl, rfl⟩))
        go_ret
        exact ⟨by rw [HR.out]; rfl, rfl⟩
      · have hq2 : repAt ls hs k = true := by rw [repAt, ← hx, ← hx', hp, hq]; rfl
        have HNO := Lib.hid hno
        have HQ := Lib.hid hq2
        clear hno hx hx' h h' hq2
        go_wp2_with (first | (go_at_call 40; refine (l17Flow_c _ _).mono ?_; rintro e w' ⟨rfl, rfl⟩) | (go_at_call 41; refine (l1In_c _ _ _ _).mono ?_; rintro e w' ⟨rfl, rfl⟩))
        go_round
        case rel => exact ⟨k + 1, by omega, by go_num, fun j hj => by
          by_cases e : j = k
          · subst e; exact HQ.out
          · exact HNO.out j (by omega)⟩
        case measure => simp [intOf]; omega
    · have hr := repG_yes (by omega) H2.out (fun j hj => hno j (by omega))
      have HR := Lib.hid hr
      clear hno h h' hr
      go_wp2
      go_ret
      exact ⟨by rw [HR.out]; rfl, rfl⟩
end Go.Proofs.Ytdkhiedgikjnkaa
