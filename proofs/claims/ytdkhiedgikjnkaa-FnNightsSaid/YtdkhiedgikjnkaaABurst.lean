/- The night of a burst: contracts. -/
import Derived.Test.YtdkhiedgikjnkaaAArea
namespace Go.Proofs.Ytdkhiedgikjnkaa
open Go.RowKit

def mxK (xs : List Int) : Nat → Int
  | 0 => xs.getD 0 0
  | k + 1 => if mxK xs k < xs.getD (k + 1) 0 then xs.getD (k + 1) 0 else mxK xs k
theorem mxK_b {xs : List Int} {a b : Int} (h : ∀ j, j < xs.length → a ≤ xs.getD j 0 ∧ xs.getD j 0 ≤ b) : ∀ k, k < xs.length → a ≤ mxK xs k ∧ mxK xs k ≤ b
  | 0, hk => h 0 hk
  | k + 1, hk => by
    have i1 := mxK_b h k (by omega); have i2 := h (k + 1) hk
    rw [mxK]; split <;> omega
set_option maxHeartbeats 400000 in
theorem slicesMax_c {B : Nat} (A : Option Addr) (c : Nat) (xs : List Int) (w : World) (h : RdI w B A xs) (hp : 0 < xs.length) (hm : xs.length ≤ 4611686018427387904) : Calls Try.prog 56 #[.slice A xs.length c] w fun e w' => e = .returned (.int .i64 (mxK xs (xs.length - 1))) ∧ w = w' := by
  obtain ⟨b0, off0, x0, rfl, hx0, hb0, hc0⟩ := h.at_ hp
  rw [Nat.add_zero] at hc0
  have HX0 := Lib.hid hx0
  clear hx0
  have hpi : 1 ≤ (xs.length : Int) := by omega
  go_enter Try.func56, Try.ntmps56
  go_wp2
  go_loop [3, 4] (fun m i => ∃ k : Nat, k + 1 ≤ xs.length ∧ i = .int .i64 (k + 1 : Nat) ∧ m = .int .i64 (mxK xs k)) (fun _ i => xs.length - (intOf i).toNat)
  case atStart => exact ⟨0, by omega, rfl, by rw [HX0.out]; rfl⟩
  case round =>
    clear hc0
    obtain ⟨k, hk, rfl, rfl⟩ := hrel
    by_cases hlt : k + 1 < xs.length
    · obtain ⟨b, off, x, hA, hx, hb, hc⟩ := h.at_ hlt
      simp only [Option.some.injEq, Addr.mk.injEq, and_true] at hA
      obtain ⟨rfl, rfl⟩ := hA
      have hnext : mxK xs (k + 1) = if mxK xs k < x then x else mxK xs k := by rw [mxK, ← hx]
      have HN := Lib.hid hnext
      clear hx h hnext
      generalize mxK xs k = m0 at *
      rcases Int.lt_trichotomy m0 x with h3 | h3 | h3
      · go_wp2
        go_round
        case rel => exact ⟨k + 1, by omega, by go_num, by rw [HN.out]; first | rw [if_pos (by omega)] | rw [if_neg (by omega)]⟩
        case measure => simp [intOf]; omega
      · subst h3
        go_wp2
        go_round
        case rel => exact ⟨k + 1, by omega, by go_num, by rw [HN.out]; first | rw [if_pos (by omega)] | rw [if_neg (by omega)]⟩
        case measure => simp [intOf]; omega
      · go_wp2
        go_round
        case rel => exact ⟨k + 1, by omega, by go_num, by rw [HN.out]; first | rw [if_pos (by omega)] | rw [if_neg (by omega)]⟩
        case measure => simp [intOf]; omega
    · have hk' : k = xs.length - 1 := by omega
      subst hk'
      clear h
      go_wp2
      go_ret
      exact ⟨rfl, rfl⟩
theorem mxK_take {xs : List Int} {n : Nat} : ∀ k, k < n → mxK (xs.take n) k = mxK xs k
  | 0, h => by simp [mxK, List.getD_eq_getElem?_getD, h]
  | k + 1, h => by
    have e : (xs.take n).getD (k + 1) 0 = xs.getD (k + 1) 0 := by simp [List.getD_eq_getElem?_getD, h]
    rw [mxK, mxK, mxK_take k (by omega), e]
theorem maxI_mxK {xs : List Int} {k : Nat} {x : Int} (h : x = xs.getD (k + 1) 0) : maxI (mxK xs k) x = mxK xs (k + 1) := by
  subst h
  rw [mxK]; unfold maxI; split <;> split <;> omega
theorem RdI.pre {w : World} {B : Nat} {A : Option Addr} {xs : List Int} (h : RdI w B A xs) (n : Nat) : RdI w B A (xs.take n) := fun hp => by
  have hl : (xs.take n).length ≤ xs.length := by rw [List.length_take]; omega
  obtain ⟨b, off, hA, hb, hc⟩ := h (by omega)
  refine ⟨b, off, hA, hb, fun j hj => ?_⟩
  rw [hc j (by omega)]
  have : j < n := by rw [List.length_take] at hj; omega
  simp [List.getD_eq_getElem?_getD, this]
theorem slicesMaxP_c {B : Nat} (A : Option Addr) (c : Nat) (xs : List Int) (k : Nat) (w : World) (h : RdI w B A xs) (hk : k + 1 ≤ xs.length) (hm : xs.length ≤ 4611686018427387904) : Calls Try.prog 56 #[.slice A (k + 1) c] w fun e w' => e = .returned (.int .i64 (mxK xs k)) ∧ w = w' := by
  have hl : (xs.take (k + 1)).length = k + 1 := by rw [List.length_take]; omega
  have := slicesMax_c A c (xs.take (k + 1)) w (h.pre _) (by omega) (by omega)
  rw [hl, Nat.add_sub_cancel, mxK_take k (by omega)] at this
  exact this
theorem own_cap {w : World} {base n c : Nat} {A : Option Addr} {xs : List Int} (h : OwnI w base (.slice A n c) xs) : n ≤ c := by
  rcases h.2 with ⟨hv, h0⟩ | ⟨g, cap, cur, hv, hb, hg, hs, _⟩
  · simp only [Value.slice.injEq] at hv; omega
  · simp only [Value.slice.injEq] at hv; omega
def burP (xs : List Int) (r : Int) (k : Nat) : Bool := decide (0 < k) && decide (r ≤ xs.getD k 0 - mxK xs (k - 1))
def burF (xs : List Int) (r : Int) : Int × Bool := match (List.range xs.length).find? (burP xs r) with | some k => ((k : Int), true) | none => (0, false)
theorem burF_hit {xs : List Int} {r : Int} {k : Nat} (hk : k < xs.length) (hp : burP xs r k = true) (hno : ∀ j, j < k → burP xs r j = false) : burF xs r = ((k : Int), true) := by
  have e : (List.range xs.length).find? (burP xs r) = some k := by
    rw [List.find?_range_eq_some]
    exact ⟨hp, by simpa using hk, fun j hj => by simp [hno j hj]⟩
  unfold burF; rw [e]
theorem burF_none {xs : List Int} {r : Int} (hno : ∀ j, j < xs.length → burP xs r j = false) : burF xs r = (0, false) := by
  have e : (List.range xs.length).find? (burP xs r) = none := by
    rw [List.find?_range_eq_none]
    exact fun j hj => by simp [hno j hj]
  unfold burF; rw [e]
def burR (I H : Int) (xs : List Int) (r : Int) : Int × Bool := if goodA I H xs && inB r 1 1000000 then burF xs r else (0, false)
theorem burR_a {I H r : Int} {xs : List Int} (h : goodA I H xs = false) : burR I H xs r = (0, false) := by simp [burR, h]
theorem burR_r {I H r : Int} {xs : List Int} (h : inB r 1 1000000 = false) : burR I H xs r = (0, false) := by simp [burR, h]
theorem burR_yes {I H r : Int} {xs : List Int} (h1 : goodA I H xs = true) (h : inB r 1 1000000 = true) : burR I H xs r = burF xs r := by simp [burR, h, h1]
theorem implBurst_c {B : Nat} (I H r : Int) (A : Option Addr) (c : Nat) (xs : List Int) (w : World) (h : RdI w B A xs) (hBs : B ≤ w.heap.size) (hm : xs.length ≤ 4611686018427387904) (hcap : xs.length ≤ c) :
    Calls Try.prog 28 #[.agg #[.int .i64 I, .int .i64 H, .slice A xs.length c], .int .i64 r] w fun e w' => e = .returned (.tuple #[.int .i64 (burR I H xs r).1, .bool (burR I H xs r).2]) ∧ Below w.heap.size w w' := by
  cases h1 : goodA I H xs
  · rw [burR_a h1]
    go_enter Try.func28, Try.ntmps28
    go_wp2_with (go_at_call 19; refine (implArea_c _ _ _ _ _ _ (h.alloc hBs _) (by simp; omega) hm).mono ?_; rintro e w1 ⟨rfl, hb1⟩; have hz1 := hb1.size; (repeat (first | rw [World.size_alloc] at hz1 | rw [World.size_drew] at hz1 | rw [World.heap_drewN] at hz1 | rw [World.size_setCell] at hz1)); have hB : Below w.heap.size w w1 := Below.trans (by (repeat' (first | (with_reducible exact Below.refl _ _) | (with_reducible assumption) | (with_reducible refine below_drewN ?_ _) | (with_reducible refine Below.alloc ?_ ?_ _) | (with_reducible refine Below.drew ?_) | (with_reducible refine Below.setCell ?_ ?_ _) | go_size))) (hb1.mono (by go_size)); have hL1 := hb1; clear hb1; obtain ⟨hc1, hf1⟩ := bcell hL1)
    (go_returns; exact ⟨by first | rfl | (simp; done) | (simp; omega), by (repeat' (first | (with_reducible exact Below.refl _ _) | (with_reducible assumption) | (with_reducible refine below_drewN ?_ _) | (with_reducible refine Below.alloc ?_ ?_ _) | (with_reducible refine Below.drew ?_) | (with_reducible refine Below.setCell ?_ ?_ _) | go_size))⟩)
  have g := goodA_out h1
  cases h2 : inB r 1 1000000
  · rw [burR_r h2]
    go_enter Try.func28, Try.ntmps28
    go_wp2_with (first | (go_at_call 19; refine (implArea_c _ _ _ _ _ _ (h.alloc hBs _) (by simp; omega) hm).mono ?_; rintro e w1 ⟨rfl, hb1⟩; have hz1 := hb1.size; (repeat (first | rw [World.size_alloc] at hz1 | rw [World.size_drew] at hz1 | rw [World.heap_drewN] at hz1 | rw [World.size_setCell] at hz1)); have hB : Below w.heap.size w w1 := Below.trans (by (repeat' (first | (with_reducible exact Below.refl _ _) | (with_reducible assumption) | (with_reducible refine below_drewN ?_ _) | (with_reducible refine Below.alloc ?_ ?_ _) | (with_reducible refine Below.drew ?_) | (with_reducible refine Below.setCell ?_ ?_ _) | go_size))) (hb1.mono (by go_size)); have hL1 := hb1; clear hb1; obtain ⟨hc1, hf1⟩ := bcell hL1) | (go_at_call 42; refine (inside_c _ _ _ _).mono ?_; rintro e w' ⟨rfl, rfl⟩))
    (go_returns; exact ⟨by first | rfl | (simp; done) | (simp; omega), by (repeat' (first | (with_reducible exact Below.refl _ _) | (with_reducible assumption) | (with_reducible refine below_drewN ?_ _) | (with_reducible refine Below.alloc ?_ ?_ _) | (with_reducible refine Below.drew ?_) | (with_reducible refine Below.setCell ?_ ?_ _) | go_size))⟩)
  have hgf := goodF_out g.2.2.2.2.2.2
  have hr := inB_out h2
  rw [burR_yes h1 h2]
  go_enter Try.func28, Try.ntmps28
  go_wp2_with (first | (go_at_call 19; refine (implArea_c _ _ _ _ _ _ (h.alloc hBs _) (by simp; omega) hm).mono ?_; rintro e w1 ⟨rfl, hb1⟩; have hz1 := hb1.size; (repeat (first | rw [World.size_alloc] at hz1 | rw [World.size_drew] at hz1 | rw [World.heap_drewN] at hz1 | rw [World.size_setCell] at hz1)); have hB : Below w.heap.size w w1 := Below.trans (by (repeat' (first | (with_reducible exact Below.refl _ _) | (with_reducible assumption) | (with_reducible refine below_drewN ?_ _) | (with_reducible refine Below.alloc ?_ ?_ _) | (with_reducible refine Below.drew ?_) | (with_reducible refine Below.setCell ?_ ?_ _) | go_size))) (hb1.mono (by go_size)); have hL1 := hb1; clear hb1; obtain ⟨hc1, hf1⟩ := bcell hL1) | (go_at_call 42; refine (inside_c _ _ _ _).mono ?_; rintro e w' ⟨rfl, rfl⟩))
  have hw := h.below (hB.mono hBs)
  clear h
  go_loopw [6] (fun i wr => ∃ j : Nat, j + 1 ≤ xs.length ∧ i = .int .i64 ((j : Int) + 1) ∧ (∀ q, q < j + 1 → burP xs r q = false) ∧ ∃ n, wr = w1.drewN n) (fun i _ => xs.length + 1 - (intOf i).toNat)
  case atStart => exact ⟨0, by omega, rfl, fun q hq => by
    obtain rfl : q = 0 := by omega
    simp [burP], 0, rfl⟩
  case round =>
    obtain ⟨j, hk, rfl, hno, n, rfl⟩ := hrel
    by_cases hlt : j + 1 < xs.length
    · obtain ⟨b, off, x, rfl, hx, hb, hc⟩ := hw.at_ hlt
      have hl2 : (j : Int) + 1 ≤ (c : Int) := by omega
      have hl3 : j + 1 ≤ c := by omega
      have h00 : (0 : Int) ≤ (j : Int) + 1 := by omega
      have h01 : ¬ ((j : Int) + 1 < 0) := by omega
      have hl1 : (j : Int) + 1 < (xs.length : Int) := by omega
      have mb := mxK_b hgf j (by omega)
      have hA2 : w1.cell? ⟨w.heap.size, 2, none⟩ = some (.slice (some ⟨b, off, none⟩) xs.length c) := by rw [hc1 _ (by simp [go_sem])]; simp [go_sem]
      have gx := hgf (j + 1) hlt
      rw [← hx] at gx
      have wr1 : IntKind.i64.wrap (x - mxK xs j) = x - mxK xs j := IntWalk.i64_in _ (by omega)
      have hd : burP xs r (j + 1) = decide (r ≤ x - mxK xs j) := by rw [hx]; simp [burP]
      by_cases hq : r ≤ x - mxK xs j
      · have hres := burF_hit hlt (by rw [hd]; simp [hq]) (fun q hq => hno q hq)
        have HR := Lib.hid hres
        clear hres hd hno hx hgf
        go_wp2
        go_region_held3 (fun w' => w'.cell? ⟨w.heap.size, 2, none⟩ = some (.slice (some ⟨b, off, none⟩) xs.length c) ∧ w'.cell? ⟨b, off + (j + 1), none⟩ = some (.int .i64 x)) (simp [*]) (first | (go_at_call 56; refine (slicesMaxP_c _ _ xs j _ (by exact hw) (by omega) hm).mono ?_; rintro e w' ⟨rfl, rfl⟩))
        go_wp2
        go_returns
        exact ⟨by rw [HR.out]; rfl, by (repeat' (first | (with_reducible exact Below.refl _ _) | (with_reducible assumption) | (with_reducible refine below_drewN ?_ _) | (with_reducible refine Below.alloc ?_ ?_ _) | (with_reducible refine Below.drew ?_) | (with_reducible refine Below.setCell ?_ ?_ _) | go_size))⟩
      · have hno1 : ∀ q, q < j + 1 + 1 → burP xs r q = false := fun q hq' => by
          by_cases e : q = j + 1
          · subst e; rw [hd]; simp [hq]
          · exact hno q (by omega)
        have HN := Lib.hid hno1
        clear hno1 hd hno hx hgf
        go_wp2
        go_region_held3 (fun w' => w'.cell? ⟨w.heap.size, 2, none⟩ = some (.slice (some ⟨b, off, none⟩) xs.length c) ∧ w'.cell? ⟨b, off + (j + 1), none⟩ = some (.int .i64 x)) (simp [*]) (first | (go_at_call 56; refine (slicesMaxP_c _ _ xs j _ (by exact hw) (by omega) hm).mono ?_; rintro e w' ⟨rfl, rfl⟩))
        go_wp2
        go_roundw
        case rel => exact ⟨j + 1, by omega, by go_num, HN.out, n + 1, by first | rfl | exact World.drewN_drewN _ _ _⟩
        case measure => simp [intOf]; omega
    · have hres := burF_none (xs := xs) (r := r) (fun q hq => hno q (by omega))
      have hlj : (xs.length : Int) = j + 1 := by omega
      have HR := Lib.hid hres
      clear hres hno hgf
      go_wp2
      go_returns
      exact ⟨by rw [HR.out]; rfl, by (repeat' (first | (with_reducible exact Below.refl _ _) | (with_reducible assumption) | (with_reducible refine below_drewN ?_ _) | (with_reducible refine Below.alloc ?_ ?_ _) | (with_reducible refine Below.drew ?_) | (with_reducible refine Below.setCell ?_ ?_ _) | go_size))⟩
theorem specBurst_c {B : Nat} (I H r : Int) (A : Option Addr) (c : Nat) (xs : List Int) (w : World) (h : RdI w B A xs) (hBs : B ≤ w.heap.size) (hm : xs.length ≤ 4611686018427387904) :
    Calls Try.prog 27 #[.agg #[.int .i64 I, .int .i64 H, .slice A xs.length c], .int .i64 r] w fun e w' => e = .returned (.tuple #[.int .i64 (burR I H xs r).1, .bool (burR I H xs r).2]) ∧ Below w.heap.size w w' := by
  cases h1 : goodA I H xs
  · rw [burR_a h1]
    go_enter Try.func27, Try.ntmps27
    go_wp2_with (go_at_call 47; refine (l17Good_c _ _ _ _ _ _ (h.alloc hBs _) (by simp; omega) hm).mono ?_; rintro e w1 ⟨rfl, hb1⟩; have hz1 := hb1.size; (repeat (first | rw [World.size_alloc] at hz1 | rw [World.size_drew] at hz1 | rw [World.heap_drewN] at hz1 | rw [World.size_setCell] at hz1)); have hB : Below w.heap.size w w1 := Below.trans (by (repeat' (first | (with_reducible exact Below.refl _ _) | (with_reducible assumption) | (with_reducible refine below_drewN ?_ _) | (with_reducible refine Below.alloc ?_ ?_ _) | (with_reducible refine Below.drew ?_) | (with_reducible refine Below.setCell ?_ ?_ _) | go_size))) (hb1.mono (by go_size)); have hL1 := hb1; clear hb1; obtain ⟨hc1, hf1⟩ := bcell hL1)
    (go_returns; exact ⟨by first | rfl | (simp; done) | (simp; omega), by (repeat' (first | (with_reducible exact Below.refl _ _) | (with_reducible assumption) | (with_reducible refine below_drewN ?_ _) | (with_reducible refine Below.alloc ?_ ?_ _) | (with_reducible refine Below.drew ?_) | (with_reducible refine Below.setCell ?_ ?_ _) | go_size))⟩)
  have g := goodA_out h1
  cases h2 : inB r 1 1000000
  · rw [burR_r h2]
    go_enter Try.func27, Try.ntmps27
    go_wp2_with (first | (go_at_call 47; refine (l17Good_c _ _ _ _ _ _ (h.alloc hBs _) (by simp; omega) hm).mono ?_; rintro e w1 ⟨rfl, hb1⟩; have hz1 := hb1.size; (repeat (first | rw [World.size_alloc] at hz1 | rw [World.size_drew] at hz1 | rw [World.heap_drewN] at hz1 | rw [World.size_setCell] at hz1)); have hB : Below w.heap.size w w1 := Below.trans (by (repeat' (first | (with_reducible exact Below.refl _ _) | (with_reducible assumption) | (with_reducible refine below_drewN ?_ _) | (with_reducible refine Below.alloc ?_ ?_ _) | (with_reducible refine Below.drew ?_) | (with_reducible refine Below.setCell ?_ ?_ _) | go_size))) (hb1.mono (by go_size)); have hL1 := hb1; clear hb1; obtain ⟨hc1, hf1⟩ := bcell hL1) | (go_at_call 41; refine (l1In_c _ _ _ _).mono ?_; rintro e w' ⟨rfl, rfl⟩))
    (go_returns; exact ⟨by first | rfl | (simp; done) | (simp; omega), by (repeat' (first | (with_reducible exact Below.refl _ _) | (with_reducible assumption) | (with_reducible refine below_drewN ?_ _) | (with_reducible refine Below.alloc ?_ ?_ _) | (with_reducible refine Below.drew ?_) | (with_reducible refine Below.setCell ?_ ?_ _) | go_size))⟩)
  have hgf := goodF_out g.2.2.2.2.2.2
  have hr := inB_out h2
  rw [burR_yes h1 h2]
  obtain ⟨b0, off0, x0, rfl, hx0, hb0, hc0⟩ := h.at_ (k := 0) (by omega)
  rw [Nat.add_zero] at hc0
  have hc0' := (World.cell?_alloc_lt w (.cells #[.int .i64 I, .int .i64 H, .slice (some ⟨b0, off0, none⟩) xs.length c] 32) _ (show (⟨b0, off0, none⟩ : Addr).block < w.heap.size by show b0 < _; omega)).trans hc0
  have HX0 := Lib.hid hx0
  clear hx0
  go_enter Try.func27, Try.ntmps27
  go_wp2_with (first | (go_at_call 47; refine (l17Good_c _ _ _ _ _ _ (h.alloc hBs _) (by simp; omega) hm).mono ?_; rintro e w1 ⟨rfl, hb1⟩; have hz1 := hb1.size; (repeat (first | rw [World.size_alloc] at hz1 | rw [World.size_drew] at hz1 | rw [World.heap_drewN] at hz1 | rw [World.size_setCell] at hz1)); have hB : Below w.heap.size w w1 := Below.trans (by (repeat' (first | (with_reducible exact Below.refl _ _) | (with_reducible assumption) | (with_reducible refine below_drewN ?_ _) | (with_reducible refine Below.alloc ?_ ?_ _) | (with_reducible refine Below.drew ?_) | (with_reducible refine Below.setCell ?_ ?_ _) | go_size))) (hb1.mono (by go_size)); have hL1 := hb1; clear hb1; obtain ⟨hc1, hf1⟩ := bcell hL1) | (go_at_call 41; refine (l1In_c _ _ _ _).mono ?_; rintro e w' ⟨rfl, rfl⟩))
  have hw := h.below (hB.mono hBs)
  have HW := Lib.hid hw
  clear h hw hc0 hc0'
  go_loopw [6, 7] (fun m i wr => ∃ j : Nat, j + 1 ≤ xs.length ∧ i = .int .i64 ((j : Int) + 1) ∧ m = .int .i64 (mxK xs j) ∧ (∀ q, q < j + 1 → burP xs r q = false) ∧ ∃ n, wr = w1.drewN n) (fun _ i _ => xs.length + 1 - (intOf i).toNat)
  case atStart => exact ⟨0, by omega, rfl, by rw [HX0.out]; rfl, fun q hq => by
    obtain rfl : q = 0 := by omega
    simp [burP], 0, rfl⟩
  case round =>
    obtain ⟨j, hk, rfl, rfl, hno, n, rfl⟩ := hrel
    by_cases hlt : j + 1 < xs.length
    · obtain ⟨b, off, x, hA, hx, hb, hc⟩ := HW.out.at_ hlt
      simp only [Option.some.injEq, Addr.mk.injEq, and_true] at hA
      obtain ⟨rfl, rfl⟩ := hA
      have hl1 : (j : Int) + 1 < (xs.length : Int) := by omega
      have mb := mxK_b hgf j (by omega)
      have gx := hgf (j + 1) hlt
      rw [← hx] at gx
      have wr1 : IntKind.i64.wrap (mxK xs j + r) = mxK xs j + r := IntWalk.i64_in _ (by omega)
      have hd : burP xs r (j + 1) = decide (r ≤ x - mxK xs j) := by rw [hx]; simp [burP]
      have hmx := maxI_mxK hx
      have HM := Lib.hid hmx
      by_cases hq : mxK xs j + r ≤ x
      · have hres := burF_hit hlt (by rw [hd]; simp; omega) (fun q hq => hno q hq)
        have HR := Lib.hid hres
        clear hres hd hno hx hgf hmx
        go_wp2
        go_returns
        exact ⟨by rw [HR.out]; rfl, by (repeat' (first | (with_reducible exact Below.refl _ _) | (with_reducible assumption) | (with_reducible refine below_drewN ?_ _) | (with_reducible refine Below.alloc ?_ ?_ _) | (with_reducible refine Below.drew ?_) | (with_reducible refine Below.setCell ?_ ?_ _) | go_size))⟩
      · have hno1 : ∀ q, q < j + 1 + 1 → burP xs r q = false := fun q hq' => by
          by_cases e : q = j + 1
          · subst e; rw [hd]; simp; omega
          · exact hno q (by omega)
        have HN := Lib.hid hno1
        clear hno1 hd hno hx hgf hmx
        go_wp2_with (go_at_call 55; refine (l1Most_c _ _ _).mono ?_; rintro e w' ⟨rfl, rfl⟩)
        go_roundw
        case rel => exact ⟨j + 1, by omega, by go_num, by rw [HM.out], HN.out, _, by first | rfl | exact World.drewN_drewN _ _ _⟩
        case measure => simp [intOf]; omega
    · have hres := burF_none (xs := xs) (r := r) (fun q hq => hno q (by omega))
      have hlj : (xs.length : Int) = j + 1 := by omega
      have HR := Lib.hid hres
      clear hres hno hgf
      go_wp2
      go_returns
      exact ⟨by rw [HR.out]; rfl, by (repeat' (first | (with_reducible exact Below.refl _ _) | (with_reducible assumption) | (with_reducible refine below_drewN ?_ _) | (with_reducible refine Below.alloc ?_ ?_ _) | (with_reducible refine Below.drew ?_) | (with_reducible refine Below.setCell ?_ ?_ _) | go_size))⟩
end Go.Proofs.Ytdkhiedgikjnkaa
