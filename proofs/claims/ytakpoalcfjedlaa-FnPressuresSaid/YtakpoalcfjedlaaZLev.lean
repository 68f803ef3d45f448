/- SuitingLevels: contracts. -/
import Derived.Test.YtakpoalcfjedlaaZRule
namespace Go.Proofs.Ytakpoalcfjedlaa
open Go.RowKit

theorem quiet_add_same {P : Program} {f : FuncId} {args : Array Value} {w : World} {a n : Nat} {v : Value}
    (h : Calls P f args (w.drewN (a + n)) fun e w' => e = .returned v ∧ w' = w.drewN (a + n)) :
    Calls P f args (w.drewN (a + n)) fun e w'' => e = .returned v ∧ ∃ m, w'' = w.drewN (a + m) :=
  h.mono fun _ _ ⟨he, hm⟩ => ⟨he, n, hm⟩

set_option maxHeartbeats 400000 in
theorem slicesMax_c {B : Nat} (A : Option Addr) (c : Nat) (xs : List Int) (w : World) (h : RdI w B A xs) (hp : 0 < xs.length) (hm : xs.length ≤ 4611686018427387904) : Calls Try.prog 54 #[.slice A xs.length c] w fun e w' => e = .returned (.int .i64 (mxK xs (xs.length - 1))) ∧ w = w' := by
  obtain ⟨b0, off0, x0, rfl, hx0, hb0, hc0⟩ := h.at_ hp
  rw [Nat.add_zero] at hc0
  have HX0 := Lib.hid hx0
  clear hx0
  have hpi : 1 ≤ (xs.length : Int) := by omega
  go_enter Try.func54, Try.ntmps54
  go_wp2
  go_loop [3, 4] (fun m i => ∃ k : Nat, k + 1 ≤ xs.length ∧ i = .int .i64 (k + 1 : Nat) ∧ m = .int .i64 (mxK xs k)) (fun _ i => xs.length - (intOf i).toNat)
  case atStart => exact ⟨0, by omega, rfl, by rw [HX0.out]; rfl⟩
  case round =>
    clear hc0
    obtain ⟨k, hk, rfl, rfl⟩ := hrel
    by_cases hlt : k + 1 < xs.length
    · obtain ⟨b, off, x, hA, hx, hb, hc⟩ := h.at_ hlt
      simp only [Option.some.injEq, Addr.mk.injEq, and_true] at hA
      obtain ⟨rfl, rfl⟩ := hA
      have hnext : mxK xs (k + 1) = if mxK xs k < x then x else mxK xs k := by rw [mxK, ← hx]
      have HN := Lib.hid hnext
      clear hx h hnext
      generalize mxK xs k = m0 at *
      rcases Int.lt_trichotomy m0 x with h3 | h3 | h3
      · go_wp2
        go_round
        case rel => exact ⟨k + 1, by omega, by go_num, by rw [HN.out]; first | rw [if_pos (by omega)] | rw [if_neg (by omega)]⟩
        case measure => simp [intOf]; omega
      · subst h3
        go_wp2
        go_round
        case rel => exact ⟨k + 1, by omega, by go_num, by rw [HN.out]; first | rw [if_pos (by omega)] | rw [if_neg (by omega)]⟩
        case measure => simp [intOf]; omega
      · go_wp2
        go_round
        case rel => exact ⟨k + 1, by omega, by go_num, by rw [HN.out]; first | rw [if_pos (by omega)] | rw [if_neg (by omega)]⟩
        case measure => simp [intOf]; omega
    · have hk' : k = xs.length - 1 := by omega
      subst hk'
      clear h
      go_wp2
      go_ret
      exact ⟨rfl, rfl⟩
set_option maxHeartbeats 400000 in
theorem slicesMin_c {B : Nat} (A : Option Addr) (c : Nat) (xs : List Int) (w : World) (h : RdI w B A xs) (hp : 0 < xs.length) (hm : xs.length ≤ 4611686018427387904) : Calls Try.prog 55 #[.slice A xs.length c] w fun e w' => e = .returned (.int .i64 (mnK xs (xs.length - 1))) ∧ w = w' := by
  obtain ⟨b0, off0, x0, rfl, hx0, hb0, hc0⟩ := h.at_ hp
  rw [Nat.add_zero] at hc0
  have HX0 := Lib.hid hx0
  clear hx0
  have hpi : 1 ≤ (xs.length : Int) := by omega
  go_enter Try.func55, Try.ntmps55
  go_wp2
  go_loop [3, 4] (fun m i => ∃ k : Nat, k + 1 ≤ xs.length ∧ i = .int .i64 (k + 1 : Nat) ∧ m = .int .i64 (mnK xs k)) (fun _ i => xs.length - (intOf i).toNat)
  case atStart => exact ⟨0, by omega, rfl, by rw [HX0.out]; rfl⟩
  case round =>
    clear hc0
    obtain ⟨k, hk, rfl, rfl⟩ := hrel
    by_cases hlt : k + 1 < xs.length
    · obtain ⟨b, off, x, hA, hx, hb, hc⟩ := h.at_ hlt
      simp only [Option.some.injEq, Addr.mk.injEq, and_true] at hA
      obtain ⟨rfl, rfl⟩ := hA
      have hnext : mnK xs (k + 1) = if x < mnK xs k then x else mnK xs k := by rw [mnK, ← hx]
      have HN := Lib.hid hnext
      clear hx h hnext
      generalize mnK xs k = m0 at *
      rcases Int.lt_trichotomy m0 x with h3 | h3 | h3
      · go_wp2
        go_round
        case rel => exact ⟨k + 1, by omega, by go_num, by rw [HN.out]; first | rw [if_pos (by omega)] | rw [if_neg (by omega)]⟩
        case measure => simp [intOf]; omega
      · subst h3
        go_wp2
        go_round
        case rel => exact ⟨k + 1, by omega, by go_num, by rw [HN.out]; first | rw [if_pos (by omega)] | rw [if_neg (by omega)]⟩
        case measure => simp [intOf]; omega
      · go_wp2
        go_round
        case rel => exact ⟨k + 1, by omega, by go_num, by rw [HN.out]; first | rw [if_pos (by omega)] | rw [if_neg (by omega)]⟩
        case measure => simp [intOf]; omega
    · have hk' : k = xs.length - 1 := by omega
      subst hk'
      clear h
      go_wp2
      go_ret
      exact ⟨rfl, rfl⟩

set_option maxHeartbeats 1000000 in
theorem implLev_c (A : Option Addr) (c : Nat) (xs : List Int) (L M : Int) (w : World) (h : RdI w w.heap.size A xs) (hm0 : xs.length ≤ 1048576) :
    Calls Try.prog 26 #[.slice A xs.length c, .agg #[.int .i64 L, .int .i64 M]] w fun e w' => e = .returned (.tuple #[.int .i64 (levL xs L M).1, .int .i64 (levL xs L M).2.1, .bool (levL xs L M).2.2]) ∧ Below w.heap.size w w' := by
  have hm : xs.length ≤ 4611686018427387904 := by omega
  cases h1 : goodZ xs L M
  · rw [levL_no (.inl h1)]
    go_enter Try.func26, Try.ntmps26
    go_wp2_with (go_at_call 50; refine (canZone_c _ _ _ _ _ _ (h.alloc (Nat.le_refl _) _) (by simp) hm).mono ?_; rintro e w1 ⟨rfl, hb1⟩; have hz1 := hb1.size; (repeat (first | rw [World.size_alloc] at hz1 | rw [World.size_drew] at hz1 | rw [World.heap_drewN] at hz1 | rw [World.size_setCell] at hz1)); have hB : Below w.heap.size w w1 := Below.trans (by (repeat' (first | (with_reducible exact Below.refl _ _) | (with_reducible assumption) | (with_reducible refine below_drewN ?_ _) | (with_reducible refine Below.alloc ?_ ?_ _) | (with_reducible refine Below.drew ?_) | (with_reducible refine Below.setCell ?_ ?_ _) | go_size))) (hb1.mono (by go_size)); have hL1 := hb1; clear hb1; obtain ⟨hc1, hf1⟩ := bcell hL1)
    (go_returns; exact ⟨by first | rfl | (simp; done) | (simp; omega), by (repeat' (first | (with_reducible exact Below.refl _ _) | (with_reducible assumption) | (with_reducible refine below_drewN ?_ _) | (with_reducible refine Below.alloc ?_ ?_ _) | (with_reducible refine Below.drew ?_) | (with_reducible refine Below.setCell ?_ ?_ _) | go_size))⟩)
  by_cases h2 : xs.length = 0
  · rw [levL_no (.inr h2)]
    have hl : ((xs.length : Int) == 0) = true := by simp [h2]
    have HL := Lib.hid h2
    clear h2
    go_enter Try.func26, Try.ntmps26
    go_wp2_with (go_at_call 50; refine (canZone_c _ _ _ _ _ _ (h.alloc (Nat.le_refl _) _) (by simp) hm).mono ?_; rintro e w1 ⟨rfl, hb1⟩; have hz1 := hb1.size; (repeat (first | rw [World.size_alloc] at hz1 | rw [World.size_drew] at hz1 | rw [World.heap_drewN] at hz1 | rw [World.size_setCell] at hz1)); have hB : Below w.heap.size w w1 := Below.trans (by (repeat' (first | (with_reducible exact Below.refl _ _) | (with_reducible assumption) | (with_reducible refine below_drewN ?_ _) | (with_reducible refine Below.alloc ?_ ?_ _) | (with_reducible refine Below.drew ?_) | (with_reducible refine Below.setCell ?_ ?_ _) | go_size))) (hb1.mono (by go_size)); have hL1 := hb1; clear hb1; obtain ⟨hc1, hf1⟩ := bcell hL1)
    (go_returns; exact ⟨by first | rfl | (simp; done) | (simp; omega), by (repeat' (first | (with_reducible exact Below.refl _ _) | (with_reducible assumption) | (with_reducible refine below_drewN ?_ _) | (with_reducible refine Below.alloc ?_ ?_ _) | (with_reducible refine Below.drew ?_) | (with_reducible refine Below.setCell ?_ ?_ _) | go_size))⟩)
  have g0 : goodL xs = true := by unfold goodZ at h1; simp at h1; exact h1.1
  have gr : goodR L M = true := by unfold goodZ at h1; simp at h1; exact h1.2
  obtain ⟨g1, g2⟩ := goodL_out g0
  obtain ⟨r1, r2, r3⟩ := goodR_out gr
  have m1 := mxK_b g2 (xs.length - 1) (by omega)
  have m2 := mnK_b g2 (xs.length - 1) (by omega)
  have hl : ((xs.length : Int) == 0) = false := by simp only [beq_eq_false_iff_ne]; omega
  have hp : 0 < xs.length := by omega
  have hres : levL xs L M = if mnK xs (xs.length - 1) + M < mxK xs (xs.length - 1) + L then (0, 0, false) else (mxK xs (xs.length - 1) + L, mnK xs (xs.length - 1) + M, true) := by
    split
    · rename_i h3; exact levL_out h1 h2 h3
    · rename_i h3; exact levL_yes h1 h2 h3
  clear g0 gr g1 g2
  rw [hres]
  clear hres
  have e1 : IntKind.i64.wrap (mxK xs (xs.length - 1) + L) = mxK xs (xs.length - 1) + L := IntWalk.i64_in _ (by omega)
  have e2 : IntKind.i64.wrap (mnK xs (xs.length - 1) + M) = mnK xs (xs.length - 1) + M := IntWalk.i64_in _ (by omega)
  by_cases h3 : mnK xs (xs.length - 1) + M < mxK xs (xs.length - 1) + L
  · rw [if_pos h3]
    go_enter Try.func26, Try.ntmps26
    go_wp2_with (go_at_call 50; refine (canZone_c _ _ _ _ _ _ (h.alloc (Nat.le_refl _) _) (by simp) hm).mono ?_; rintro e w1 ⟨rfl, hb1⟩; have hz1 := hb1.size; (repeat (first | rw [World.size_alloc] at hz1 | rw [World.size_drew] at hz1 | rw [World.heap_drewN] at hz1 | rw [World.size_setCell] at hz1)); have hB : Below w.heap.size w w1 := Below.trans (by (repeat' (first | (with_reducible exact Below.refl _ _) | (with_reducible assumption) | (with_reducible refine below_drewN ?_ _) | (with_reducible refine Below.alloc ?_ ?_ _) | (with_reducible refine Below.drew ?_) | (with_reducible refine Below.setCell ?_ ?_ _) | go_size))) (hb1.mono (by go_size)); have hL1 := hb1; clear hb1; obtain ⟨hc1, hf1⟩ := bcell hL1)
    have hr := h.below hB
    go_quiet ((first | (go_at_call 54; exact Calls.quiet_of_same ((slicesMax_c _ _ _ _ (hr.drewN _) hp hm).mono fun _ _ hh => ⟨hh.1, hh.2.symm⟩)) | (go_at_call 55; exact Calls.quiet_of_same ((slicesMin_c _ _ _ _ (hr.drewN _) hp hm).mono fun _ _ hh => ⟨hh.1, hh.2.symm⟩))))
    go_wp2
    (go_returns; exact ⟨by first | rfl | (simp; done) | (simp; omega), by (repeat' (first | (with_reducible exact Below.refl _ _) | (with_reducible assumption) | (with_reducible refine below_drewN ?_ _) | (with_reducible refine Below.alloc ?_ ?_ _) | (with_reducible refine Below.drew ?_) | (with_reducible refine Below.setCell ?_ ?_ _) | go_size))⟩)
  · rw [if_neg h3]
    go_enter Try.func26, Try.ntmps26
    go_wp2_with (go_at_call 50; refine (canZone_c _ _ _ _ _ _ (h.alloc (Nat.le_refl _) _) (by simp) hm).mono ?_; rintro e w1 ⟨rfl, hb1⟩; have hz1 := hb1.size; (repeat (first | rw [World.size_alloc] at hz1 | rw [World.size_drew] at hz1 | rw [World.heap_drewN] at hz1 | rw [World.size_setCell] at hz1)); have hB : Below w.heap.size w w1 := Below.trans (by (repeat' (first | (with_reducible exact Below.refl _ _) | (with_reducible assumption) | (with_reducible refine below_drewN ?_ _) | (with_reducible refine Below.alloc ?_ ?_ _) | (with_reducible refine Below.drew ?_) | (with_reducible refine Below.setCell ?_ ?_ _) | go_size))) (hb1.mono (by go_size)); have hL1 := hb1; clear hb1; obtain ⟨hc1, hf1⟩ := bcell hL1)
    have hr := h.below hB
    go_quiet ((first | (go_at_call 54; exact Calls.quiet_of_same ((slicesMax_c _ _ _ _ (hr.drewN _) hp hm).mono fun _ _ hh => ⟨hh.1, hh.2.symm⟩)) | (go_at_call 55; exact Calls.quiet_of_same ((slicesMin_c _ _ _ _ (hr.drewN _) hp hm).mono fun _ _ hh => ⟨hh.1, hh.2.symm⟩))))
    go_wp2
    (go_returns; exact ⟨by first | rfl | (simp; done) | (simp; omega), by (repeat' (first | (with_reducible exact Below.refl _ _) | (with_reducible assumption) | (with_reducible refine below_drewN ?_ _) | (with_reducible refine Below.alloc ?_ ?_ _) | (with_reducible refine Below.drew ?_) | (with_reducible refine Below.setCell ?_ ?_ _) | go_size))⟩)

set_option maxHeartbeats 1000000 in
theorem specLev_c (A : Option Addr) (c : Nat) (xs : List Int) (L M : Int) (w : World) (h : RdI w w.heap.size A xs) (hm0 : xs.length ≤ 1048576) :
    Calls Try.prog 25 #[.slice A xs.length c, .agg #[.int .i64 L, .int .i64 M]] w fun e w' => e = .returned (.tuple #[.int .i64 (levL xs L M).1, .int .i64 (levL xs L M).2.1, .bool (levL xs L M).2.2]) ∧ Below w.heap.size w w' := by
  have hm : xs.length ≤ 4611686018427387904 := by omega
  cases h1 : goodZ xs L M
  · rw [levL_no (.inl h1)]
    go_enter Try.func25, Try.ntmps25
    go_wp2_with (go_at_call 48; refine (l12Asked_c _ _ _ _ _ _ (h.alloc (Nat.le_refl _) _) (by simp) hm).mono ?_; rintro e w1 ⟨rfl, hb1⟩; have hz1 := hb1.size; (repeat (first | rw [World.size_alloc] at hz1 | rw [World.size_drew] at hz1 | rw [World.heap_drewN] at hz1 | rw [World.size_setCell] at hz1)); have hB : Below w.heap.size w w1 := Below.trans (by (repeat' (first | (with_reducible exact Below.refl _ _) | (with_reducible assumption) | (with_reducible refine below_drewN ?_ _) | (with_reducible refine Below.alloc ?_ ?_ _) | (with_reducible refine Below.drew ?_) | (with_reducible refine Below.setCell ?_ ?_ _) | go_size))) (hb1.mono (by go_size)); have hL1 := hb1; clear hb1; obtain ⟨hc1, hf1⟩ := bcell hL1)
    (go_returns; exact ⟨by first | rfl | (simp; done) | (simp; omega), by (repeat' (first | (with_reducible exact Below.refl _ _) | (with_reducible assumption) | (with_reducible refine below_drewN ?_ _) | (with_reducible refine Below.alloc ?_ ?_ _) | (with_reducible refine Below.drew ?_) | (with_reducible refine Below.setCell ?_ ?_ _) | go_size))⟩)
  by_cases h2 : xs.length = 0
  · rw [levL_no (.inr h2)]
    have hl : ((xs.length : Int) == 0) = true := by simp [h2]
    have HL := Lib.hid h2
    clear h2
    go_enter Try.func25, Try.ntmps25
    go_wp2_with (go_at_call 48; refine (l12Asked_c _ _ _ _ _ _ (h.alloc (Nat.le_refl _) _) (by simp) hm).mono ?_; rintro e w1 ⟨rfl, hb1⟩; have hz1 := hb1.size; (repeat (first | rw [World.size_alloc] at hz1 | rw [World.size_drew] at hz1 | rw [World.heap_drewN] at hz1 | rw [World.size_setCell] at hz1)); have hB : Below w.heap.size w w1 := Below.trans (by (repeat' (first | (with_reducible exact Below.refl _ _) | (with_reducible assumption) | (with_reducible refine below_drewN ?_ _) | (with_reducible refine Below.alloc ?_ ?_ _) | (with_reducible refine Below.drew ?_) | (with_reducible refine Below.setCell ?_ ?_ _) | go_size))) (hb1.mono (by go_size)); have hL1 := hb1; clear hb1; obtain ⟨hc1, hf1⟩ := bcell hL1)
    (go_returns; exact ⟨by first | rfl | (simp; done) | (simp; omega), by (repeat' (first | (with_reducible exact Below.refl _ _) | (with_reducible assumption) | (with_reducible refine below_drewN ?_ _) | (with_reducible refine Below.alloc ?_ ?_ _) | (with_reducible refine Below.drew ?_) | (with_reducible refine Below.setCell ?_ ?_ _) | go_size))⟩)
  have g0 : goodL xs = true := by unfold goodZ at h1; simp at h1; exact h1.1
  have gr : goodR L M = true := by unfold goodZ at h1; simp at h1; exact h1.2
  obtain ⟨g1, g2⟩ := goodL_out g0
  obtain ⟨r1, r2, r3⟩ := goodR_out gr
  have hl : ((xs.length : Int) == 0) = false := by simp only [beq_eq_false_iff_ne]; omega
  have q1 := lowK_eq (L := L) (by omega) g2 (xs.length - 1) (by omega)
  have q2 := highK_eq (M := M) (by omega) g2 (xs.length - 1) (by omega)
  rw [show xs.length - 1 + 1 = xs.length by omega] at q1 q2
  have hres : levL xs L M = if highK xs M xs.length < lowK xs L xs.length then (0, 0, false) else (lowK xs L xs.length, highK xs M xs.length, true) := by
    rw [q1, q2]
    split
    · rename_i h3; exact levL_out h1 h2 h3
    · rename_i h3; exact levL_yes h1 h2 h3
  have lb := fun k hk => lowK_b (L := L) (by omega) (by omega) g2 k hk
  have hb := fun k hk => highK_b (M := M) (by omega) (by omega) g2 k hk
  clear g0 gr h2 q1 q2
  rw [hres]
  clear hres
  generalize hR : (if highK xs M xs.length < lowK xs L xs.length then ((0, 0, false) : Int × Int × Bool) else (lowK xs L xs.length, highK xs M xs.length, true)) = R
  have HR := Lib.hid hR
  clear hR
  have LB := Lib.hid lb
  have HB := Lib.hid hb
  have G2 := Lib.hid g2
  clear lb hb g2
  go_enter Try.func25, Try.ntmps25
  go_wp2_with (go_at_call 48; refine (l12Asked_c _ _ _ _ _ _ (h.alloc (Nat.le_refl _) _) (by simp) hm).mono ?_; rintro e w1 ⟨rfl, hb1⟩; have hz1 := hb1.size; (repeat (first | rw [World.size_alloc] at hz1 | rw [World.size_drew] at hz1 | rw [World.heap_drewN] at hz1 | rw [World.size_setCell] at hz1)); have hB : Below w.heap.size w w1 := Below.trans (by (repeat' (first | (with_reducible exact Below.refl _ _) | (with_reducible assumption) | (with_reducible refine below_drewN ?_ _) | (with_reducible refine Below.alloc ?_ ?_ _) | (with_reducible refine Below.drew ?_) | (with_reducible refine Below.setCell ?_ ?_ _) | go_size))) (hb1.mono (by go_size)); have hL1 := hb1; clear hb1; obtain ⟨hc1, hf1⟩ := bcell hL1)
  go_loopw [7, 8, 9] (fun lo hi i wr => ∃ k : Nat, k ≤ xs.length ∧ i = .int .i64 k ∧ lo = .int .i64 (lowK xs L k) ∧ hi = .int .i64 (highK xs M k) ∧ Below w.heap.size w wr ∧ w.heap.size < wr.heap.size ∧ wr.cell? ⟨w.heap.size, 0, none⟩ = some (.int .i64 L) ∧ wr.cell? ⟨w.heap.size, 1, none⟩ = some (.int .i64 M)) (fun _ _ i _ => xs.length - (intOf i).toNat)
  case atStart => exact ⟨0, by omega, rfl, rfl, rfl, by (repeat' (first | (with_reducible exact Below.refl _ _) | (with_reducible assumption) | (with_reducible refine below_drewN ?_ _) | (with_reducible refine Below.alloc ?_ ?_ _) | (with_reducible refine Below.drew ?_) | (with_reducible refine Below.setCell ?_ ?_ _) | go_size)), by first | omega | (simp; omega), by simp [*, go_sem], by simp [*, go_sem]⟩
  case round =>
    clear hB hL1 hc1 hf1 hz1 h1
    obtain ⟨k, hk, rfl, rfl, rfl, hBr, hsz, c0, c1⟩ := hrel
    have lb := LB.out k hk
    have hb := HB.out k hk
    by_cases hlt : k < xs.length
    · obtain ⟨b, off, x, rfl, hx, hbb, hc0⟩ := h.at_ hlt
      have hc := (hBr.cell (p := ⟨b, off + k, none⟩) hbb).trans hc0
      have hxb := G2.out k hlt
      rw [← hx] at hxb
      obtain ⟨x1, x2⟩ := hxb
      have e1 : lowK xs L (k + 1) = maxI (lowK xs L k) (x + L) := by rw [lowK, ← hx]
      have e2 : highK xs M (k + 1) = minI (highK xs M k) (x + M) := by rw [highK, ← hx]
      have E1 := Lib.hid e1
      have E2 := Lib.hid e2
      have w1 : IntKind.i64.wrap (x + L) = x + L := IntWalk.i64_in _ (by omega)
      have w2 : IntKind.i64.wrap (x + M) = x + M := IntWalk.i64_in _ (by omega)
      clear hx hc0 h e1 e2
      generalize lowK xs L k = lo at *
      generalize highK xs M k = hi at *
      have hli : (k : Int) < (xs.length : Int) := by omega
      go_wp2
      go_quiet ((go_at_call 52; exact Calls.quiet_of_same ((l1Most_c _ _ _).mono fun _ _ hh => ⟨hh.1, hh.2.symm⟩)))
      go_wp2
      go_quiet ((go_at_call 53; exact quiet_add_same ((l1Least_c _ _ _).mono fun _ _ hh => ⟨hh.1, hh.2.symm⟩)))
      go_wp2
      go_roundw
      case rel => exact ⟨k + 1, by omega, by go_num, by rw [E1.out], by rw [E2.out], by (repeat' (first | (with_reducible exact Below.refl _ _) | (with_reducible assumption) | (with_reducible refine below_drewN ?_ _) | (with_reducible refine Below.alloc ?_ ?_ _) | (with_reducible refine Below.drew ?_) | (with_reducible refine Below.setCell ?_ ?_ _) | go_size)), hsz, by simp [*, go_sem], by simp [*, go_sem]⟩
      case measure => simp [intOf]; omega
    · have hk' : k = xs.length := by omega
      subst hk'
      clear h
      have HR' := HR.out
      by_cases h3 : highK xs M xs.length < lowK xs L xs.length
      · rw [if_pos h3] at HR'
        have HR2 := Lib.hid HR'
        clear HR'
        go_wp2
        go_returns
        exact ⟨by rw [← HR2.out]; rfl, hBr⟩
      · rw [if_neg h3] at HR'
        have HR2 := Lib.hid HR'
        clear HR'
        go_wp2
        go_returns
        exact ⟨by rw [← HR2.out]; rfl, hBr⟩
end Go.Proofs.Ytakpoalcfjedlaa
