/- Growing nights: contracts. -/
import Derived.Test.YtdkhiedgikjnkaaAArea
import Derived.Test.YtdkhiedgikjnkaaAGrowP
namespace Go.Proofs.Ytdkhiedgikjnkaa
open Go.RowKit

theorem implGrow_c {B : Nat} (I H : Int) (A : Option Addr) (c : Nat) (xs : List Int) (w : World) (h : RdI w B A xs) (hBs : B ≤ w.heap.size) (hm : xs.length ≤ 4611686018427387904) :
    Calls Try.prog 26 #[.agg #[.int .i64 I, .int .i64 H, .slice A xs.length c]] w fun e w' => e = .returned (.tuple #[.int .i64 (growR I H xs).1, .int .i64 (growR I H xs).2.1, .bool (growR I H xs).2.2]) ∧ Below w.heap.size w w' := by
  cases h1 : goodA I H xs
  · rw [growR_no h1]
    go_enter Try.func26, Try.ntmps26
    go_wp2_with (go_at_call 19; refine (implArea_c _ _ _ _ _ _ (h.alloc hBs _) (by simp; omega) hm).mono ?_; rintro e w1 ⟨rfl, hb1⟩; have hz1 := hb1.size; (repeat (first | rw [World.size_alloc] at hz1 | rw [World.size_drew] at hz1 | rw [World.heap_drewN] at hz1 | rw [World.size_setCell] at hz1)); have hB : Below w.heap.size w w1 := Below.trans (by (repeat' (first | (with_reducible exact Below.refl _ _) | (with_reducible assumption) | (with_reducible refine below_drewN ?_ _) | (with_reducible refine Below.alloc ?_ ?_ _) | (with_reducible refine Below.drew ?_) | (with_reducible refine Below.setCell ?_ ?_ _) | go_size))) (hb1.mono (by go_size)); have hL1 := hb1; clear hb1; obtain ⟨hc1, hf1⟩ := bcell hL1)
    (go_returns; exact ⟨by first | rfl | (simp; done) | (simp; omega), by (repeat' (first | (with_reducible exact Below.refl _ _) | (with_reducible assumption) | (with_reducible refine below_drewN ?_ _) | (with_reducible refine Below.alloc ?_ ?_ _) | (with_reducible refine Below.drew ?_) | (with_reducible refine Below.setCell ?_ ?_ _) | go_size))⟩)
  have g := goodA_out h1
  go_enter Try.func26, Try.ntmps26
  go_wp2_with (go_at_call 19; refine (implArea_c _ _ _ _ _ _ (h.alloc hBs _) (by simp; omega) hm).mono ?_; rintro e w1 ⟨rfl, hb1⟩; have hz1 := hb1.size; (repeat (first | rw [World.size_alloc] at hz1 | rw [World.size_drew] at hz1 | rw [World.heap_drewN] at hz1 | rw [World.size_setCell] at hz1)); have hB : Below w.heap.size w w1 := Below.trans (by (repeat' (first | (with_reducible exact Below.refl _ _) | (with_reducible assumption) | (with_reducible refine below_drewN ?_ _) | (with_reducible refine Below.alloc ?_ ?_ _) | (with_reducible refine Below.drew ?_) | (with_reducible refine Below.setCell ?_ ?_ _) | go_size))) (hb1.mono (by go_size)); have hL1 := hb1; clear hb1; obtain ⟨hc1, hf1⟩ := bcell hL1)
  have hw := h.below (hB.mono hBs)
  clear h
  go_loop [5, 6, 7, 8, 9, 16] (fun bb mm ff _ _ i => ∃ k f b m : Nat, k ≤ xs.length ∧ i = .int .i64 k ∧ bb = .int .i64 b ∧ mm = .int .i64 m ∧ ff = .int .i64 f ∧ Best xs k b m ∧ From xs k f ∧ (0 < k → f < k)) (fun _ _ _ _ _ i => xs.length - (intOf i).toNat)
  case atStart => exact ⟨0, 0, 0, 0, by omega, rfl, rfl, rfl, rfl, Best.zero xs, ⟨by omega, fun t h1 h2 => by omega, fun h => by omega⟩, fun h => by omega⟩
  case round =>
    obtain ⟨k, f, b, m, hk, rfl, rfl, rfl, rfl, hbest, hfrom, hf⟩ := hrel
    have hble := hbest.le
    by_cases hlt : k < xs.length
    · have hfle := hfrom.le
      cases k with
      | zero =>
        obtain ⟨bb, off, x, rfl, hx, hbb, hc⟩ := hw.at_ hlt
        rw [Nat.add_zero] at hc
        obtain rfl : f = 0 := by omega
        have hfr := From.one xs
        clear hx
        by_cases hq : (m : Int) < 0 - 0 + 1
        · have hb' := hbest.more hfr (by omega) (by omega)
          have HB := Lib.hid hb'
          have HF := Lib.hid hfr
          clear hb' hfr hbest hfrom hf
          go_wp2
          go_round
          case rel => exact ⟨0 + 1, 0, 0, 0 + 1 - 0, by omega, by go_num, by go_num, by go_num, by go_num, HB.out, HF.out, fun _ => by omega⟩
          case measure => simp [intOf]; omega
        · exfalso; omega
      | succ j =>
        obtain ⟨bb, off, x, rfl, hx, hbb, hc⟩ := hw.at_ hlt
        obtain ⟨b2, off2, y, hA', hy, hb2, hc2⟩ := hw.at_ (k := j) (by omega)
        simp only [Option.some.injEq, Addr.mk.injEq, and_true] at hA'
        obtain ⟨rfl, rfl⟩ := hA'
        by_cases hn : x < y
        · have hfr : From xs (j + 1 + 1) (j + 1) := From.new (by rw [hx, hy] at hn; simpa using hn)
          clear hx hy
          by_cases hq : (m : Int) < ((j : Int) + 1) - ((j : Int) + 1) + 1
          · have hb' := hbest.more hfr (by omega) (by omega)
            have HB := Lib.hid hb'
            have HF := Lib.hid hfr
            clear hb' hfr hbest hfrom hf
            go_wp2
            go_round
            case rel => exact ⟨j + 1 + 1, (j + 1), (j + 1), j + 1 + 1 - (j + 1), by omega, by go_num, by go_num, by go_num, by go_num, HB.out, HF.out, fun _ => by omega⟩
            case measure => simp [intOf]; omega
          · have hb' := hbest.keep hfr (by omega) (by omega)
            have HB := Lib.hid hb'
            have HF := Lib.hid hfr
            clear hb' hfr hbest hfrom hf
            go_wp2
            go_round
            case rel => exact ⟨j + 1 + 1, (j + 1), b, m, by omega, by go_num, rfl, rfl, by go_num, HB.out, HF.out, fun _ => by omega⟩
            case measure => simp [intOf]; omega
        · have hfj := hf (by omega)
          have hfr : From xs (j + 1 + 1) f := hfrom.next hfj (by rw [hx, hy] at hn; simpa using hn)
          have wr1 : IntKind.i64.wrap ((j : Int) + 1 - (f : Int)) = (j : Int) + 1 - f := IntWalk.i64_in _ (by omega)
          have wr2 : IntKind.i64.wrap ((j : Int) + 1 - (f : Int) + 1) = (j : Int) + 1 - f + 1 := IntWalk.i64_in _ (by omega)
          clear hx hy
          by_cases hq : (m : Int) < ((j : Int) + 1) - (f : Int) + 1
          · have hb' := hbest.more hfr (by omega) (by omega)
            have HB := Lib.hid hb'
            have HF := Lib.hid hfr
            clear hb' hfr hbest hfrom hf
            go_wp2
            go_round
            case rel => exact ⟨j + 1 + 1, f, f, j + 1 + 1 - f, by omega, by go_num, by go_num, by go_num, by go_num, HB.out, HF.out, fun _ => by omega⟩
            case measure => simp [intOf]; omega
          · have hb' := hbest.keep hfr (by omega) (by omega)
            have HB := Lib.hid hb'
            have HF := Lib.hid hfr
            clear hb' hfr hbest hfrom hf
            go_wp2
            go_round
            case rel => exact ⟨j + 1 + 1, f, b, m, by omega, by go_num, rfl, rfl, by go_num, HB.out, HF.out, fun _ => by omega⟩
            case measure => simp [intOf]; omega
    · obtain rfl : k = xs.length := by omega
      have hres := growR_yes h1 hbest
      have HR := Lib.hid hres
      clear hres hbest hfrom hf
      go_wp2
      go_returns
      exact ⟨by rw [HR.out]; rfl, by (repeat' (first | (with_reducible exact Below.refl _ _) | (with_reducible assumption) | (with_reducible refine below_drewN ?_ _) | (with_reducible refine Below.alloc ?_ ?_ _) | (with_reducible refine Below.drew ?_) | (with_reducible refine Below.setCell ?_ ?_ _) | go_size))⟩
end Go.Proofs.Ytdkhiedgikjnkaa
