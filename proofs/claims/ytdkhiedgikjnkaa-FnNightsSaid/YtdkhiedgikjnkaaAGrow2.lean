/- Growing nights: the reference's contract. -/
import Derived.Test.YtdkhiedgikjnkaaAGrow
import Derived.Test.YtdkhiedgikjnkaaAGrowL
namespace Go.Proofs.Ytdkhiedgikjnkaa
open Go.RowKit

theorem specGrow_c {B : Nat} (I H : Int) (A : Option Addr) (c : Nat) (xs : List Int) (w : World) (h : RdI w B A xs) (hBs : B ≤ w.heap.size) (hm : xs.length ≤ 4611686018427387904) :
    Calls Try.prog 25 #[.agg #[.int .i64 I, .int .i64 H, .slice A xs.length c]] w fun e w' => e = .returned (.tuple #[.int .i64 (growR I H xs).1, .int .i64 (growR I H xs).2.1, .bool (growR I H xs).2.2]) ∧ Below w.heap.size w w' := by
  cases h1 : goodA I H xs
  · rw [growR_no h1]
    go_enter Try.func25, Try.ntmps25
    go_wp2_with (go_at_call 47; refine (l17Good_c _ _ _ _ _ _ (h.alloc hBs _) (by simp; omega) hm).mono ?_; rintro e w1 ⟨rfl, hb1⟩; have hz1 := hb1.size; (repeat (first | rw [World.size_alloc] at hz1 | rw [World.size_drew] at hz1 | rw [World.heap_drewN] at hz1 | rw [World.size_setCell] at hz1)); have hB : Below w.heap.size w w1 := Below.trans (by (repeat' (first | (with_reducible exact Below.refl _ _) | (with_reducible assumption) | (with_reducible refine below_drewN ?_ _) | (with_reducible refine Below.alloc ?_ ?_ _) | (with_reducible refine Below.drew ?_) | (with_reducible refine Below.setCell ?_ ?_ _) | go_size))) (hb1.mono (by go_size)); have hL1 := hb1; clear hb1; obtain ⟨hc1, hf1⟩ := bcell hL1)
    (go_returns; exact ⟨by first | rfl | (simp; done) | (simp; omega), by (repeat' (first | (with_reducible exact Below.refl _ _) | (with_reducible assumption) | (with_reducible refine below_drewN ?_ _) | (with_reducible refine Below.alloc ?_ ?_ _) | (with_reducible refine Below.drew ?_) | (with_reducible refine Below.setCell ?_ ?_ _) | go_size))⟩)
  have g := goodA_out h1
  go_enter Try.func25, Try.ntmps25
  go_wp2_with (go_at_call 47; refine (l17Good_c _ _ _ _ _ _ (h.alloc hBs _) (by simp; omega) hm).mono ?_; rintro e w1 ⟨rfl, hb1⟩; have hz1 := hb1.size; (repeat (first | rw [World.size_alloc] at hz1 | rw [World.size_drew] at hz1 | rw [World.heap_drewN] at hz1 | rw [World.size_setCell] at hz1)); have hB : Below w.heap.size w w1 := Below.trans (by (repeat' (first | (with_reducible exact Below.refl _ _) | (with_reducible assumption) | (with_reducible refine below_drewN ?_ _) | (with_reducible refine Below.alloc ?_ ?_ _) | (with_reducible refine Below.drew ?_) | (with_reducible refine Below.setCell ?_ ?_ _) | go_size))) (hb1.mono (by go_size)); have hL1 := hb1; clear hb1; obtain ⟨hc1, hf1⟩ := bcell hL1)
  have hw := h.below (hB.mono hBs)
  clear h
  go_loopw [5, 6, 7, 8] (fun bb mm i _ wr => ∃ k b m : Nat, k ≤ xs.length ∧ i = .int .i64 k ∧ bb = .int .i64 b ∧ mm = .int .i64 m ∧ Lead xs k b m ∧ ∃ n, wr = w1.drewN n) (fun _ _ i _ _ => xs.length - (intOf i).toNat)
  case atStart => exact ⟨0, 0, 0, by omega, rfl, rfl, rfl, Lead.zero xs, 0, rfl⟩
  case round =>
    obtain ⟨k, b, m, hk, rfl, rfl, rfl, hlead, nd, rfl⟩ := hrel
    have hble := hlead.le
    by_cases hlt : k < xs.length
    · have hkl : (k : Int) < (xs.length : Int) := by omega
      go_wp2
      go_loopw [8] (fun nn wr => ∃ j : Nat, k + (j + 1) ≤ xs.length ∧ nn = .int .i64 ((j : Int) + 1) ∧ grows xs k (j + 1) ∧ ∃ n, wr = w1.drewN n) (fun nn _ => xs.length + 1 - (intOf nn).toNat)
      case atStart => exact ⟨0, by omega, rfl, grows_one xs k, _, rfl⟩
      case round =>
        obtain ⟨j, hj, rfl, hgr, n, rfl⟩ := hrel
        have wr1 : IntKind.i64.wrap ((k : Int) + ((j : Int) + 1)) = (k : Int) + ((j : Int) + 1) := IntWalk.i64_in _ (by omega)
        by_cases hin : k + (j + 1) < xs.length
        · obtain ⟨bb, off, x, rfl, hx, hbb, hc⟩ := hw.at_ hin
          obtain ⟨b2, off2, y, hA', hy, hb2, hc2⟩ := hw.at_ (k := k + j) (by omega)
          simp only [Option.some.injEq, Addr.mk.injEq, and_true] at hA'
          obtain ⟨rfl, rfl⟩ := hA'
          have wr2 : IntKind.i64.wrap ((k : Int) + ((j : Int) + 1) - 1) = (k : Int) + j := by rw [IntWalk.i64_in _ (by omega)]; omega
          have hi1 : (k : Int) + ((j : Int) + 1) < (xs.length : Int) := by omega
          have hi2 : (k : Int) + (j : Int) < (xs.length : Int) := by omega
          have hi3 : (0 : Int) ≤ (k : Int) + ((j : Int) + 1) := by omega
          have hi4 : (0 : Int) ≤ (k : Int) + (j : Int) := by omega
          by_cases hge : y ≤ x
          · have hg' : grows xs k (j + 1 + 1) := grows_next hgr (by rw [hx, hy] at hge; simpa using hge)
            have HG := Lib.hid hg'
            clear hg' hgr hx hy hlead
            go_wp2
            go_quiet (fail)
            go_wp2
            go_roundw
            case rel => exact ⟨j + 1, by omega, by go_num, HG.out, _, by first | rfl | exact World.drewN_drewN _ _ _⟩
            case measure => simp [intOf]; omega
          · have hwh : Whole xs k (j + 1) := ⟨by omega, hgr, by omega, .inr (by rw [hx, hy] at hge; simpa using hge)⟩
            clear hx hy
            by_cases hq : (m : Int) < (j : Int) + 1
            · have hl' := hlead.more hwh (by omega)
              have HL := Lib.hid hl'
              clear hl' hwh hlead hgr
              go_wp2
              go_quiet (fail)
              go_wp2
              go_roundw
              case rel => exact ⟨k + 1, k, j + 1, by omega, by go_num, rfl, by go_num, HL.out, _, by first | rfl | exact World.drewN_drewN _ _ _⟩
              case measure => simp [intOf]; omega
            · have hl' := hlead.keep hwh (by omega)
              have HL := Lib.hid hl'
              clear hl' hwh hlead hgr
              go_wp2
              go_quiet (fail)
              go_wp2
              go_roundw
              case rel => exact ⟨k + 1, b, m, by omega, by go_num, rfl, rfl, HL.out, _, by first | rfl | exact World.drewN_drewN _ _ _⟩
              case measure => simp [intOf]; omega
        · have hwh : Whole xs k (j + 1) := ⟨by omega, hgr, by omega, .inl (by omega)⟩
          have hi1 : ¬ ((k : Int) + ((j : Int) + 1) < (xs.length : Int)) := by omega
          have hi2 : decide ((k : Int) + ((j : Int) + 1) < (xs.length : Int)) = false := by simp; omega
          by_cases hq : (m : Int) < (j : Int) + 1
          · have hl' := hlead.more hwh (by omega)
            have HL := Lib.hid hl'
            clear hl' hwh hlead hgr
            go_wp2
            go_quiet (fail)
            go_wp2
            go_roundw
            case rel => exact ⟨k + 1, k, j + 1, by omega, by go_num, rfl, by go_num, HL.out, _, by first | rfl | exact World.drewN_drewN _ _ _⟩
            case measure => simp [intOf]; omega
          · have hl' := hlead.keep hwh (by omega)
            have HL := Lib.hid hl'
            clear hl' hwh hlead hgr
            go_wp2
            go_quiet (fail)
            go_wp2
            go_roundw
            case rel => exact ⟨k + 1, b, m, by omega, by go_num, rfl, rfl, HL.out, _, by first | rfl | exact World.drewN_drewN _ _ _⟩
            case measure => simp [intOf]; omega
    · obtain rfl : k = xs.length := by omega
      have hres := growR_yes h1 hlead.done
      have HR := Lib.hid hres
      clear hres hlead
      go_wp2
      go_returns
      exact ⟨by rw [HR.out]; rfl, by (repeat' (first | (with_reducible exact Below.refl _ _) | (with_reducible assumption) | (with_reducible refine below_drewN ?_ _) | (with_reducible refine Below.alloc ?_ ?_ _) | (with_reducible refine Below.drew ?_) | (with_reducible refine Below.setCell ?_ ?_ _) | go_size))⟩
end Go.Proofs.Ytdkhiedgikjnkaa
