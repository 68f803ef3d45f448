/- The flow lost until repaired: contracts. -/
import Derived.Test.YtdkhiedgikjnkaaALost
namespace Go.Proofs.Ytdkhiedgikjnkaa
open Go.RowKit

set_option maxHeartbeats 2000000 in
theorem implLost_c {B B' B2 : Nat} (A A' A2 : Option Addr) (c c' c2 : Nat) (ls hs os : List Int) (w : World) (h : RdI w B A ls) (h' : RdI w B' A' hs) (K2 : RdI w B2 A2 os) (hm : ls.length ≤ 4611686018427387904) (hm2 : os.length ≤ 4611686018427387904) (hcap : os.length ≤ c2) :
    Calls Try.prog 22 #[.slice A ls.length c, .slice A' hs.length c', .slice A2 os.length c2] w fun e w' => e = .returned (.tuple #[.int .i64 (luR ls hs os).1, .bool (luR ls hs os).2]) ∧ w = w' := by
  cases g1 : repG ls hs
  · rw [luR_rep g1]
    go_enter Try.func22, Try.ntmps22
    go_wp2_with (first | (go_at_call 51; refine (areRepairs_c _ _ _ _ ls hs _ h h' hm).mono ?_; rintro e w' ⟨rfl, rfl⟩))
    go_returns
    exact ⟨rfl, rfl⟩
  obtain ⟨n10, ehs, gb⟩ := repG_out g1
  have EHS := Lib.hid ehs
  clear ehs
  by_cases g2 : os.length = ls.length
  case neg =>
    rw [luR_neq g2]
    have hn : ¬ (os.length : Int) = (ls.length : Int) := by omega
    have hn' : ¬ (ls.length : Int) = (os.length : Int) := by omega
    go_enter Try.func22, Try.ntmps22
    go_wp2_with (first | (go_at_call 51; refine (areRepairs_c _ _ _ _ ls hs _ h h' hm).mono ?_; rintro e w' ⟨rfl, rfl⟩))
    go_returns
    exact ⟨rfl, rfl⟩
  have G2 := Lib.hid g2
  have wl : IntKind.i64.wrap ((ls.length : Int) - 1) = (ls.length : Int) - 1 := IntWalk.i64_in _ (by omega)
  have ho10 : os.length ≤ 10 := by omega
  rw [g2]
  clear g2
  go_enter Try.func22, Try.ntmps22
  go_wp2_with (first | (go_at_call 51; refine (areRepairs_c _ _ _ _ ls hs _ h h' hm).mono ?_; rintro e w' ⟨rfl, rfl⟩))
  go_loop [8, 9, 10, 11, 25] (fun s e _ _ i => ∃ (k : Nat) (p : Int × Int), k ≤ os.length ∧ i = .int .i64 k ∧ s = .int .i64 p.1 ∧ e = .int .i64 p.2 ∧ p = luK ls hs os k ∧ (0 ≤ p.2 ∧ p.2 ≤ 100 * k ∧ 0 ≤ p.1 ∧ p.1 ≤ 1000000000 * k) ∧ (∀ j, j < k → luAt ls.length os j = true)) (fun _ _ _ _ i => os.length - (intOf i).toNat)
  case atStart => exact ⟨0, (0, 0), by omega, rfl, rfl, rfl, rfl, by simp, fun j hj => absurd hj (by omega)⟩
  case round =>
    obtain ⟨k, p, hk, rfl, rfl, rfl, hp, ⟨p0, p1, p2, p3⟩, hno⟩ := hrel
    by_cases hlt : k < os.length
    · obtain ⟨b2, off2, x, rfl, hx, hb2, hc2⟩ := K2.at_ hlt
      have hkl : (k : Int) < (ls.length : Int) := by have := G2.out; omega
      have sl1 : (k : Int) ≤ (c2 : Int) := by omega
      have sl2 : k ≤ c2 := by omega
      have sl3 : (0 : Int) ≤ (k : Int) := by omega
      have sl4 : ¬ ((k : Int) < 0) := by omega
      cases q1 : inB x 0 ((ls.length : Int) - 1)
      · have hr := luR_bad (ls := ls) (hs := hs) hlt (by rw [luAt, ← hx, q1]; rfl)
        have HR := Lib.hid hr
        clear hno hx h h' hr hp gb
        go_wp2_with (first | (go_at_call 51; refine (areRepairs_c _ _ _ _ ls hs _ h h' hm).mono ?_; rintro e w' ⟨rfl, rfl⟩) | (go_at_call 42; refine (inside_c _ _ _ _).mono ?_; rintro e w' ⟨rfl, rfl⟩) | (go_at_call 52; refine (slicesContains_c _ _ k os _ _ K2 (by omega) hm2).mono ?_; rintro e w' ⟨rfl, rfl⟩))
        go_returns
        exact ⟨by rw [HR.out]; rfl, rfl⟩
      cases q2 : (os.take k).any (fun y => x == y)
      case true =>
        have hr := luR_bad (ls := ls) (hs := hs) hlt (by rw [luAt, ← hx, q2, Bool.not_true, Bool.and_false])
        have HR := Lib.hid hr
        clear hno hx h h' hr hp gb
        go_wp2_with (first | (go_at_call 51; refine (areRepairs_c _ _ _ _ ls hs _ h h' hm).mono ?_; rintro e w' ⟨rfl, rfl⟩) | (go_at_call 42; refine (inside_c _ _ _ _).mono ?_; rintro e w' ⟨rfl, rfl⟩) | (go_at_call 52; refine (slicesContains_c _ _ k os _ _ K2 (by omega) hm2).mono ?_; rintro e w' ⟨rfl, rfl⟩))
        go_returns
        exact ⟨by rw [HR.out]; rfl, rfl⟩
      case false =>
        have hq2 : luAt ls.length os k = true := by rw [luAt, ← hx, q1, q2]; rfl
        have xb := inB_out q1
        obtain ⟨i, rfl⟩ : ∃ i : Nat, x = i := ⟨x.toNat, by omega⟩
        have hi : i < ls.length := by omega
        obtain ⟨b, off, y, rfl, hy, hb, hc⟩ := h.at_ hi
        obtain ⟨b', off', z, rfl, hz, hb', hc'⟩ := h'.at_ (k := i) (by have := EHS.out; omega)
        have gi := gb i hi
        rw [← hy, ← hz] at gi
        have hil : (i : Int) < (ls.length : Int) := by omega
        have hil' : (i : Int) < (hs.length : Int) := by have := EHS.out; omega
        have hs1 := luK_next hp hx hy hz
        have w1 : IntKind.i64.wrap (p.2 + z) = p.2 + z := IntWalk.i64_in _ (by omega)
        have m0 : 0 ≤ y * (p.2 + z) := Int.mul_nonneg (by omega) (by omega)
        have m1 : y * (p.2 + z) ≤ 1000000 * 1000 := Int.mul_le_mul (by omega) (by omega) (by omega) (by omega)
        have w2 : IntKind.i64.wrap (y * (p.2 + z)) = y * (p.2 + z) := IntWalk.i64_in _ (by omega)
        have w3 : IntKind.i64.wrap (p.1 + y * (p.2 + z)) = p.1 + y * (p.2 + z) := IntWalk.i64_in _ (by omega)
        have HNO := Lib.hid hno
        have HQ := Lib.hid hq2
        have HS := Lib.hid hs1
        clear hno hx hy hz h h' hq2 hp hs1 gb
        go_wp2_with (first | (go_at_call 51; refine (areRepairs_c _ _ _ _ ls hs _ h h' hm).mono ?_; rintro e w' ⟨rfl, rfl⟩) | (go_at_call 42; refine (inside_c _ _ _ _).mono ?_; rintro e w' ⟨rfl, rfl⟩) | (go_at_call 52; refine (slicesContains_c _ _ k os _ _ K2 (by omega) hm2).mono ?_; rintro e w' ⟨rfl, rfl⟩))
        go_round
        case rel => exact ⟨k + 1, _, by omega, by go_num, rfl, rfl, HS.out.symm, ⟨by show 0 ≤ p.2 + z; omega, by show p.2 + z ≤ _; omega, by show 0 ≤ p.1 + y * (p.2 + z); omega, by show p.1 + y * (p.2 + z) ≤ _; omega⟩, fun j hj => by
          by_cases e : j = k
          · subst e; exact HQ.out
          · exact HNO.out j (by omega)⟩
        case measure => simp [intOf]; omega
    · obtain rfl : k = os.length := by omega
      have hr := luR_yes g1 G2.out hno
      rw [← hp] at hr
      have HR := Lib.hid hr
      have hend : ¬ ((os.length : Int) < (ls.length : Int)) := by have := G2.out; omega
      clear hno h h' hr hp gb g1
      go_wp2
      go_returns
      exact ⟨by rw [HR.out]; rfl, rfl⟩
set_option maxHeartbeats 2000000 in
theorem specLost_c {B B' B2 : Nat} (A A' A2 : Option Addr) (c c' c2 : Nat) (ls hs os : List Int) (w : World) (h : RdI w B A ls) (h' : RdI w B' A' hs) (K2 : RdI w B2 A2 os) (hm : ls.length ≤ 4611686018427387904) (hm2 : os.length ≤ 4611686018427387904) (hcap : os.length ≤ c2) :
    Calls Try.prog 21 #[.slice A ls.length c, .slice A' hs.length c', .slice A2 os.length c2] w fun e w' => e = .returned (.tuple #[.int .i64 (luR ls hs os).1, .bool (luR ls hs os).2]) ∧ ∃ n, w' = w.drewN n := by
  cases g1 : repG ls hs
  · rw [luR_rep g1]
    go_enter Try.func21, Try.ntmps21
    go_wp2_with (first | (go_at_call 49; refine (l17Repairs_c _ _ _ _ ls hs _ h h' hm).mono ?_; rintro e w' ⟨rfl, rfl⟩))
    go_returns
    exact ⟨rfl, 0, rfl⟩
  obtain ⟨n10, ehs, gb⟩ := repG_out g1
  have EHS := Lib.hid ehs
  clear ehs
  by_cases g2 : os.length = ls.length
  case neg =>
    rw [luR_neq g2]
    have hn : ¬ (os.length : Int) = (ls.length : Int) := by omega
    have hn' : ¬ (ls.length : Int) = (os.length : Int) := by omega
    go_enter Try.func21, Try.ntmps21
    go_wp2_with (first | (go_at_call 49; refine (l17Repairs_c _ _ _ _ ls hs _ h h' hm).mono ?_; rintro e w' ⟨rfl, rfl⟩))
    go_returns
    exact ⟨rfl, 0, rfl⟩
  have G2 := Lib.hid g2
  have wl : IntKind.i64.wrap ((ls.length : Int) - 1) = (ls.length : Int) - 1 := IntWalk.i64_in _ (by omega)
  have ho10 : os.length ≤ 10 := by omega
  rw [g2]
  clear g2
  go_enter Try.func21, Try.ntmps21
  go_wp2_with (first | (go_at_call 49; refine (l17Repairs_c _ _ _ _ ls hs _ h h' hm).mono ?_; rintro e w' ⟨rfl, rfl⟩))
  go_loopw [8, 9, 10] (fun s e i wr => ∃ (k : Nat) (p : Int × Int), k ≤ os.length ∧ i = .int .i64 k ∧ s = .int .i64 p.1 ∧ e = .int .i64 p.2 ∧ p = luK ls hs os k ∧ (0 ≤ p.2 ∧ p.2 ≤ 100 * k ∧ 0 ≤ p.1 ∧ p.1 ≤ 1000000000 * k) ∧ (∀ j, j < k → luAt ls.length os j = true) ∧ ∃ n, wr = w.drewN n) (fun _ _ i _ => os.length - (intOf i).toNat)
  case atStart => exact ⟨0, (0, 0), by omega, rfl, rfl, rfl, rfl, by simp, fun j hj => absurd hj (by omega), 0, rfl⟩
  case round =>
    obtain ⟨k, p, hk, rfl, rfl, rfl, hp, ⟨p0, p1, p2, p3⟩, hno, n, rfl⟩ := hrel
    by_cases hlt : k < os.length
    · obtain ⟨b2, off2, x, rfl, hx, hb2, hc2⟩ := K2.at_ hlt
      have hkl : (k : Int) < (ls.length : Int) := by have := G2.out; omega
      have sl1 : (k : Int) ≤ (c2 : Int) := by omega
      have sl2 : k ≤ c2 := by omega
      have sl3 : (0 : Int) ≤ (k : Int) := by omega
      have sl4 : ¬ ((k : Int) < 0) := by omega
      cases q1 : inB x 0 ((ls.length : Int) - 1)
      · have hr := luR_bad (ls := ls) (hs := hs) hlt (by rw [luAt, ← hx, q1]; rfl)
        have HR := Lib.hid hr
        clear hno hx h h' hr hp gb
        go_wp2
        go_quiet ((go_at_call 41; exact (l1In_c _ _ _ _).mono fun _ _ hh => ⟨hh.1, _, hh.2.symm⟩))
        go_wp2
        go_returns
        exact ⟨by rw [HR.out]; rfl, _, by first | rfl | exact World.drewN_drewN _ _ _⟩
      cases q2 : (os.take k).any (fun y => x == y)
      case true =>
        have hr := luR_bad (ls := ls) (hs := hs) hlt (by rw [luAt, ← hx, q2, Bool.not_true, Bool.and_false])
        have HR := Lib.hid hr
        clear hno hx h h' hr hp gb
        go_wp2
        go_region_held3 (fun w' => w'.cell? ⟨b2, off2 + k, none⟩ = some (.int .i64 x)) (simp [*]) (first | (go_at_call 41; refine (l1In_c _ _ _ _).mono ?_; rintro e w' ⟨rfl, rfl⟩) | (go_at_call 50; refine (l1HasTake_c _ _ k os _ _ (by exact K2) (by omega) hm2).mono ?_; rintro e w' ⟨rfl, rfl⟩))
        go_wp2
        go_returns
        exact ⟨by rw [HR.out]; rfl, _, by first | rfl | exact World.drewN_drewN _ _ _⟩
      case false =>
        have hq2 : luAt ls.length os k = true := by rw [luAt, ← hx, q1, q2]; rfl
        have xb := inB_out q1
        obtain ⟨i, rfl⟩ : ∃ i : Nat, x = i := ⟨x.toNat, by omega⟩
        have hi : i < ls.length := by omega
        obtain ⟨b, off, y, rfl, hy, hb, hc⟩ := h.at_ hi
        obtain ⟨b', off', z, rfl, hz, hb', hc'⟩ := h'.at_ (k := i) (by have := EHS.out; omega)
        have gi := gb i hi
        rw [← hy, ← hz] at gi
        have hil : (i : Int) < (ls.length : Int) := by omega
        have hil' : (i : Int) < (hs.length : Int) := by have := EHS.out; omega
        have hs1 := luK_next hp hx hy hz
        have w1 : IntKind.i64.wrap (p.2 + z) = p.2 + z := IntWalk.i64_in _ (by omega)
        have m0 : 0 ≤ y * (p.2 + z) := Int.mul_nonneg (by omega) (by omega)
        have m1 : y * (p.2 + z) ≤ 1000000 * 1000 := Int.mul_le_mul (by omega) (by omega) (by omega) (by omega)
        have w2 : IntKind.i64.wrap (y * (p.2 + z)) = y * (p.2 + z) := IntWalk.i64_in _ (by omega)
        have w3 : IntKind.i64.wrap (p.1 + y * (p.2 + z)) = p.1 + y * (p.2 + z) := IntWalk.i64_in _ (by omega)
        have HNO := Lib.hid hno
        have HQ := Lib.hid hq2
        have HS := Lib.hid hs1
        clear hno hx hy hz h h' hq2 hp hs1 gb
        go_wp2
        go_region_held3 (fun w' => w'.cell? ⟨b2, off2 + k, none⟩ = some (.int .i64 (i : Int))) (simp [*]) (first | (go_at_call 41; refine (l1In_c _ _ _ _).mono ?_; rintro e w' ⟨rfl, rfl⟩) | (go_at_call 50; refine (l1HasTake_c _ _ k os _ _ (by exact K2) (by omega) hm2).mono ?_; rintro e w' ⟨rfl, rfl⟩))
        go_wp2
        go_roundw
        case rel => exact ⟨k + 1, _, by omega, by go_num, rfl, rfl, HS.out.symm, ⟨by show 0 ≤ p.2 + z; omega, by show p.2 + z ≤ _; omega, by show 0 ≤ p.1 + y * (p.2 + z); omega, by show p.1 + y * (p.2 + z) ≤ _; omega⟩, fun j hj => by
          by_cases e : j = k
          · subst e; exact HQ.out
          · exact HNO.out j (by omega), _, by first | rfl | exact World.drewN_drewN _ _ _⟩
        case measure => simp [intOf]; omega
    · obtain rfl : k = os.length := by omega
      have hr := luR_yes g1 G2.out hno
      rw [← hp] at hr
      have HR := Lib.hid hr
      have hend : ¬ ((os.length : Int) < (ls.length : Int)) := by have := G2.out; omega
      clear hno h h' hr hp gb g1
      go_wp2
      go_returns
      exact ⟨by rw [HR.out]; rfl, _, by first | rfl | exact World.drewN_drewN _ _ _⟩
end Go.Proofs.Ytdkhiedgikjnkaa
