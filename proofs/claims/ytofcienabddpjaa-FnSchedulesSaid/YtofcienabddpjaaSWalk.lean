/- Contracts: an hour of a tank. -/
import Derived.Test.YtofcienabddpjaaAfter
import Derived.Test.YtofcienabddpjaaSPlain
import Derived.Test.YtofcienabddpjaaUPump
namespace Go.Proofs.Ytofcienabddpjaa
open Go.RowKit

theorem spT_max (M l z : Int) : maxI 0 (l + z - M) = spT M l z := by unfold maxI spT; split <;> split <;> omega
theorem msT_max (E M l z u : Int) : maxI 0 (E - mdT M l z u) = msT E M l z u := by unfold maxI msT; split <;> split <;> omega
/-- What the walks of an hour need. -/
structure HourB (E M l z u : Int) : Prop where
  e0 : 0 ≤ E
  e1 : E ≤ 60
  m0 : 0 ≤ M
  m1 : M ≤ 60
  l0 : 0 ≤ l
  l1 : l ≤ 60
  z0 : 0 ≤ z
  z1 : z ≤ 100
  u0 : 0 ≤ u
  u1 : u ≤ 100
theorem hour_b {E M l z u : Int} (h : HourB E M l z u) : (0 ≤ spT M l z ∧ spT M l z ≤ 200) ∧ (-200 ≤ mdT M l z u ∧ mdT M l z u ≤ 200) ∧ (0 ≤ msT E M l z u ∧ msT E M l z u ≤ 300) ∧ (-300 ≤ nxT E M l z u ∧ nxT E M l z u ≤ 300) := by
  obtain ⟨a0, a1, a2, a3, a4, a5, a6, a7, a8, a9⟩ := h
  unfold nxT msT mdT spT
  split <;> split <;> omega
theorem l11Step_c (L E M l z u : Int) (w : World) (h : HourB E M l z u) :
    Calls Try.prog 80 #[.agg #[.int .i64 L, .int .i64 E, .int .i64 M], .int .i64 l, .int .i64 z, .int .i64 u] w fun e w' => e = .returned (.tuple #[.int .i64 (nxT E M l z u), .int .i64 (spT M l z), .int .i64 (msT E M l z u)]) ∧ Below w.heap.size w w' := by
  have hb := hour_b h
  obtain ⟨a0, a1, a2, a3, a4, a5, a6, a7, a8, a9⟩ := h
  have w1 : IntKind.i64.wrap (l + z) = l + z := IntWalk.i64_in _ (by omega)
  have w2 : IntKind.i64.wrap (l + z - M) = l + z - M := IntWalk.i64_in _ (by omega)
  have w3 : IntKind.i64.wrap (l + z - spT M l z) = l + z - spT M l z := IntWalk.i64_in _ (by omega)
  have w4 : IntKind.i64.wrap (l + z - spT M l z - u) = mdT M l z u := by rw [mdT]; exact IntWalk.i64_in _ (by omega)
  have w5 : IntKind.i64.wrap (E - mdT M l z u) = E - mdT M l z u := IntWalk.i64_in _ (by omega)
  have w6 : IntKind.i64.wrap (mdT M l z u + msT E M l z u) = nxT E M l z u := by rw [nxT]; exact IntWalk.i64_in _ (by have := hb.2.2.2; rw [nxT] at this; omega)
  have e1 := spT_max M l z
  have e2 := msT_max E M l z u
  clear hb
  go_enter Try.func80, Try.ntmps80
  go_wp2_with (go_at_call 82; refine (l1Most_c _ _ _).mono ?_; rintro e w' ⟨rfl, rfl⟩)
  (go_returns; exact ⟨by first | rfl | (simp; done) | (simp; omega), by (repeat' (first | (with_reducible exact Below.refl _ _) | (with_reducible assumption) | (with_reducible refine below_drewN ?_ _) | (with_reducible refine Below.alloc ?_ ?_ _) | (with_reducible refine Below.drew ?_) | (with_reducible refine Below.setCell ?_ ?_ _) | go_size))⟩)
set_option maxHeartbeats 2000000 in
theorem stepTank_c (E M l z u : Int) (w : World) (h : HourB E M l z u) :
    Calls Try.prog 54 #[.agg #[.int .i64 l, .int .i64 E, .int .i64 M], .int .i64 z, .int .i64 u] w fun e w' => e = .returned (.tuple #[.agg #[.int .i64 (nxT E M l z u), .int .i64 E, .int .i64 M], .int .i64 (spT M l z), .int .i64 (msT E M l z u)]) ∧ Below w.heap.size w w' := by
  obtain ⟨a0, a1, a2, a3, a4, a5, a6, a7, a8, a9⟩ := h
  by_cases h1 : 0 < l + z - M
  · by_cases h2 : 0 < E - (l + z - (l + z - M + u))
    · skip
      have e1 : nxT E M l z u = l + z - (l + z - M + u) + (E - (l + z - (l + z - M + u))) := by unfold nxT msT mdT spT; split <;> split <;> omega
      have e2 : spT M l z = l + z - M := by unfold spT; split <;> omega
      have e3 : msT E M l z u = E - (l + z - (l + z - M + u)) := by unfold msT mdT spT; split <;> split <;> omega
      rw [e1, e2, e3]
      clear e1 e2 e3
      go_enter Try.func54, Try.ntmps54
      go_wp2_with fail
      all_goals first | (exfalso; omega) | (refine bodyPost_ret (v := .tuple #[.agg #[.int .i64 (l + z - (l + z - M + u) + (E - (l + z - (l + z - M + u)))), .int .i64 E, .int .i64 M], .int .i64 (l + z - M), .int .i64 (E - (l + z - (l + z - M + u)))]) (by simp (maxDischargeDepth := 3) [results, Try.results54, go_sem] <;> omega) rfl ?_; exact ⟨rfl, by (repeat' (first | (with_reducible exact Below.refl _ _) | (with_reducible assumption) | (with_reducible refine below_drewN ?_ _) | (with_reducible refine Below.alloc ?_ ?_ _) | (with_reducible refine Below.drew ?_) | (with_reducible refine Below.setCell ?_ ?_ _) | go_size))⟩)
    · skip
      have e1 : nxT E M l z u = l + z - (l + z - M + u) := by unfold nxT msT mdT spT; split <;> split <;> omega
      have e2 : spT M l z = l + z - M := by unfold spT; split <;> omega
      have e3 : msT E M l z u = 0 := by unfold msT mdT spT; split <;> split <;> omega
      rw [e1, e2, e3]
      clear e1 e2 e3
      go_enter Try.func54, Try.ntmps54
      go_wp2_with fail
      all_goals first | (exfalso; omega) | (refine bodyPost_ret (v := .tuple #[.agg #[.int .i64 (l + z - (l + z - M + u)), .int .i64 E, .int .i64 M], .int .i64 (l + z - M), .int .i64 (0)]) (by simp (maxDischargeDepth := 3) [results, Try.results54, go_sem] <;> omega) rfl ?_; exact ⟨rfl, by (repeat' (first | (with_reducible exact Below.refl _ _) | (with_reducible assumption) | (with_reducible refine below_drewN ?_ _) | (with_reducible refine Below.alloc ?_ ?_ _) | (with_reducible refine Below.drew ?_) | (with_reducible refine Below.setCell ?_ ?_ _) | go_size))⟩)
  · by_cases h2 : 0 < E - (l + z - u)
    · skip
      have e1 : nxT E M l z u = l + z - u + (E - (l + z - u)) := by unfold nxT msT mdT spT; split <;> split <;> omega
      have e2 : spT M l z = 0 := by unfold spT; split <;> omega
      have e3 : msT E M l z u = E - (l + z - u) := by unfold msT mdT spT; split <;> split <;> omega
      rw [e1, e2, e3]
      clear e1 e2 e3
      go_enter Try.func54, Try.ntmps54
      go_wp2_with fail
      all_goals first | (exfalso; omega) | (refine bodyPost_ret (v := .tuple #[.agg #[.int .i64 (l + z - u + (E - (l + z - u))), .int .i64 E, .int .i64 M], .int .i64 (0), .int .i64 (E - (l + z - u))]) (by simp (maxDischargeDepth := 3) [results, Try.results54, go_sem] <;> omega) rfl ?_; exact ⟨rfl, by (repeat' (first | (with_reducible exact Below.refl _ _) | (with_reducible assumption) | (with_reducible refine below_drewN ?_ _) | (with_reducible refine Below.alloc ?_ ?_ _) | (with_reducible refine Below.drew ?_) | (with_reducible refine Below.setCell ?_ ?_ _) | go_size))⟩)
    · skip
      have e1 : nxT E M l z u = l + z - u := by unfold nxT msT mdT spT; split <;> split <;> omega
      have e2 : spT M l z = 0 := by unfold spT; split <;> omega
      have e3 : msT E M l z u = 0 := by unfold msT mdT spT; split <;> split <;> omega
      rw [e1, e2, e3]
      clear e1 e2 e3
      go_enter Try.func54, Try.ntmps54
      go_wp2_with fail
      all_goals first | (exfalso; omega) | (refine bodyPost_ret (v := .tuple #[.agg #[.int .i64 (l + z - u), .int .i64 E, .int .i64 M], .int .i64 (0), .int .i64 (0)]) (by simp (maxDischargeDepth := 3) [results, Try.results54, go_sem] <;> omega) rfl ?_; exact ⟨rfl, by (repeat' (first | (with_reducible exact Below.refl _ _) | (with_reducible assumption) | (with_reducible refine below_drewN ?_ _) | (with_reducible refine Below.alloc ?_ ?_ _) | (with_reducible refine Below.drew ?_) | (with_reducible refine Below.setCell ?_ ?_ _) | go_size))⟩)
theorem l13Next_c {B' : Nat} (L E M P l z u : Int) (k : Nat) (A A' : Option Addr) (c c' : Nat) (xs ys : List Int) (w : World) (h' : RdI w B' A' ys) (hB' : B' ≤ w.heap.size) (hk : k < ys.length) (hu : u = ys.getD k 0) (hh : HourB E M l z u) :
    Calls Try.prog 66 #[.agg #[.int .i64 L, .int .i64 E, .int .i64 M, .int .i64 P, .slice A xs.length c, .slice A' ys.length c'], .int .i64 k, .int .i64 l, .int .i64 z] w fun e w' => e = .returned (.tuple #[.int .i64 (nxT E M l z u), .bool (decide (spT M l z + msT E M l z u = 0))]) ∧ Below w.heap.size w w' := by
  have hb := hour_b hh
  obtain ⟨b, off, u', rfl, hu', hbb, hc⟩ := h'.at_ hk
  obtain rfl : u = u' := hu.trans hu'.symm
  have hi : (k : Int) < (ys.length : Int) := by omega
  have w1 : IntKind.i64.wrap (spT M l z + msT E M l z u) = spT M l z + msT E M l z u := IntWalk.i64_in _ (by omega)
  have hbw : b < w.heap.size := by omega
  clear h' hu hu' hb hbb hk hB'
  go_enter Try.func66, Try.ntmps66
  go_wp2_with fail
  (refine wp_region_after (by kernel_rfl) (by kernel_rfl) (fun hAf => ?_); (repeat (go_big_quiet_step (first | (go_at_call 80; exact callsAfter (l11Step_c L E M l z u _ hh))))); refine wpQuiet_nil ?_; intro w1 hw'; have hb1 := after_out hw'; clear hw' hAf; have hz1 := hb1.size; (repeat (first | rw [World.size_alloc] at hz1 | rw [World.size_drew] at hz1 | rw [World.heap_drewN] at hz1 | rw [World.size_setCell] at hz1)); have hB : Below w.heap.size w w1 := Below.trans (by (repeat' (first | (with_reducible exact Below.refl _ _) | (with_reducible assumption) | (with_reducible refine below_drewN ?_ _) | (with_reducible refine Below.alloc ?_ ?_ _) | (with_reducible refine Below.drew ?_) | (with_reducible refine Below.setCell ?_ ?_ _) | go_size))) (hb1.mono (by go_size)); have hL1 := hb1; clear hb1; obtain ⟨hc1, hf1⟩ := bcell hL1)
  go_wp2
  (go_returns; exact ⟨by first | rfl | (simp; done) | (simp; omega), by (repeat' (first | (with_reducible exact Below.refl _ _) | (with_reducible assumption) | (with_reducible refine below_drewN ?_ _) | (with_reducible refine Below.alloc ?_ ?_ _) | (with_reducible refine Below.drew ?_) | (with_reducible refine Below.setCell ?_ ?_ _) | go_size))⟩)
end Go.Proofs.Ytofcienabddpjaa
