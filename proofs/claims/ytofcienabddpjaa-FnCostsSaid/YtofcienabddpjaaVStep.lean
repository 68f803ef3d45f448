/- Contracts: an hour of a tank, as it is called from outside. -/
import Derived.Test.YtofcienabddpjaaQPlain
import Derived.Test.YtofcienabddpjaaSWalk
import Derived.Test.YtofcienabddpjaaUPump
import Derived.Deep.Light
namespace Go.Proofs.Ytofcienabddpjaa
open Go.RowKit

set_option maxHeartbeats 1000000 in
theorem StepTank_c (l E M z u : Int) (w : World) (hh : HourB E M l z u) (t : goodTk l E M = true) :
    Calls Try.prog 18 #[.agg #[.int .i64 l, .int .i64 E, .int .i64 M], .int .i64 z, .int .i64 u] w fun e w' => e = .returned (.tuple #[.agg #[.int .i64 (nxT E M l z u), .int .i64 E, .int .i64 M], .int .i64 (spT M l z), .int .i64 (msT E M l z u), .bool true]) ∧ Below w.heap.size w w' := by
  have tk := fun s => implTank_c l E M s
  simp only [t] at tk
  have h1 := fun s => isHourly_c z s
  have h2 := fun s => isHourly_c u s
  simp only [hourB, inB_mk hh.z0 hh.z1] at h1
  simp only [hourB, inB_mk hh.u0 hh.u1] at h2
  have st := fun s => stepTank_c E M l z u s hh
  have TK := Lib.hid tk
  have HZ := Lib.hid h1
  have HU := Lib.hid h2
  have ST := Lib.hid st
  clear tk h1 h2 st t hh
  generalize nxT E M l z u = nx at *
  generalize spT M l z = sp at *
  generalize msT E M l z u = ms at *
  go_enter Try.func18, Try.ntmps18
  go_wp2_with (first | (go_at_call 52; refine (TK.out _).mono ?_; rintro e w1 ⟨rfl, hb1⟩; have hz1 := hb1.size; (repeat (first | rw [World.size_alloc] at hz1 | rw [World.size_drew] at hz1 | rw [World.heap_drewN] at hz1 | rw [World.size_setCell] at hz1)); have hB : Below w.heap.size w w1 := Below.trans (by (repeat' (first | (with_reducible exact Below.refl _ _) | (with_reducible assumption) | (with_reducible refine below_drewN ?_ _) | (with_reducible refine Below.alloc ?_ ?_ _) | (with_reducible refine Below.drew ?_) | (with_reducible refine Below.setCell ?_ ?_ _) | go_size))) (hb1.mono (by go_size)); have hL1 := hb1; clear hb1; obtain ⟨hc1, hf1⟩ := bcell hL1) | (go_at_call 53; refine (HZ.out _).mono ?_; rintro e w' ⟨rfl, rfl⟩) | (go_at_call 53; refine (HU.out _).mono ?_; rintro e w' ⟨rfl, rfl⟩) | (go_at_call 54; refine (ST.out _).mono ?_; rintro e w2 ⟨rfl, hb2⟩; have hz2 := hb2.size; (repeat (first | rw [World.size_alloc] at hz2 | rw [World.size_drew] at hz2 | rw [World.heap_drewN] at hz2 | rw [World.size_setCell] at hz2)); replace hB : Below w.heap.size w w2 := Below.trans (by (repeat' (first | (with_reducible exact Below.refl _ _) | (with_reducible assumption) | (with_reducible refine below_drewN ?_ _) | (with_reducible refine Below.alloc ?_ ?_ _) | (with_reducible refine Below.drew ?_) | (with_reducible refine Below.setCell ?_ ?_ _) | go_size))) (hb2.mono (by go_size)); (first | (refine extend_then hL1 hb2 ?_ ?_ (fun hq => ?_); (focus ((repeat' (first | (with_reducible exact Below.refl _ _) | (with_reducible assumption) | (with_reducible refine below_drewN ?_ _) | (with_reducible refine Below.alloc ?_ ?_ _) | (with_reducible refine Below.drew ?_) | (with_reducible refine Below.setCell ?_ ?_ _) | go_size)); done)); (focus (go_size; done)); replace hL1 := hq; clear hq hc1 hf1; obtain ⟨hc1, hf1⟩ := bcell hL1) | (clear hL1 hc1 hf1) | skip); have hL2 := hb2; clear hb2; obtain ⟨hc2, hf2⟩ := bcell hL2))
  go_light
  refine bodyPost_ret (v := .tuple #[.agg #[.int .i64 nx, .int .i64 E, .int .i64 M], .int .i64 sp, .int .i64 ms, .bool true]) (by simp (maxDischargeDepth := 6) [results, Try.results18, go_sem, *]) rfl ?_
  exact ⟨rfl, by (repeat' (first | (with_reducible exact Below.refl _ _) | (with_reducible assumption) | (with_reducible refine below_drewN ?_ _) | (with_reducible refine Below.alloc ?_ ?_ _) | (with_reducible refine Below.drew ?_) | (with_reducible refine Below.setCell ?_ ?_ _) | go_size))⟩
end Go.Proofs.Ytofcienabddpjaa
