/- Contracts: CheaperFrom. -/
import Derived.Test.YtbfaejacfhblkaaTOf
import Derived.Test.YtbfaejacfhblkaaTChP
namespace Go.Proofs.Ytbfaejacfhblkaa
open Go.RowKit

set_option maxHeartbeats 1000000 in
theorem implCheap_c {B B' : Nat} (Fa Fb : Int) (A A' : Option Addr) (c c' : Nat) (xa xb : List (Int × Int)) (w : World) (h : RdP w B A xa) (h' : RdP w B' A' xb) (hBs : B ≤ w.heap.size) (hBs' : B' ≤ w.heap.size) (hm : xa.length ≤ 4611686018427387904) (hm' : xb.length ≤ 4611686018427387904) : Calls Try.prog 25 #[.agg #[.int .i64 Fa, .slice A xa.length c], .agg #[.int .i64 Fb, .slice A' xb.length c']] w fun e w' => e = .returned (.tuple #[.int .i64 (cheapR Fa xa Fb xb).1, .bool (cheapR Fa xa Fb xb).2]) ∧ Below w.heap.size w w' := by
  cases h1 : goodT Fa xa
  · rw [cheapR_no h1]
    go_enter Try.func25, Try.ntmps25
    go_wp2_with (first | (go_at_call 18; (with_reducible refine (implTar_c Fa A c xa _ ((h.alloc hBs _).alloc (by simp; omega) _) (by simp; omega) hm).mono ?_); rintro e w1 ⟨rfl, hb1⟩; have hz1 := hb1.size; (repeat (first | rw [World.size_alloc] at hz1 | rw [World.size_drew] at hz1 | rw [World.heap_drewN] at hz1 | rw [World.size_setCell] at hz1)); have hB : Below w.heap.size w w1 := Below.trans (by (repeat' (first | (with_reducible exact Below.refl _ _) | (with_reducible assumption) | (with_reducible refine below_drewN ?_ _) | (with_reducible refine Below.alloc ?_ ?_ _) | (with_reducible refine Below.drew ?_) | (with_reducible refine Below.setCell ?_ ?_ _) | go_size))) (hb1.mono (by go_size)); have hL1 := hb1; clear hb1; obtain ⟨hc1, hf1⟩ := bcell hL1) | (go_at_call 18; (with_reducible refine (implTar_c Fb A' c' xb _ (((h'.alloc hBs' _).alloc (by simp; omega) _).below (hL1.mono (by simp; omega))) (by go_size) hm').mono ?_); rintro e w2 ⟨rfl, hb2⟩; have hz2 := hb2.size; (repeat (first | rw [World.size_alloc] at hz2 | rw [World.size_drew] at hz2 | rw [World.heap_drewN] at hz2 | rw [World.size_setCell] at hz2)); replace hB : Below w.heap.size w w2 := Below.trans (by (repeat' (first | (with_reducible exact Below.refl _ _) | (with_reducible assumption) | (with_reducible refine below_drewN ?_ _) | (with_reducible refine Below.alloc ?_ ?_ _) | (with_reducible refine Below.drew ?_) | (with_reducible refine Below.setCell ?_ ?_ _) | go_size))) (hb2.mono (by go_size)); (first | (refine extend_then hL1 hb2 ?_ ?_ (fun hq => ?_); (focus ((repeat' (first | (with_reducible exact Below.refl _ _) | (with_reducible assumption) | (with_reducible refine below_drewN ?_ _) | (with_reducible refine Below.alloc ?_ ?_ _) | (with_reducible refine Below.drew ?_) | (with_reducible refine Below.setCell ?_ ?_ _) | go_size)); done)); (focus (go_size; done)); replace hL1 := hq; clear hq hc1 hf1; obtain ⟨hc1, hf1⟩ := bcell hL1) | (clear hL1 hc1 hf1) | skip); have hL2 := hb2; clear hb2; obtain ⟨hc2, hf2⟩ := bcell hL2))
    (go_returns; exact ⟨by first | rfl | (simp; done) | (simp; omega), by (repeat' (first | (with_reducible exact Below.refl _ _) | (with_reducible assumption) | (with_reducible refine below_drewN ?_ _) | (with_reducible refine Below.alloc ?_ ?_ _) | (with_reducible refine Below.drew ?_) | (with_reducible refine Below.setCell ?_ ?_ _) | go_size))⟩)
  cases h2 : goodT Fb xb
  · rw [cheapR_no2 h2]
    go_enter Try.func25, Try.ntmps25
    go_wp2_with (first | (go_at_call 18; (with_reducible refine (implTar_c Fa A c xa _ ((h.alloc hBs _).alloc (by simp; omega) _) (by simp; omega) hm).mono ?_); rintro e w1 ⟨rfl, hb1⟩; have hz1 := hb1.size; (repeat (first | rw [World.size_alloc] at hz1 | rw [World.size_drew] at hz1 | rw [World.heap_drewN] at hz1 | rw [World.size_setCell] at hz1)); have hB : Below w.heap.size w w1 := Below.trans (by (repeat' (first | (with_reducible exact Below.refl _ _) | (with_reducible assumption) | (with_reducible refine below_drewN ?_ _) | (with_reducible refine Below.alloc ?_ ?_ _) | (with_reducible refine Below.drew ?_) | (with_reducible refine Below.setCell ?_ ?_ _) | go_size))) (hb1.mono (by go_size)); have hL1 := hb1; clear hb1; obtain ⟨hc1, hf1⟩ := bcell hL1) | (go_at_call 18; (with_reducible refine (implTar_c Fb A' c' xb _ (((h'.alloc hBs' _).alloc (by simp; omega) _).below (hL1.mono (by simp; omega))) (by go_size) hm').mono ?_); rintro e w2 ⟨rfl, hb2⟩; have hz2 := hb2.size; (repeat (first | rw [World.size_alloc] at hz2 | rw [World.size_drew] at hz2 | rw [World.heap_drewN] at hz2 | rw [World.size_setCell] at hz2)); replace hB : Below w.heap.size w w2 := Below.trans (by (repeat' (first | (with_reducible exact Below.refl _ _) | (with_reducible assumption) | (with_reducible refine below_drewN ?_ _) | (with_reducible refine Below.alloc ?_ ?_ _) | (with_reducible refine Below.drew ?_) | (with_reducible refine Below.setCell ?_ ?_ _) | go_size))) (hb2.mono (by go_size)); (first | (refine extend_then hL1 hb2 ?_ ?_ (fun hq => ?_); (focus ((repeat' (first | (with_reducible exact Below.refl _ _) | (with_reducible assumption) | (with_reducible refine below_drewN ?_ _) | (with_reducible refine Below.alloc ?_ ?_ _) | (with_reducible refine Below.drew ?_) | (with_reducible refine Below.setCell ?_ ?_ _) | go_size)); done)); (focus (go_size; done)); replace hL1 := hq; clear hq hc1 hf1; obtain ⟨hc1, hf1⟩ := bcell hL1) | (clear hL1 hc1 hf1) | skip); have hL2 := hb2; clear hb2; obtain ⟨hc2, hf2⟩ := bcell hL2))
    (go_returns; exact ⟨by first | rfl | (simp; done) | (simp; omega), by (repeat' (first | (with_reducible exact Below.refl _ _) | (with_reducible assumption) | (with_reducible refine below_drewN ?_ _) | (with_reducible refine Below.alloc ?_ ?_ _) | (with_reducible refine Below.drew ?_) | (with_reducible refine Below.setCell ?_ ?_ _) | go_size))⟩)
  have ga := goodT_out h1
  have gb := goodT_out h2
  have hr := cheapR_yes h1 h2
  have HR := Lib.hid hr
  clear hr
  go_enter Try.func25, Try.ntmps25
  go_wp2_with (first | (go_at_call 18; (with_reducible refine (implTar_c Fa A c xa _ ((h.alloc hBs _).alloc (by simp; omega) _) (by simp; omega) hm).mono ?_); rintro e w1 ⟨rfl, hb1⟩; have hz1 := hb1.size; (repeat (first | rw [World.size_alloc] at hz1 | rw [World.size_drew] at hz1 | rw [World.heap_drewN] at hz1 | rw [World.size_setCell] at hz1)); have hB : Below w.heap.size w w1 := Below.trans (by (repeat' (first | (with_reducible exact Below.refl _ _) | (with_reducible assumption) | (with_reducible refine below_drewN ?_ _) | (with_reducible refine Below.alloc ?_ ?_ _) | (with_reducible refine Below.drew ?_) | (with_reducible refine Below.setCell ?_ ?_ _) | go_size))) (hb1.mono (by go_size)); have hL1 := hb1; clear hb1; obtain ⟨hc1, hf1⟩ := bcell hL1) | (go_at_call 18; (with_reducible refine (implTar_c Fb A' c' xb _ (((h'.alloc hBs' _).alloc (by simp; omega) _).below (hL1.mono (by simp; omega))) (by go_size) hm').mono ?_); rintro e w2 ⟨rfl, hb2⟩; have hz2 := hb2.size; (repeat (first | rw [World.size_alloc] at hz2 | rw [World.size_drew] at hz2 | rw [World.heap_drewN] at hz2 | rw [World.size_setCell] at hz2)); replace hB : Below w.heap.size w w2 := Below.trans (by (repeat' (first | (with_reducible exact Below.refl _ _) | (with_reducible assumption) | (with_reducible refine below_drewN ?_ _) | (with_reducible refine Below.alloc ?_ ?_ _) | (with_reducible refine Below.drew ?_) | (with_reducible refine Below.setCell ?_ ?_ _) | go_size))) (hb2.mono (by go_size)); (first | (refine extend_then hL1 hb2 ?_ ?_ (fun hq => ?_); (focus ((repeat' (first | (with_reducible exact Below.refl _ _) | (with_reducible assumption) | (with_reducible refine below_drewN ?_ _) | (with_reducible refine Below.alloc ?_ ?_ _) | (with_reducible refine Below.drew ?_) | (with_reducible refine Below.setCell ?_ ?_ _) | go_size)); done)); (focus (go_size; done)); replace hL1 := hq; clear hq hc1 hf1; obtain ⟨hc1, hf1⟩ := bcell hL1) | (clear hL1 hc1 hf1) | skip); have hL2 := hb2; clear hb2; obtain ⟨hc2, hf2⟩ := bcell hL2))
  go_loopw [6] (fun i wr => ∃ z : Int, 0 ≤ z ∧ z ≤ 100001 ∧ i = .int .i64 z ∧ (∀ j : Int, 0 ≤ j → j < z → costT Fa xa j ≤ costT Fb xb j) ∧ Below w.heap.size w wr ∧ w.heap.size + 1 < wr.heap.size ∧ wr.cell? ⟨w.heap.size, 0, none⟩ = some (.int .i64 Fa) ∧ wr.cell? ⟨w.heap.size, 1, none⟩ = some (.slice A xa.length c) ∧ wr.cell? ⟨w.heap.size + 1, 0, none⟩ = some (.int .i64 Fb) ∧ wr.cell? ⟨w.heap.size + 1, 1, none⟩ = some (.slice A' xb.length c')) (fun i _ => (100001 - intOf i).toNat)
  case atStart => exact ⟨0, by omega, by omega, rfl, fun j hj hj2 => by omega, by (repeat' (first | (with_reducible exact Below.refl _ _) | (with_reducible assumption) | (with_reducible refine below_drewN ?_ _) | (with_reducible refine Below.alloc ?_ ?_ _) | (with_reducible refine Below.drew ?_) | (with_reducible refine Below.setCell ?_ ?_ _) | go_size)), by first | omega | go_size, by simp [*, go_sem], by simp [*, go_sem], by simp [*, go_sem], by simp [*, go_sem]⟩
  case round =>
    clear hL1 hc1 hf1 hz1 hL2 hc2 hf2 hz2 hB
    obtain ⟨z, z0, z1, rfl, hno, hB, hsz, k0, k1, k2, k3⟩ := hrel
    by_cases hlt : z ≤ 100000
    · have hA2 : ∀ s : After wr, RdP s.w B A xa := fun s => (h.below (hB.mono hBs)).below (s.h.mono (by omega))
      have hS2 : ∀ s : After wr, B ≤ s.w.heap.size := fun s => by have := s.h.size; omega
      have hA3 : ∀ s : After wr, RdP s.w B' A' xb := fun s => (h'.below (hB.mono hBs')).below (s.h.mono (by omega))
      have hS3 : ∀ s : After wr, B' ≤ s.w.heap.size := fun s => by have := s.h.size; omega
      have cca : ∀ s : After wr, Calls Try.prog 61 #[.agg #[.int .i64 Fa, .slice A xa.length c], .int .i64 z] s.w fun e w' => e = .returned (.int .i64 (costT Fa xa z)) ∧ Below s.w.heap.size s.w w' := fun s => implCost_c Fa z A c xa _ (hA2 s) (hS2 s) h1 z0 (by omega)
      have ccb : ∀ s : After wr, Calls Try.prog 61 #[.agg #[.int .i64 Fb, .slice A' xb.length c'], .int .i64 z] s.w fun e w' => e = .returned (.int .i64 (costT Fb xb z)) ∧ Below s.w.heap.size s.w w' := fun s => implCost_c Fb z A' c' xb _ (hA3 s) (hS3 s) h2 z0 (by omega)
      have CA := Lib.hid cca
      have CB := Lib.hid ccb
      by_cases hq : costT Fb xb z < costT Fa xa z
      · have hv := HR.out.trans (cheapF_is ⟨z0, hlt, hq, hno⟩)
        have HV := Lib.hid hv
        clear h h' hno hA2 hS2 hA3 hS3 cca ccb hv
        go_wp2
        (refine wp_region_after (by kernel_rfl) (by kernel_rfl) (fun hAf => ?_); (repeat (go_big_quiet_step (first | (go_at_call 61; first | (with_reducible exact callsAfter (CB.out _)) | (with_reducible exact callsAfter (CA.out _)))))); refine wpQuiet_nil ?_; intro w1 hw'; have hb1 := after_out hw'; clear hw' hAf; have hz1 := hb1.size; (repeat (first | rw [World.size_alloc] at hz1 | rw [World.size_drew] at hz1 | rw [World.heap_drewN] at hz1 | rw [World.size_setCell] at hz1)); have hB : Below w.heap.size w w1 := Below.trans (by (repeat' (first | (with_reducible exact Below.refl _ _) | (with_reducible assumption) | (with_reducible refine below_drewN ?_ _) | (with_reducible refine Below.alloc ?_ ?_ _) | (with_reducible refine Below.drew ?_) | (with_reducible refine Below.setCell ?_ ?_ _) | go_size))) (hb1.mono (by go_size)); have hL1 := hb1; clear hb1; obtain ⟨hc1, hf1⟩ := bcell hL1)
        go_wp2
        go_returns
        exact ⟨by rw [HV.out]; rfl, by (repeat' (first | (with_reducible exact Below.refl _ _) | (with_reducible assumption) | (with_reducible refine below_drewN ?_ _) | (with_reducible refine Below.alloc ?_ ?_ _) | (with_reducible refine Below.drew ?_) | (with_reducible refine Below.setCell ?_ ?_ _) | go_size))⟩
      · have hqd : decide (costT Fb xb z < costT Fa xa z) = false := by simp; omega
        have hq2 : costT Fa xa z ≤ costT Fb xb z := by omega
        have HQ := Lib.hid hq2
        have HNO := Lib.hid hno
        have wr1 : IntKind.i64.wrap (z + 1) = z + 1 := IntWalk.i64_in _ (by omega)
        clear h h' hno hA2 hS2 hA3 hS3 cca ccb hq2
        go_wp2
        (refine wp_region_after (by kernel_rfl) (by kernel_rfl) (fun hAf => ?_); (repeat (go_big_quiet_step (first | (go_at_call 61; first | (with_reducible exact callsAfter (CB.out _)) | (with_reducible exact callsAfter (CA.out _)))))); refine wpQuiet_nil ?_; intro w1 hw'; have hb1 := after_out hw'; clear hw' hAf; have hz1 := hb1.size; (repeat (first | rw [World.size_alloc] at hz1 | rw [World.size_drew] at hz1 | rw [World.heap_drewN] at hz1 | rw [World.size_setCell] at hz1)); have hB : Below w.heap.size w w1 := Below.trans (by (repeat' (first | (with_reducible exact Below.refl _ _) | (with_reducible assumption) | (with_reducible refine below_drewN ?_ _) | (with_reducible refine Below.alloc ?_ ?_ _) | (with_reducible refine Below.drew ?_) | (with_reducible refine Below.setCell ?_ ?_ _) | go_size))) (hb1.mono (by go_size)); have hL1 := hb1; clear hb1; obtain ⟨hc1, hf1⟩ := bcell hL1)
        go_wp2
        go_roundw
        case rel => exact ⟨z + 1, by omega, by omega, by go_num, fun j hj hj2 => by
          by_cases e : j = z
          · subst e; exact HQ.out
          · exact HNO.out j hj (by omega), by (repeat' (first | (with_reducible exact Below.refl _ _) | (with_reducible assumption) | (with_reducible refine below_drewN ?_ _) | (with_reducible refine Below.alloc ?_ ?_ _) | (with_reducible refine Below.drew ?_) | (with_reducible refine Below.setCell ?_ ?_ _) | go_size)), by first | omega | go_size, by simp [*, go_sem], by simp [*, go_sem], by simp [*, go_sem], by simp [*, go_sem]⟩
        case measure => simp [intOf]; omega
    · obtain rfl : z = 100001 := by omega
      have hv := HR.out.trans (cheapF_no hno)
      have HV := Lib.hid hv
      clear h h' hno hv
      go_wp2
      go_returns
      exact ⟨by rw [HV.out]; rfl, by (repeat' (first | (with_reducible exact Below.refl _ _) | (with_reducible assumption) | (with_reducible refine below_drewN ?_ _) | (with_reducible refine Below.alloc ?_ ?_ _) | (with_reducible refine Below.drew ?_) | (with_reducible refine Below.setCell ?_ ?_ _) | go_size))⟩
set_option maxHeartbeats 1000000 in
theorem specCheap_c {B B' : Nat} (Fa Fb : Int) (A A' : Option Addr) (c c' : Nat) (xa xb : List (Int × Int)) (w : World) (h : RdP w B A xa) (h' : RdP w B' A' xb) (hBs : B ≤ w.heap.size) (hBs' : B' ≤ w.heap.size) (hm : xa.length ≤ 4611686018427387904) (hm' : xb.length ≤ 4611686018427387904) : Calls Try.prog 24 #[.agg #[.int .i64 Fa, .slice A xa.length c], .agg #[.int .i64 Fb, .slice A' xb.length c']] w fun e w' => e = .returned (.tuple #[.int .i64 (cheapR Fa xa Fb xb).1, .bool (cheapR Fa xa Fb xb).2]) ∧ Below w.heap.size w w' := by
  cases h1 : goodT Fa xa
  · rw [cheapR_no h1]
    go_enter Try.func24, Try.ntmps24
    go_wp2_with (first | (go_at_call 53; (with_reducible refine (specTar0_c Fa A c xa _ ((h.alloc hBs _).alloc (by simp; omega) _) (by simp; omega) hm).mono ?_); rintro e w1 ⟨rfl, hb1⟩; have hz1 := hb1.size; (repeat (first | rw [World.size_alloc] at hz1 | rw [World.size_drew] at hz1 | rw [World.heap_drewN] at hz1 | rw [World.size_setCell] at hz1)); have hB : Below w.heap.size w w1 := Below.trans (by (repeat' (first | (with_reducible exact Below.refl _ _) | (with_reducible assumption) | (with_reducible refine below_drewN ?_ _) | (with_reducible refine Below.alloc ?_ ?_ _) | (with_reducible refine Below.drew ?_) | (with_reducible refine Below.setCell ?_ ?_ _) | go_size))) (hb1.mono (by go_size)); have hL1 := hb1; clear hb1; obtain ⟨hc1, hf1⟩ := bcell hL1) | (go_at_call 53; (with_reducible refine (specTar0_c Fb A' c' xb _ (((h'.alloc hBs' _).alloc (by simp; omega) _).below (hL1.mono (by simp; omega))) (by go_size) hm').mono ?_); rintro e w2 ⟨rfl, hb2⟩; have hz2 := hb2.size; (repeat (first | rw [World.size_alloc] at hz2 | rw [World.size_drew] at hz2 | rw [World.heap_drewN] at hz2 | rw [World.size_setCell] at hz2)); replace hB : Below w.heap.size w w2 := Below.trans (by (repeat' (first | (with_reducible exact Below.refl _ _) | (with_reducible assumption) | (with_reducible refine below_drewN ?_ _) | (with_reducible refine Below.alloc ?_ ?_ _) | (with_reducible refine Below.drew ?_) | (with_reducible refine Below.setCell ?_ ?_ _) | go_size))) (hb2.mono (by go_size)); (first | (refine extend_then hL1 hb2 ?_ ?_ (fun hq => ?_); (focus ((repeat' (first | (with_reducible exact Below.refl _ _) | (with_reducible assumption) | (with_reducible refine below_drewN ?_ _) | (with_reducible refine Below.alloc ?_ ?_ _) | (with_reducible refine Below.drew ?_) | (with_reducible refine Below.setCell ?_ ?_ _) | go_size)); done)); (focus (go_size; done)); replace hL1 := hq; clear hq hc1 hf1; obtain ⟨hc1, hf1⟩ := bcell hL1) | (clear hL1 hc1 hf1) | skip); have hL2 := hb2; clear hb2; obtain ⟨hc2, hf2⟩ := bcell hL2))
    (go_returns; exact ⟨by first | rfl | (simp; done) | (simp; omega), by (repeat' (first | (with_reducible exact Below.refl _ _) | (with_reducible assumption) | (with_reducible refine below_drewN ?_ _) | (with_reducible refine Below.alloc ?_ ?_ _) | (with_reducible refine Below.drew ?_) | (with_reducible refine Below.setCell ?_ ?_ _) | go_size))⟩)
  cases h2 : goodT Fb xb
  · rw [cheapR_no2 h2]
    go_enter Try.func24, Try.ntmps24
    go_wp2_with (first | (go_at_call 53; (with_reducible refine (specTar0_c Fa A c xa _ ((h.alloc hBs _).alloc (by simp; omega) _) (by simp; omega) hm).mono ?_); rintro e w1 ⟨rfl, hb1⟩; have hz1 := hb1.size; (repeat (first | rw [World.size_alloc] at hz1 | rw [World.size_drew] at hz1 | rw [World.heap_drewN] at hz1 | rw [World.size_setCell] at hz1)); have hB : Below w.heap.size w w1 := Below.trans (by (repeat' (first | (with_reducible exact Below.refl _ _) | (with_reducible assumption) | (with_reducible refine below_drewN ?_ _) | (with_reducible refine Below.alloc ?_ ?_ _) | (with_reducible refine Below.drew ?_) | (with_reducible refine Below.setCell ?_ ?_ _) | go_size))) (hb1.mono (by go_size)); have hL1 := hb1; clear hb1; obtain ⟨hc1, hf1⟩ := bcell hL1) | (go_at_call 53; (with_reducible refine (specTar0_c Fb A' c' xb _ (((h'.alloc hBs' _).alloc (by simp; omega) _).below (hL1.mono (by simp; omega))) (by go_size) hm').mono ?_); rintro e w2 ⟨rfl, hb2⟩; have hz2 := hb2.size; (repeat (first | rw [World.size_alloc] at hz2 | rw [World.size_drew] at hz2 | rw [World.heap_drewN] at hz2 | rw [World.size_setCell] at hz2)); replace hB : Below w.heap.size w w2 := Below.trans (by (repeat' (first | (with_reducible exact Below.refl _ _) | (with_reducible assumption) | (with_reducible refine below_drewN ?_ _) | (with_reducible refine Below.alloc ?_ ?_ _) | (with_reducible refine Below.drew ?_) | (with_reducible refine Below.setCell ?_ ?_ _) | go_size))) (hb2.mono (by go_size)); (first | (refine extend_then hL1 hb2 ?_ ?_ (fun hq => ?_); (focus ((repeat' (first | (with_reducible exact Below.refl _ _) | (with_reducible assumption) | (with_reducible refine below_drewN ?_ _) | (with_reducible refine Below.alloc ?_ ?_ _) | (with_reducible refine Below.drew ?_) | (with_reducible refine Below.setCell ?_ ?_ _) | go_size)); done)); (focus (go_size; done)); replace hL1 := hq; clear hq hc1 hf1; obtain ⟨hc1, hf1⟩ := bcell hL1) | (clear hL1 hc1 hf1) | skip); have hL2 := hb2; clear hb2; obtain ⟨hc2, hf2⟩ := bcell hL2))
    (go_returns; exact ⟨by first | rfl | (simp; done) | (simp; omega), by (repeat' (first | (with_reducible exact Below.refl _ _) | (with_reducible assumption) | (with_reducible refine below_drewN ?_ _) | (with_reducible refine Below.alloc ?_ ?_ _) | (with_reducible refine Below.drew ?_) | (with_reducible refine Below.setCell ?_ ?_ _) | go_size))⟩)
  have ga := goodT_out h1
  have gb := goodT_out h2
  have hr := cheapR_yes h1 h2
  have HR := Lib.hid hr
  clear hr
  have ca0 := costT_b h1 (v := 0) (by omega) (by omega)
  have cb0 := costT_b h2 (v := 0) (by omega) (by omega)
  have wf : IntKind.i64.wrap (Fa - Fb) = Fa - Fb := IntWalk.i64_in _ (by omega)
  by_cases hg : Fa - Fb > 0
  · have hv := HR.out.trans (cheapF_is (n := 0) ⟨by omega, by omega, by rw [cost_zero h1, cost_zero h2]; omega, fun j hj hj2 => by omega⟩)
    have HV := Lib.hid hv
    clear hv
    go_enter Try.func24, Try.ntmps24
    go_wp2_with (first | (go_at_call 53; (with_reducible refine (specTar0_c Fa A c xa _ ((h.alloc hBs _).alloc (by simp; omega) _) (by simp; omega) hm).mono ?_); rintro e w1 ⟨rfl, hb1⟩; have hz1 := hb1.size; (repeat (first | rw [World.size_alloc] at hz1 | rw [World.size_drew] at hz1 | rw [World.heap_drewN] at hz1 | rw [World.size_setCell] at hz1)); have hB : Below w.heap.size w w1 := Below.trans (by (repeat' (first | (with_reducible exact Below.refl _ _) | (with_reducible assumption) | (with_reducible refine below_drewN ?_ _) | (with_reducible refine Below.alloc ?_ ?_ _) | (with_reducible refine Below.drew ?_) | (with_reducible refine Below.setCell ?_ ?_ _) | go_size))) (hb1.mono (by go_size)); have hL1 := hb1; clear hb1; obtain ⟨hc1, hf1⟩ := bcell hL1) | (go_at_call 53; (with_reducible refine (specTar0_c Fb A' c' xb _ (((h'.alloc hBs' _).alloc (by simp; omega) _).below (hL1.mono (by simp; omega))) (by go_size) hm').mono ?_); rintro e w2 ⟨rfl, hb2⟩; have hz2 := hb2.size; (repeat (first | rw [World.size_alloc] at hz2 | rw [World.size_drew] at hz2 | rw [World.heap_drewN] at hz2 | rw [World.size_setCell] at hz2)); replace hB : Below w.heap.size w w2 := Below.trans (by (repeat' (first | (with_reducible exact Below.refl _ _) | (with_reducible assumption) | (with_reducible refine below_drewN ?_ _) | (with_reducible refine Below.alloc ?_ ?_ _) | (with_reducible refine Below.drew ?_) | (with_reducible refine Below.setCell ?_ ?_ _) | go_size))) (hb2.mono (by go_size)); (first | (refine extend_then hL1 hb2 ?_ ?_ (fun hq => ?_); (focus ((repeat' (first | (with_reducible exact Below.refl _ _) | (with_reducible assumption) | (with_reducible refine below_drewN ?_ _) | (with_reducible refine Below.alloc ?_ ?_ _) | (with_reducible refine Below.drew ?_) | (with_reducible refine Below.setCell ?_ ?_ _) | go_size)); done)); (focus (go_size; done)); replace hL1 := hq; clear hq hc1 hf1; obtain ⟨hc1, hf1⟩ := bcell hL1) | (clear hL1 hc1 hf1) | skip); have hL2 := hb2; clear hb2; obtain ⟨hc2, hf2⟩ := bcell hL2))
    go_returns
    exact ⟨by rw [HV.out]; rfl, by (repeat' (first | (with_reducible exact Below.refl _ _) | (with_reducible assumption) | (with_reducible refine below_drewN ?_ _) | (with_reducible refine Below.alloc ?_ ?_ _) | (with_reducible refine Below.drew ?_) | (with_reducible refine Below.setCell ?_ ?_ _) | go_size))⟩
  have hgd : decide (0 < Fa - Fb) = false := by simp; omega
  go_enter Try.func24, Try.ntmps24
  go_wp2_with (first | (go_at_call 53; (with_reducible refine (specTar0_c Fa A c xa _ ((h.alloc hBs _).alloc (by simp; omega) _) (by simp; omega) hm).mono ?_); rintro e w1 ⟨rfl, hb1⟩; have hz1 := hb1.size; (repeat (first | rw [World.size_alloc] at hz1 | rw [World.size_drew] at hz1 | rw [World.heap_drewN] at hz1 | rw [World.size_setCell] at hz1)); have hB : Below w.heap.size w w1 := Below.trans (by (repeat' (first | (with_reducible exact Below.refl _ _) | (with_reducible assumption) | (with_reducible refine below_drewN ?_ _) | (with_reducible refine Below.alloc ?_ ?_ _) | (with_reducible refine Below.drew ?_) | (with_reducible refine Below.setCell ?_ ?_ _) | go_size))) (hb1.mono (by go_size)); have hL1 := hb1; clear hb1; obtain ⟨hc1, hf1⟩ := bcell hL1) | (go_at_call 53; (with_reducible refine (specTar0_c Fb A' c' xb _ (((h'.alloc hBs' _).alloc (by simp; omega) _).below (hL1.mono (by simp; omega))) (by go_size) hm').mono ?_); rintro e w2 ⟨rfl, hb2⟩; have hz2 := hb2.size; (repeat (first | rw [World.size_alloc] at hz2 | rw [World.size_drew] at hz2 | rw [World.heap_drewN] at hz2 | rw [World.size_setCell] at hz2)); replace hB : Below w.heap.size w w2 := Below.trans (by (repeat' (first | (with_reducible exact Below.refl _ _) | (with_reducible assumption) | (with_reducible refine below_drewN ?_ _) | (with_reducible refine Below.alloc ?_ ?_ _) | (with_reducible refine Below.drew ?_) | (with_reducible refine Below.setCell ?_ ?_ _) | go_size))) (hb2.mono (by go_size)); (first | (refine extend_then hL1 hb2 ?_ ?_ (fun hq => ?_); (focus ((repeat' (first | (with_reducible exact Below.refl _ _) | (with_reducible assumption) | (with_reducible refine below_drewN ?_ _) | (with_reducible refine Below.alloc ?_ ?_ _) | (with_reducible refine Below.drew ?_) | (with_reducible refine Below.setCell ?_ ?_ _) | go_size)); done)); (focus (go_size; done)); replace hL1 := hq; clear hq hc1 hf1; obtain ⟨hc1, hf1⟩ := bcell hL1) | (clear hL1 hc1 hf1) | skip); have hL2 := hb2; clear hb2; obtain ⟨hc2, hf2⟩ := bcell hL2))
  have hra := ((h.alloc hBs (.cells #[.int .i64 Fa, .slice A xa.length c] 29)).alloc (by simp; omega) (.cells #[.int .i64 Fb, .slice A' xb.length c'] 29)).below (hL1.mono (by simp; omega))
  have hrb := ((h'.alloc hBs' (.cells #[.int .i64 Fa, .slice A xa.length c] 29)).alloc (by simp; omega) (.cells #[.int .i64 Fb, .slice A' xb.length c'] 29)).below (hL1.mono (by simp; omega))
  clear h h'
  go_loopw [6, 7, 8, 9] (fun gg ii kk vv wr => ∃ (z : Int) (i k : Nat), 0 ≤ z ∧ z ≤ 100000 ∧ gg = .int .i64 (costT Fa xa z - costT Fb xb z) ∧ ii = .int .i64 i ∧ kk = .int .i64 k ∧ vv = .int .i64 (z + 1) ∧ stands xa z i ∧ stands xb z k ∧ (∀ j : Int, 0 ≤ j → j < z + 1 → costT Fa xa j ≤ costT Fb xb j) ∧ ∃ n, wr = w2.drewN n) (fun _ _ _ vv _ => (100001 - intOf vv).toNat)
  case atStart => exact ⟨0, 0, 0, by omega, by omega, by rw [cost_zero h1, cost_zero h2], rfl, rfl, rfl, stands_zero h1, stands_zero h2, fun j hj hj2 => by (obtain rfl : j = 0 := by omega); rw [cost_zero h1, cost_zero h2]; omega, 0, rfl⟩
  case round =>
    clear ca0 cb0
    obtain ⟨z, i, k, z0, z1, rfl, rfl, rfl, rfl, sta, stb, hno, n, rfl⟩ := hrel
    by_cases hlt : z + 1 ≤ 100000
    · have ca := costT_b h1 z0 (by omega)
      have cb := costT_b h2 z0 (by omega)
      have ca1 := costT_b h1 (v := z + 1) (by omega) (by omega)
      have cb1 := costT_b h2 (v := z + 1) (by omega) (by omega)
      obtain ⟨b, off, xa1, ya, rfl, hxa, hbB, hc0, hc1'⟩ := hra.at_ sta.1
      obtain ⟨b', off', xb1, yb, rfl, hxb, hbB', hd0, hd1⟩ := hrb.at_ stb.1
      have hia0 : (i : Int) < (xa.length : Int) := by have := sta.1; omega
      have hib0 : (k : Int) < (xb.length : Int) := by have := stb.1; omega
      by_cases qa : xa1 < z + 1
      · by_cases qb : xb1 < z + 1
        · obtain ⟨ia1, ia2⟩ := stands_skip h1 sta (by omega) (by rw [up_of hxa]; exact qa)
          obtain ⟨b3, off3, xa', ya', hA3, hxa', hb3, e0, e1⟩ := hra.at_ ia1
          simp only [Option.some.injEq, Addr.mk.injEq, and_true] at hA3
          obtain ⟨rfl, rfl⟩ := hA3
          have hia : (i : Int) + 1 < (xa.length : Int) := by omega
          have wia : IntKind.i64.wrap ((i : Int) + 1) = (i : Int) + 1 := IntWalk.i64_in _ (by omega)
          have oka := goodT_xy h1 ia1 hxa'
          have pa := cost_next h1 z0 ia1 ia2
          rw [pr_of hxa'] at pa
          have SA := Lib.hid (holds_stands ia1 ia2)
          obtain ⟨ib1, ib2⟩ := stands_skip h2 stb (by omega) (by rw [up_of hxb]; exact qb)
          obtain ⟨b4, off4, xb', yb', hA4, hxb', hb4, f0, f1⟩ := hrb.at_ ib1
          simp only [Option.some.injEq, Addr.mk.injEq, and_true] at hA4
          obtain ⟨rfl, rfl⟩ := hA4
          have hib : (k : Int) + 1 < (xb.length : Int) := by omega
          have wib : IntKind.i64.wrap ((k : Int) + 1) = (k : Int) + 1 := IntWalk.i64_in _ (by omega)
          have okb := goodT_xy h2 ib1 hxb'
          have pb := cost_next h2 z0 ib1 ib2
          rw [pr_of hxb'] at pb
          have SB := Lib.hid (holds_stands ib1 ib2)
          have w1' : IntKind.i64.wrap (costT Fa xa z - costT Fb xb z + ya') = costT Fa xa z - costT Fb xb z + ya' := IntWalk.i64_in _ (by omega)
          have w2' : IntKind.i64.wrap (costT Fa xa z - costT Fb xb z + ya' - yb') = costT Fa xa z - costT Fb xb z + ya' - yb' := IntWalk.i64_in _ (by omega)
          have eq : costT Fa xa z - costT Fb xb z + ya' - yb' = costT Fa xa (z + 1) - costT Fb xb (z + 1) := by omega
          have EQ := Lib.hid eq
          by_cases hq : costT Fa xa z - costT Fb xb z + ya' - yb' > 0
          · have hv := HR.out.trans (cheapF_is (n := z + 1) ⟨by omega, by omega, by omega, fun j hj hj2 => hno j hj (by omega)⟩)
            have HV := Lib.hid hv
            clear hra hrb hno hv pa pb eq hxa hxb sta stb ia2 ib2  hxa' hxb'
            generalize costT Fa xa z = ca at *
            generalize costT Fb xb z = cb at *
            go_wp2
            go_quiet (fail)
            go_wp2
            go_returns
            exact ⟨by rw [HV.out]; rfl, by (repeat' (first | (with_reducible exact Below.refl _ _) | (with_reducible assumption) | (with_reducible refine below_drewN ?_ _) | (with_reducible refine Below.alloc ?_ ?_ _) | (with_reducible refine Below.drew ?_) | (with_reducible refine Below.setCell ?_ ?_ _) | go_size))⟩
          · have hqd : decide (0 < costT Fa xa z - costT Fb xb z + ya' - yb') = false := by simp; omega
            have hno2 : ∀ j : Int, 0 ≤ j → j < z + 1 + 1 → costT Fa xa j ≤ costT Fb xb j := fun j hj hj2 => by
              by_cases e : j = z + 1
              · subst e; omega
              · exact hno j hj (by omega)
            have HNO := Lib.hid hno2
            have wz : IntKind.i64.wrap (z + 1 + 1) = z + 1 + 1 := IntWalk.i64_in _ (by omega)
            clear hra hrb hno hno2 pa pb eq hxa hxb sta stb ia2 ib2  hxa' hxb'
            go_wp2
            go_quiet (fail)
            go_wp2
            go_roundw
            case rel => exact ⟨z + 1, i + 1, k + 1, by omega, by omega, by rw [EQ.out], by go_num, by go_num, by go_num, SA.out, SB.out, HNO.out, _, by first | rfl | exact World.drewN_drewN _ _ _⟩
            case measure => simp [intOf]; omega
        · obtain ⟨ia1, ia2⟩ := stands_skip h1 sta (by omega) (by rw [up_of hxa]; exact qa)
          obtain ⟨b3, off3, xa', ya', hA3, hxa', hb3, e0, e1⟩ := hra.at_ ia1
          simp only [Option.some.injEq, Addr.mk.injEq, and_true] at hA3
          obtain ⟨rfl, rfl⟩ := hA3
          have hia : (i : Int) + 1 < (xa.length : Int) := by omega
          have wia : IntKind.i64.wrap ((i : Int) + 1) = (i : Int) + 1 := IntWalk.i64_in _ (by omega)
          have oka := goodT_xy h1 ia1 hxa'
          have pa := cost_next h1 z0 ia1 ia2
          rw [pr_of hxa'] at pa
          have SA := Lib.hid (holds_stands ia1 ia2)
          have ib2 := stands_holds stb (by rw [up_of hxb]; exact qb)
          have okb := goodT_xy h2 stb.1 hxb
          have pb := cost_next h2 z0 stb.1 ib2
          rw [pr_of hxb] at pb
          have SB := Lib.hid (holds_stands stb.1 ib2)
          have qbd : decide (xb1 < z + 1) = false := by simp; omega
          have w1' : IntKind.i64.wrap (costT Fa xa z - costT Fb xb z + ya') = costT Fa xa z - costT Fb xb z + ya' := IntWalk.i64_in _ (by omega)
          have w2' : IntKind.i64.wrap (costT Fa xa z - costT Fb xb z + ya' - yb) = costT Fa xa z - costT Fb xb z + ya' - yb := IntWalk.i64_in _ (by omega)
          have eq : costT Fa xa z - costT Fb xb z + ya' - yb = costT Fa xa (z + 1) - costT Fb xb (z + 1) := by omega
          have EQ := Lib.hid eq
          by_cases hq : costT Fa xa z - costT Fb xb z + ya' - yb > 0
          · have hv := HR.out.trans (cheapF_is (n := z + 1) ⟨by omega, by omega, by omega, fun j hj hj2 => hno j hj (by omega)⟩)
            have HV := Lib.hid hv
            clear hra hrb hno hv pa pb eq hxa hxb sta stb ia2 ib2  hxa'
            generalize costT Fa xa z = ca at *
            generalize costT Fb xb z = cb at *
            go_wp2
            go_quiet (fail)
            go_wp2
            go_returns
            exact ⟨by rw [HV.out]; rfl, by (repeat' (first | (with_reducible exact Below.refl _ _) | (with_reducible assumption) | (with_reducible refine below_drewN ?_ _) | (with_reducible refine Below.alloc ?_ ?_ _) | (with_reducible refine Below.drew ?_) | (with_reducible refine Below.setCell ?_ ?_ _) | go_size))⟩
          · have hqd : decide (0 < costT Fa xa z - costT Fb xb z + ya' - yb) = false := by simp; omega
            have hno2 : ∀ j : Int, 0 ≤ j → j < z + 1 + 1 → costT Fa xa j ≤ costT Fb xb j := fun j hj hj2 => by
              by_cases e : j = z + 1
              · subst e; omega
              · exact hno j hj (by omega)
            have HNO := Lib.hid hno2
            have wz : IntKind.i64.wrap (z + 1 + 1) = z + 1 + 1 := IntWalk.i64_in _ (by omega)
            clear hra hrb hno hno2 pa pb eq hxa hxb sta stb ia2 ib2  hxa'
            go_wp2
            go_quiet (fail)
            go_wp2
            go_roundw
            case rel => exact ⟨z + 1, i + 1, k, by omega, by omega, by rw [EQ.out], by go_num, by go_num, by go_num, SA.out, SB.out, HNO.out, _, by first | rfl | exact World.drewN_drewN _ _ _⟩
            case measure => simp [intOf]; omega
      · by_cases qb : xb1 < z + 1
        · have ia2 := stands_holds sta (by rw [up_of hxa]; exact qa)
          have oka := goodT_xy h1 sta.1 hxa
          have pa := cost_next h1 z0 sta.1 ia2
          rw [pr_of hxa] at pa
          have SA := Lib.hid (holds_stands sta.1 ia2)
          have qad : decide (xa1 < z + 1) = false := by simp; omega
          obtain ⟨ib1, ib2⟩ := stands_skip h2 stb (by omega) (by rw [up_of hxb]; exact qb)
          obtain ⟨b4, off4, xb', yb', hA4, hxb', hb4, f0, f1⟩ := hrb.at_ ib1
          simp only [Option.some.injEq, Addr.mk.injEq, and_true] at hA4
          obtain ⟨rfl, rfl⟩ := hA4
          have hib : (k : Int) + 1 < (xb.length : Int) := by omega
          have wib : IntKind.i64.wrap ((k : Int) + 1) = (k : Int) + 1 := IntWalk.i64_in _ (by omega)
          have okb := goodT_xy h2 ib1 hxb'
          have pb := cost_next h2 z0 ib1 ib2
          rw [pr_of hxb'] at pb
          have SB := Lib.hid (holds_stands ib1 ib2)
          have w1' : IntKind.i64.wrap (costT Fa xa z - costT Fb xb z + ya) = costT Fa xa z - costT Fb xb z + ya := IntWalk.i64_in _ (by omega)
          have w2' : IntKind.i64.wrap (costT Fa xa z - costT Fb xb z + ya - yb') = costT Fa xa z - costT Fb xb z + ya - yb' := IntWalk.i64_in _ (by omega)
          have eq : costT Fa xa z - costT Fb xb z + ya - yb' = costT Fa xa (z + 1) - costT Fb xb (z + 1) := by omega
          have EQ := Lib.hid eq
          by_cases hq : costT Fa xa z - costT Fb xb z + ya - yb' > 0
          · have hv := HR.out.trans (cheapF_is (n := z + 1) ⟨by omega, by omega, by omega, fun j hj hj2 => hno j hj (by omega)⟩)
            have HV := Lib.hid hv
            clear hra hrb hno hv pa pb eq hxa hxb sta stb ia2 ib2  hxb'
            generalize costT Fa xa z = ca at *
            generalize costT Fb xb z = cb at *
            go_wp2
            go_quiet (fail)
            go_wp2
            go_returns
            exact ⟨by rw [HV.out]; rfl, by (repeat' (first | (with_reducible exact Below.refl _ _) | (with_reducible assumption) | (with_reducible refine below_drewN ?_ _) | (with_reducible refine Below.alloc ?_ ?_ _) | (with_reducible refine Below.drew ?_) | (with_reducible refine Below.setCell ?_ ?_ _) | go_size))⟩
          · have hqd : decide (0 < costT Fa xa z - costT Fb xb z + ya - yb') = false := by simp; omega
            have hno2 : ∀ j : Int, 0 ≤ j → j < z + 1 + 1 → costT Fa xa j ≤ costT Fb xb j := fun j hj hj2 => by
              by_cases e : j = z + 1
              · subst e; omega
              · exact hno j hj (by omega)
            have HNO := Lib.hid hno2
            have wz : IntKind.i64.wrap (z + 1 + 1) = z + 1 + 1 := IntWalk.i64_in _ (by omega)
            clear hra hrb hno hno2 pa pb eq hxa hxb sta stb ia2 ib2  hxb'
            go_wp2
            go_quiet (fail)
            go_wp2
            go_roundw
            case rel => exact ⟨z + 1, i, k + 1, by omega, by omega, by rw [EQ.out], by go_num, by go_num, by go_num, SA.out, SB.out, HNO.out, _, by first | rfl | exact World.drewN_drewN _ _ _⟩
            case measure => simp [intOf]; omega
        · have ia2 := stands_holds sta (by rw [up_of hxa]; exact qa)
          have oka := goodT_xy h1 sta.1 hxa
          have pa := cost_next h1 z0 sta.1 ia2
          rw [pr_of hxa] at pa
          have SA := Lib.hid (holds_stands sta.1 ia2)
          have qad : decide (xa1 < z + 1) = false := by simp; omega
          have ib2 := stands_holds stb (by rw [up_of hxb]; exact qb)
          have okb := goodT_xy h2 stb.1 hxb
          have pb := cost_next h2 z0 stb.1 ib2
          rw [pr_of hxb] at pb
          have SB := Lib.hid (holds_stands stb.1 ib2)
          have qbd : decide (xb1 < z + 1) = false := by simp; omega
          have w1' : IntKind.i64.wrap (costT Fa xa z - costT Fb xb z + ya) = costT Fa xa z - costT Fb xb z + ya := IntWalk.i64_in _ (by omega)
          have w2' : IntKind.i64.wrap (costT Fa xa z - costT Fb xb z + ya - yb) = costT Fa xa z - costT Fb xb z + ya - yb := IntWalk.i64_in _ (by omega)
          have eq : costT Fa xa z - costT Fb xb z + ya - yb = costT Fa xa (z + 1) - costT Fb xb (z + 1) := by omega
          have EQ := Lib.hid eq
          by_cases hq : costT Fa xa z - costT Fb xb z + ya - yb > 0
          · have hv := HR.out.trans (cheapF_is (n := z + 1) ⟨by omega, by omega, by omega, fun j hj hj2 => hno j hj (by omega)⟩)
            have HV := Lib.hid hv
            clear hra hrb hno hv pa pb eq hxa hxb sta stb ia2 ib2 
            generalize costT Fa xa z = ca at *
            generalize costT Fb xb z = cb at *
            go_wp2
            go_quiet (fail)
            go_wp2
            go_returns
            exact ⟨by rw [HV.out]; rfl, by (repeat' (first | (with_reducible exact Below.refl _ _) | (with_reducible assumption) | (with_reducible refine below_drewN ?_ _) | (with_reducible refine Below.alloc ?_ ?_ _) | (with_reducible refine Below.drew ?_) | (with_reducible refine Below.setCell ?_ ?_ _) | go_size))⟩
          · have hqd : decide (0 < costT Fa xa z - costT Fb xb z + ya - yb) = false := by simp; omega
            have hno2 : ∀ j : Int, 0 ≤ j → j < z + 1 + 1 → costT Fa xa j ≤ costT Fb xb j := fun j hj hj2 => by
              by_cases e : j = z + 1
              · subst e; omega
              · exact hno j hj (by omega)
            have HNO := Lib.hid hno2
            have wz : IntKind.i64.wrap (z + 1 + 1) = z + 1 + 1 := IntWalk.i64_in _ (by omega)
            clear hra hrb hno hno2 pa pb eq hxa hxb sta stb ia2 ib2 
            go_wp2
            go_quiet (fail)
            go_wp2
            go_roundw
            case rel => exact ⟨z + 1, i, k, by omega, by omega, by rw [EQ.out], by go_num, by go_num, by go_num, SA.out, SB.out, HNO.out, _, by first | rfl | exact World.drewN_drewN _ _ _⟩
            case measure => simp [intOf]; omega
    · obtain rfl : z = 100000 := by omega
      have hv := HR.out.trans (cheapF_no fun j hj hj2 => hno j hj (by omega))
      have HV := Lib.hid hv
      clear hra hrb hno hv sta stb
      go_wp2
      go_returns
      exact ⟨by rw [HV.out]; rfl, by (repeat' (first | (with_reducible exact Below.refl _ _) | (with_reducible assumption) | (with_reducible refine below_drewN ?_ _) | (with_reducible refine Below.alloc ?_ ?_ _) | (with_reducible refine Below.drew ?_) | (with_reducible refine Below.setCell ?_ ?_ _) | go_size))⟩
end Go.Proofs.Ytbfaejacfhblkaa
