/- Contracts: good schedules, the reference. -/
import Derived.Test.YtofcienabddpjaaSWalk
namespace Go.Proofs.Ytofcienabddpjaa
open Go.RowKit

theorem hour_of {L E M P : Int} {xs ys zs : List Int} {k : Nat} (g : goodPm L E M P xs ys = true) (hv : inB (zs.getD k 0) 0 P = true) (hk : k < ys.length) : HourB E M (levT E M L zs ys k) (zs.getD k 0) (ys.getD k 0) := by
  obtain ⟨g1, g2, g3, g4, g5, g6, g7, g8, g9, g10, g11⟩ := goodPm_out g
  have hy := allH_out g11
  have a := levT_b (zs := zs) g2 g3 hy k (by omega)
  have b := hy k hk
  have d := inB_out hv
  exact ⟨by omega, by omega, by omega, by omega, by omega, by omega, by omega, by omega, by omega, by omega⟩
set_option maxHeartbeats 2000000 in
theorem l13Schedule_c {B B' B3 : Nat} (L E M P : Int) (A A' C : Option Addr) (c c' d : Nat) (xs ys zs : List Int) (w : World) (h : RdI w B A xs) (h' : RdI w B' A' ys) (h3 : RdI w B3 C zs) (hS1 : B ≤ w.heap.size) (hS2 : B' ≤ w.heap.size) (hS3 : B3 ≤ w.heap.size) (hm : xs.length ≤ 1048576) (hm' : ys.length ≤ 1048576) :
    Calls Try.prog 60 #[.agg #[.int .i64 L, .int .i64 E, .int .i64 M, .int .i64 P, .slice A xs.length c, .slice A' ys.length c'], .slice C zs.length d] w fun e w' => e = .returned (.bool (goodS L E M P xs ys zs)) ∧ Below w.heap.size w w' := by
  have good := l13Good_c L E M P A A' c c' xs ys _ (h.alloc hS1 (.cells #[.int .i64 L, .int .i64 E, .int .i64 M, .int .i64 P, .slice A xs.length c, .slice A' ys.length c'] 28)) (h'.alloc hS2 _) (by simp; omega) (by simp; omega) hm hm'
  cases g : goodPm L E M P xs ys
  · have e : goodS L E M P xs ys zs = false := by unfold goodS; rw [g]; rfl
    rw [g] at good
    rw [e]
    have GOOD := Lib.hid good
    clear e good g
    go_enter Try.func60, Try.ntmps60
    go_wp2_with (first | (go_at_call 57; refine (GOOD.out).mono ?_; rintro e w1 ⟨rfl, hb1⟩; have hz1 := hb1.size; (repeat (first | rw [World.size_alloc] at hz1 | rw [World.size_drew] at hz1 | rw [World.heap_drewN] at hz1 | rw [World.size_setCell] at hz1)); have hB : Below w.heap.size w w1 := Below.trans (by (repeat' (first | (with_reducible exact Below.refl _ _) | (with_reducible assumption) | (with_reducible refine below_drewN ?_ _) | (with_reducible refine Below.alloc ?_ ?_ _) | (with_reducible refine Below.drew ?_) | (with_reducible refine Below.setCell ?_ ?_ _) | go_size))) (hb1.mono (by go_size)); have hL1 := hb1; clear hb1; obtain ⟨hc1, hf1⟩ := bcell hL1))
    (go_returns; exact ⟨by first | rfl | (simp; done) | (simp; omega), by (repeat' (first | (with_reducible exact Below.refl _ _) | (with_reducible assumption) | (with_reducible refine below_drewN ?_ _) | (with_reducible refine Below.alloc ?_ ?_ _) | (with_reducible refine Below.drew ?_) | (with_reducible refine Below.setCell ?_ ?_ _) | go_size))⟩)
  obtain ⟨g1, g2, g3, g4, g5, g6, g7, g8, g9, g10, g11⟩ := goodPm_out g
  rw [g] at good
  have GOOD := Lib.hid good
  clear good
  by_cases hl : zs.length = ys.length
  rotate_left
  · have e : goodS L E M P xs ys zs = false := by unfold goodS; rw [g]; simp [hl]
    have hn : ¬ (zs.length : Int) = (xs.length : Int) := by omega
    rw [e]
    clear e g hl g9
    go_enter Try.func60, Try.ntmps60
    go_wp2_with (first | (go_at_call 57; refine (GOOD.out).mono ?_; rintro e w1 ⟨rfl, hb1⟩; have hz1 := hb1.size; (repeat (first | rw [World.size_alloc] at hz1 | rw [World.size_drew] at hz1 | rw [World.heap_drewN] at hz1 | rw [World.size_setCell] at hz1)); have hB : Below w.heap.size w w1 := Below.trans (by (repeat' (first | (with_reducible exact Below.refl _ _) | (with_reducible assumption) | (with_reducible refine below_drewN ?_ _) | (with_reducible refine Below.alloc ?_ ?_ _) | (with_reducible refine Below.drew ?_) | (with_reducible refine Below.setCell ?_ ?_ _) | go_size))) (hb1.mono (by go_size)); have hL1 := hb1; clear hb1; obtain ⟨hc1, hf1⟩ := bcell hL1))
    (go_returns; exact ⟨by first | rfl | (simp; done) | (simp; omega), by (repeat' (first | (with_reducible exact Below.refl _ _) | (with_reducible assumption) | (with_reducible refine below_drewN ?_ _) | (with_reducible refine Below.alloc ?_ ?_ _) | (with_reducible refine Below.drew ?_) | (with_reducible refine Below.setCell ?_ ?_ _) | go_size))⟩)
  have hs : goodS L E M P xs ys zs = (volsB P zs && (calmT E M L zs ys zs.length && decide (L ≤ levT E M L zs ys zs.length))) := by unfold goodS; rw [g]; simp [hl]
  rw [hs]
  have hxz : xs.length = zs.length := by omega
  rw [hxz]
  rw [hxz] at GOOD
  have HXZ := Lib.hid hxz
  have HYZ := Lib.hid (hl : zs.length = ys.length)
  have G := Lib.hid g
  clear hs hl hxz g9 g
  have hz12 : zs.length ≤ 12 := by have := HXZ.out; omega
  go_enter Try.func60, Try.ntmps60
  go_wp2_with (first | (go_at_call 57; refine (GOOD.out).mono ?_; rintro e w1 ⟨rfl, hb1⟩; have hz1 := hb1.size; (repeat (first | rw [World.size_alloc] at hz1 | rw [World.size_drew] at hz1 | rw [World.heap_drewN] at hz1 | rw [World.size_setCell] at hz1)); have hB : Below w.heap.size w w1 := Below.trans (by (repeat' (first | (with_reducible exact Below.refl _ _) | (with_reducible assumption) | (with_reducible refine below_drewN ?_ _) | (with_reducible refine Below.alloc ?_ ?_ _) | (with_reducible refine Below.drew ?_) | (with_reducible refine Below.setCell ?_ ?_ _) | go_size))) (hb1.mono (by go_size)); have hL1 := hb1; clear hb1; obtain ⟨hc1, hf1⟩ := bcell hL1))
  have H2 := Lib.hid h'
  have H3 := Lib.hid h3
  clear GOOD h h' h3 hm hm' g1 g2 g3 g4 g5 g6 g7 g8 g10 g11
  have hsz : w.heap.size < w1.heap.size := by have := hz1; omega
  go_loopw [5, 6, 7, 8] (fun l i _ _ wr => ∃ k : Nat, k ≤ zs.length ∧ i = .int .i64 k ∧ l = .int .i64 (levT E M L zs ys k) ∧ (∀ j, j < k → inB (zs.getD j 0) 0 P = true) ∧ calmT E M L zs ys k = true ∧ Below w.heap.size w wr ∧ w.heap.size < wr.heap.size ∧ wr.cell? ⟨w.heap.size, 0, none⟩ = some (.int .i64 L) ∧ wr.cell? ⟨w.heap.size, 1, none⟩ = some (.int .i64 E) ∧ wr.cell? ⟨w.heap.size, 2, none⟩ = some (.int .i64 M) ∧ wr.cell? ⟨w.heap.size, 3, none⟩ = some (.int .i64 P) ∧ wr.cell? ⟨w.heap.size, 4, none⟩ = some (.slice A zs.length c) ∧ wr.cell? ⟨w.heap.size, 5, none⟩ = some (.slice A' ys.length c')) (fun _ i _ _ _ => zs.length - (intOf i).toNat)
  case atStart => exact ⟨0, by omega, rfl, rfl, fun j hj => absurd hj (by omega), rfl, hB, hsz, by simp [*, go_sem], by simp [*, go_sem], by simp [*, go_sem], by simp [*, go_sem], by simp [*, go_sem], by simp [*, go_sem]⟩
  case round =>
    clear hB hL1 hc1 hf1 hz1 hsz
    obtain ⟨k, hk, rfl, rfl, hno, hcalm, hBr, hsz, c0, c1, c2, c3, c4, c5⟩ := hrel
    by_cases hlt : k < zs.length
    · have hky : k < ys.length := by have := HYZ.out; omega
      have P3 := H3.out.below (hBr.mono hS3)
      obtain ⟨b3, o3, z, rfl, hz, hb3, hcz⟩ := P3.at_ hlt
      have hnb : ¬ b3 = w.heap.size := by omega
      have hi : (k : Int) < (zs.length : Int) := by omega
      have W1 : IntKind.i64.wrap ((k : Int) + 1) = (k : Int) + 1 := IntWalk.i64_in _ (by omega)
      have lin := fun s => l1In_c z 0 P s
      cases hv : inB z 0 P
      · rw [hv] at lin
        have LIN := Lib.hid lin
        clear lin
        have hr : volsB P zs = false := volsB_bad hlt (by rw [← hz]; exact hv)
        have HR := Lib.hid hr
        clear hr hno hcalm hz P3
        go_wp2_with fail
        (refine wp_region_after (by kernel_rfl) (by kernel_rfl) (fun hAf => ?_); (repeat (go_big_quiet_step (first | (go_at_call 74; exact callsAfter_same (LIN.out _))))); refine wpQuiet_nil ?_; intro w2 hw'; have hb2 := after_out hw'; clear hw' hAf; have hz2 := hb2.size; (repeat (first | rw [World.size_alloc] at hz2 | rw [World.size_drew] at hz2 | rw [World.heap_drewN] at hz2 | rw [World.size_setCell] at hz2)); replace hB : Below w.heap.size w w2 := Below.trans (by (repeat' (first | (with_reducible exact Below.refl _ _) | (with_reducible assumption) | (with_reducible refine below_drewN ?_ _) | (with_reducible refine Below.alloc ?_ ?_ _) | (with_reducible refine Below.drew ?_) | (with_reducible refine Below.setCell ?_ ?_ _) | go_size))) (hb2.mono (by go_size)); (first | (refine extend_then hL1 hb2 ?_ ?_ (fun hq => ?_); (focus ((repeat' (first | (with_reducible exact Below.refl _ _) | (with_reducible assumption) | (with_reducible refine below_drewN ?_ _) | (with_reducible refine Below.alloc ?_ ?_ _) | (with_reducible refine Below.drew ?_) | (with_reducible refine Below.setCell ?_ ?_ _) | go_size)); done)); (focus (go_size; done)); replace hL1 := hq; clear hq hc1 hf1; obtain ⟨hc1, hf1⟩ := bcell hL1) | (clear hL1 hc1 hf1) | skip); have hL2 := hb2; clear hb2; obtain ⟨hc2, hf2⟩ := bcell hL2)
        go_wp2
        go_returns
        exact ⟨by rw [HR.out]; rfl, by (repeat' (first | (with_reducible exact Below.refl _ _) | (with_reducible assumption) | (with_reducible refine below_drewN ?_ _) | (with_reducible refine Below.alloc ?_ ?_ _) | (with_reducible refine Below.drew ?_) | (with_reducible refine Below.setCell ?_ ?_ _) | go_size))⟩
      · rw [hv] at lin
        have LIN := Lib.hid lin
        clear lin
        obtain ⟨u, hu⟩ : ∃ u, u = ys.getD k 0 := ⟨_, rfl⟩
        have hh := hour_of G.out (k := k) (zs := zs) (by rw [← hz]; exact hv) hky
        rw [← hz, ← hu] at hh
        have hn : levT E M L zs ys (k + 1) = nxT E M (levT E M L zs ys k) (zs.getD k 0) (ys.getD k 0) := rfl
        rw [← hz, ← hu] at hn
        have hc : calmK E M L zs ys k = decide (spT M (levT E M L zs ys k) (zs.getD k 0) + msT E M (levT E M L zs ys k) (zs.getD k 0) (ys.getD k 0) = 0) := rfl
        rw [← hz, ← hu] at hc
        have hcs : calmT E M L zs ys (k + 1) = (calmT E M L zs ys k && calmK E M L zs ys k) := rfl
        rw [hcalm, Bool.true_and] at hcs
        have P2 := H2.out.below (hBr.mono hS2)
        have NXT := fun (s : World) (q : RdI s s.heap.size A' ys) => l13Next_c L E M P (levT E M L zs ys k) z u k A A' c c' zs ys s q (Nat.le_refl _) hky hu hh
        rw [← hc, ← hn] at NXT
        have HV : ∀ j, j < k + 1 → inB (zs.getD j 0) 0 P = true := fun j hj => by
          by_cases e : j = k
          · subst e; rw [← hz]; exact hv
          · exact hno j (by omega)
        have HVH := Lib.hid HV
        have NH := Lib.hid NXT
        have HCS := Lib.hid hcs
        have P2H := Lib.hid P2
        cases hq : calmK E M L zs ys k
        · have hr : calmT E M L zs ys zs.length = false := calmT_bad hq hlt
          have HR := Lib.hid hr
          rw [hq] at NH
          clear hr hno hcalm hz hn hc hcs HV NXT hh hu P2 P3 HCS HVH
          go_wp2_with fail
          (refine wp_region_after (by kernel_rfl) (by kernel_rfl) (fun hAf => ?_); (repeat (go_big_quiet_step (first | (go_at_call 74; exact callsAfter_same (LIN.out _))))); refine wpQuiet_nil ?_; intro w2 hw'; have hb2 := after_out hw'; clear hw' hAf; have hz2 := hb2.size; (repeat (first | rw [World.size_alloc] at hz2 | rw [World.size_drew] at hz2 | rw [World.heap_drewN] at hz2 | rw [World.size_setCell] at hz2)); replace hB : Below w.heap.size w w2 := Below.trans (by (repeat' (first | (with_reducible exact Below.refl _ _) | (with_reducible assumption) | (with_reducible refine below_drewN ?_ _) | (with_reducible refine Below.alloc ?_ ?_ _) | (with_reducible refine Below.drew ?_) | (with_reducible refine Below.setCell ?_ ?_ _) | go_size))) (hb2.mono (by go_size)); (first | (refine extend_then hL1 hb2 ?_ ?_ (fun hq => ?_); (focus ((repeat' (first | (with_reducible exact Below.refl _ _) | (with_reducible assumption) | (with_reducible refine below_drewN ?_ _) | (with_reducible refine Below.alloc ?_ ?_ _) | (with_reducible refine Below.drew ?_) | (with_reducible refine Below.setCell ?_ ?_ _) | go_size)); done)); (focus (go_size; done)); replace hL1 := hq; clear hq hc1 hf1; obtain ⟨hc1, hf1⟩ := bcell hL1) | (clear hL1 hc1 hf1) | skip); have hL2 := hb2; clear hb2; obtain ⟨hc2, hf2⟩ := bcell hL2)
          go_wp2_with fail
          have hY : ∀ s : After w2, RdI s.w s.w.heap.size A' ys := fun s => (((P2H.out.more (Nat.le_trans hS2 hBr.size)).below (by first | exact hL2 | (exact hL2.mono (by omega)))).more hL2.size |>.below s.h).more s.h.size
          (refine wp_region_after (by kernel_rfl) (by kernel_rfl) (fun hAf => ?_); (repeat (go_big_quiet_step (first | (go_at_call 66; exact callsAfter (NH.out _ (hY _)))))); refine wpQuiet_nil ?_; intro w3 hw'; have hb3 := after_out hw'; clear hw' hAf; have hz3 := hb3.size; (repeat (first | rw [World.size_alloc] at hz3 | rw [World.size_drew] at hz3 | rw [World.heap_drewN] at hz3 | rw [World.size_setCell] at hz3)); replace hB : Below w.heap.size w w3 := Below.trans (by (repeat' (first | (with_reducible exact Below.refl _ _) | (with_reducible assumption) | (with_reducible refine below_drewN ?_ _) | (with_reducible refine Below.alloc ?_ ?_ _) | (with_reducible refine Below.drew ?_) | (with_reducible refine Below.setCell ?_ ?_ _) | go_size))) (hb3.mono (by go_size)); (first | (refine extend_then hL1 hb3 ?_ ?_ (fun hq => ?_); (focus ((repeat' (first | (with_reducible exact Below.refl _ _) | (with_reducible assumption) | (with_reducible refine below_drewN ?_ _) | (with_reducible refine Below.alloc ?_ ?_ _) | (with_reducible refine Below.drew ?_) | (with_reducible refine Below.setCell ?_ ?_ _) | go_size)); done)); (focus (go_size; done)); replace hL1 := hq; clear hq hc1 hf1; obtain ⟨hc1, hf1⟩ := bcell hL1) | (clear hL1 hc1 hf1) | skip); (first | (refine extend_then hL2 hb3 ?_ ?_ (fun hq => ?_); (focus ((repeat' (first | (with_reducible exact Below.refl _ _) | (with_reducible assumption) | (with_reducible refine below_drewN ?_ _) | (with_reducible refine Below.alloc ?_ ?_ _) | (with_reducible refine Below.drew ?_) | (with_reducible refine Below.setCell ?_ ?_ _) | go_size)); done)); (focus (go_size; done)); replace hL2 := hq; clear hq hc2 hf2; obtain ⟨hc2, hf2⟩ := bcell hL2) | (clear hL2 hc2 hf2) | skip); have hL3 := hb3; clear hb3; obtain ⟨hc3, hf3⟩ := bcell hL3)
          go_wp2
          go_returns
          exact ⟨by rw [HR.out]; simp, by (repeat' (first | (with_reducible exact Below.refl _ _) | (with_reducible assumption) | (with_reducible refine below_drewN ?_ _) | (with_reducible refine Below.alloc ?_ ?_ _) | (with_reducible refine Below.drew ?_) | (with_reducible refine Below.setCell ?_ ?_ _) | go_size))⟩
        · rw [hq] at NH
          rw [hq] at HCS
          clear hno hcalm hz hn hc hcs HV NXT hh hu P2 P3
          go_wp2_with fail
          (refine wp_region_after (by kernel_rfl) (by kernel_rfl) (fun hAf => ?_); (repeat (go_big_quiet_step (first | (go_at_call 74; exact callsAfter_same (LIN.out _))))); refine wpQuiet_nil ?_; intro w2 hw'; have hb2 := after_out hw'; clear hw' hAf; have hz2 := hb2.size; (repeat (first | rw [World.size_alloc] at hz2 | rw [World.size_drew] at hz2 | rw [World.heap_drewN] at hz2 | rw [World.size_setCell] at hz2)); replace hB : Below w.heap.size w w2 := Below.trans (by (repeat' (first | (with_reducible exact Below.refl _ _) | (with_reducible assumption) | (with_reducible refine below_drewN ?_ _) | (with_reducible refine Below.alloc ?_ ?_ _) | (with_reducible refine Below.drew ?_) | (with_reducible refine Below.setCell ?_ ?_ _) | go_size))) (hb2.mono (by go_size)); (first | (refine extend_then hL1 hb2 ?_ ?_ (fun hq => ?_); (focus ((repeat' (first | (with_reducible exact Below.refl _ _) | (with_reducible assumption) | (with_reducible refine below_drewN ?_ _) | (with_reducible refine Below.alloc ?_ ?_ _) | (with_reducible refine Below.drew ?_) | (with_reducible refine Below.setCell ?_ ?_ _) | go_size)); done)); (focus (go_size; done)); replace hL1 := hq; clear hq hc1 hf1; obtain ⟨hc1, hf1⟩ := bcell hL1) | (clear hL1 hc1 hf1) | skip); have hL2 := hb2; clear hb2; obtain ⟨hc2, hf2⟩ := bcell hL2)
          go_wp2_with fail
          have hY : ∀ s : After w2, RdI s.w s.w.heap.size A' ys := fun s => (((P2H.out.more (Nat.le_trans hS2 hBr.size)).below (by first | exact hL2 | (exact hL2.mono (by omega)))).more hL2.size |>.below s.h).more s.h.size
          (refine wp_region_after (by kernel_rfl) (by kernel_rfl) (fun hAf => ?_); (repeat (go_big_quiet_step (first | (go_at_call 66; exact callsAfter (NH.out _ (hY _)))))); refine wpQuiet_nil ?_; intro w3 hw'; have hb3 := after_out hw'; clear hw' hAf; have hz3 := hb3.size; (repeat (first | rw [World.size_alloc] at hz3 | rw [World.size_drew] at hz3 | rw [World.heap_drewN] at hz3 | rw [World.size_setCell] at hz3)); replace hB : Below w.heap.size w w3 := Below.trans (by (repeat' (first | (with_reducible exact Below.refl _ _) | (with_reducible assumption) | (with_reducible refine below_drewN ?_ _) | (with_reducible refine Below.alloc ?_ ?_ _) | (with_reducible refine Below.drew ?_) | (with_reducible refine Below.setCell ?_ ?_ _) | go_size))) (hb3.mono (by go_size)); (first | (refine extend_then hL1 hb3 ?_ ?_ (fun hq => ?_); (focus ((repeat' (first | (with_reducible exact Below.refl _ _) | (with_reducible assumption) | (with_reducible refine below_drewN ?_ _) | (with_reducible refine Below.alloc ?_ ?_ _) | (with_reducible refine Below.drew ?_) | (with_reducible refine Below.setCell ?_ ?_ _) | go_size)); done)); (focus (go_size; done)); replace hL1 := hq; clear hq hc1 hf1; obtain ⟨hc1, hf1⟩ := bcell hL1) | (clear hL1 hc1 hf1) | skip); (first | (refine extend_then hL2 hb3 ?_ ?_ (fun hq => ?_); (focus ((repeat' (first | (with_reducible exact Below.refl _ _) | (with_reducible assumption) | (with_reducible refine below_drewN ?_ _) | (with_reducible refine Below.alloc ?_ ?_ _) | (with_reducible refine Below.drew ?_) | (with_reducible refine Below.setCell ?_ ?_ _) | go_size)); done)); (focus (go_size; done)); replace hL2 := hq; clear hq hc2 hf2; obtain ⟨hc2, hf2⟩ := bcell hL2) | (clear hL2 hc2 hf2) | skip); have hL3 := hb3; clear hb3; obtain ⟨hc3, hf3⟩ := bcell hL3)
          go_wp2
          go_roundw
          case rel => exact ⟨k + 1, by omega, by go_num, rfl, HVH.out, HCS.out, by (repeat' (first | (with_reducible exact Below.refl _ _) | (with_reducible assumption) | (with_reducible refine below_drewN ?_ _) | (with_reducible refine Below.alloc ?_ ?_ _) | (with_reducible refine Below.drew ?_) | (with_reducible refine Below.setCell ?_ ?_ _) | go_size)), by first | omega | (simp; omega), by simp [*, go_sem], by simp [*, go_sem], by simp [*, go_sem], by simp [*, go_sem], by simp [*, go_sem], by simp [*, go_sem]⟩
          case measure => simp [intOf]; omega
    · obtain rfl : k = zs.length := by omega
      have hr : volsB P zs = true := volsB_end hno
      have HR := Lib.hid hr
      have HC := Lib.hid hcalm
      clear hno hcalm hr
      go_wp2
      go_returns
      exact ⟨by rw [HR.out, HC.out]; simp, by (repeat' (first | (with_reducible exact Below.refl _ _) | (with_reducible assumption) | (with_reducible refine below_drewN ?_ _) | (with_reducible refine Below.alloc ?_ ?_ _) | (with_reducible refine Below.drew ?_) | (with_reducible refine Below.setCell ?_ ?_ _) | go_size))⟩
end Go.Proofs.Ytofcienabddpjaa
