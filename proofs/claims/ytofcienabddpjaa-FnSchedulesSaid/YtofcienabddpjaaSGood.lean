/- Contracts: good schedules, the program, whole. -/
import Derived.Test.YtofcienabddpjaaSImpl
namespace Go.Proofs.Ytofcienabddpjaa
open Go.RowKit

theorem mapK_b {f : Nat → Int} {n : Nat} {m : Int} (h : ∀ k, k < n → 0 ≤ f k ∧ f k ≤ m) : ∀ j, j < (mapK f n).length → 0 ≤ (mapK f n).getD j 0 ∧ (mapK f n).getD j 0 ≤ m := fun j hj => by
  rw [mapK_len] at hj
  rw [mapK_get f hj]
  exact h j hj
theorem sumK_b {f : Nat → Int} {n : Nat} (hn : n ≤ 12) (h : ∀ k, k < n → 0 ≤ f k ∧ f k ≤ 300) : ∀ k, k ≤ (mapK f n).length → 0 ≤ sumI (mapK f n) k ∧ sumI (mapK f n) k ≤ 1000000000 := fun k hk => by
  have a := sumI_bound (mapK_b h) k hk
  rw [mapK_len] at hk
  omega
set_option maxHeartbeats 2000000 in
theorem implSched_c {B B' B3 : Nat} (L E M P : Int) (A A' C : Option Addr) (c c' d : Nat) (xs ys zs : List Int) (w : World) (h : RdI w B A xs) (h' : RdI w B' A' ys) (h3 : RdI w B3 C zs) (hS1 : B ≤ w.heap.size) (hS2 : B' ≤ w.heap.size) (hS3 : B3 ≤ w.heap.size) (hnil : A = none → c = 0) (hnil' : A' = none → c' = 0) (hm : xs.length ≤ 1048576) (hm' : ys.length ≤ 1048576) :
    Calls Try.prog 29 #[.agg #[.int .i64 L, .int .i64 E, .int .i64 M, .int .i64 P, .slice A xs.length c, .slice A' ys.length c'], .slice C zs.length d] w fun e w' => e = .returned (.bool (goodS L E M P xs ys zs)) ∧ Below w.heap.size w w' := by
  have good := implPump_c L E M P A A' c c' xs ys _ (h.alloc hS1 (.cells #[.int .i64 L, .int .i64 E, .int .i64 M, .int .i64 P, .slice A xs.length c, .slice A' ys.length c'] 28)) (h'.alloc hS2 _) (by simp; omega) (by simp; omega) hnil hnil' hm hm'
  cases g : goodPm L E M P xs ys
  · have e : goodS L E M P xs ys zs = false := by unfold goodS; rw [g]; rfl
    rw [g] at good
    rw [e]
    have GOOD := Lib.hid good
    clear e good g
    go_enter Try.func29, Try.ntmps29
    go_wp2_with (first | (go_at_call 17; refine (GOOD.out).mono ?_; rintro e w1 ⟨rfl, hb1⟩; have hz1 := hb1.size; (repeat (first | rw [World.size_alloc] at hz1 | rw [World.size_drew] at hz1 | rw [World.heap_drewN] at hz1 | rw [World.size_setCell] at hz1)); have hB : Below w.heap.size w w1 := Below.trans (by (repeat' (first | (with_reducible exact Below.refl _ _) | (with_reducible assumption) | (with_reducible refine below_drewN ?_ _) | (with_reducible refine Below.alloc ?_ ?_ _) | (with_reducible refine Below.drew ?_) | (with_reducible refine Below.setCell ?_ ?_ _) | go_size))) (hb1.mono (by go_size)); have hL1 := hb1; clear hb1; obtain ⟨hc1, hf1⟩ := bcell hL1))
    (go_returns; exact ⟨by first | rfl | (simp; done) | (simp; omega), by (repeat' (first | (with_reducible exact Below.refl _ _) | (with_reducible assumption) | (with_reducible refine below_drewN ?_ _) | (with_reducible refine Below.alloc ?_ ?_ _) | (with_reducible refine Below.drew ?_) | (with_reducible refine Below.setCell ?_ ?_ _) | go_size))⟩)
  rw [g] at good
  have GOOD := Lib.hid good
  clear good
  by_cases hl : zs.length = ys.length
  rotate_left
  · have e : goodS L E M P xs ys zs = false := by unfold goodS; rw [g]; simp [hl]
    have hn : ¬ (zs.length : Int) = (ys.length : Int) := by omega
    rw [e]
    clear e g hl
    go_enter Try.func29, Try.ntmps29
    go_wp2_with (first | (go_at_call 17; refine (GOOD.out).mono ?_; rintro e w1 ⟨rfl, hb1⟩; have hz1 := hb1.size; (repeat (first | rw [World.size_alloc] at hz1 | rw [World.size_drew] at hz1 | rw [World.heap_drewN] at hz1 | rw [World.size_setCell] at hz1)); have hB : Below w.heap.size w w1 := Below.trans (by (repeat' (first | (with_reducible exact Below.refl _ _) | (with_reducible assumption) | (with_reducible refine below_drewN ?_ _) | (with_reducible refine Below.alloc ?_ ?_ _) | (with_reducible refine Below.drew ?_) | (with_reducible refine Below.setCell ?_ ?_ _) | go_size))) (hb1.mono (by go_size)); have hL1 := hb1; clear hb1; obtain ⟨hc1, hf1⟩ := bcell hL1))
    (go_returns; exact ⟨by first | rfl | (simp; done) | (simp; omega), by (repeat' (first | (with_reducible exact Below.refl _ _) | (with_reducible assumption) | (with_reducible refine below_drewN ?_ _) | (with_reducible refine Below.alloc ?_ ?_ _) | (with_reducible refine Below.drew ?_) | (with_reducible refine Below.setCell ?_ ?_ _) | go_size))⟩)
  have hs : goodS L E M P xs ys zs = (volsB P zs && (calmT E M L zs ys zs.length && decide (L ≤ levT E M L zs ys zs.length))) := by unfold goodS; rw [g]; simp [hl]
  rw [hs]
  have hyz : ys.length = zs.length := hl.symm
  have run := fun (s : World) (a : RdI s s.heap.size A' ys) (b : RdI s s.heap.size C zs) (hv : volsB P zs = true) => runTank_c L E M P A' C c' d xs ys zs s a b (Nat.le_refl _) (Nat.le_refl _) g hl hv
  rw [hyz] at GOOD run ⊢
  have HYZ := Lib.hid hyz
  have G := Lib.hid g
  have H2 := Lib.hid h'
  have H3 := Lib.hid h3
  have RUN := Lib.hid run
  have hz12 : 1 ≤ zs.length ∧ zs.length ≤ 12 := by have := goodPm_out g; omega
  clear hs hl hyz g run h h' h3 hm'
  go_enter Try.func29, Try.ntmps29
  go_wp2_with (first | (go_at_call 17; refine (GOOD.out).mono ?_; rintro e w1 ⟨rfl, hb1⟩; have hz1 := hb1.size; (repeat (first | rw [World.size_alloc] at hz1 | rw [World.size_drew] at hz1 | rw [World.heap_drewN] at hz1 | rw [World.size_setCell] at hz1)); have hB : Below w.heap.size w w1 := Below.trans (by (repeat' (first | (with_reducible exact Below.refl _ _) | (with_reducible assumption) | (with_reducible refine below_drewN ?_ _) | (with_reducible refine Below.alloc ?_ ?_ _) | (with_reducible refine Below.drew ?_) | (with_reducible refine Below.setCell ?_ ?_ _) | go_size))) (hb1.mono (by go_size)); have hL1 := hb1; clear hb1; obtain ⟨hc1, hf1⟩ := bcell hL1))
  have Q3 := Lib.hid ((H3.out.below (hB.mono hS3)).more (Nat.le_trans hS3 hB.size))
  have Q2 := Lib.hid ((H2.out.below (hB.mono hS2)).more (Nat.le_trans hS2 hB.size))
  clear GOOD H2 H3
  go_loop [6, 21] (fun _ i => ∃ k : Nat, k ≤ zs.length ∧ i = .int .i64 k ∧ ∀ j, j < k → inB (zs.getD j 0) 0 P = true) (fun _ i => zs.length - (intOf i).toNat)
  case atStart => exact ⟨0, by omega, rfl, fun j hj => absurd hj (by omega)⟩
  case round =>
    obtain ⟨k, hk, rfl, hno⟩ := hrel
    by_cases hlt : k < zs.length
    · obtain ⟨b3, o3, z, rfl, hz, hb3, hcz⟩ := Q3.out.at_ hlt
      have hi : (k : Int) < (zs.length : Int) := by omega
      have W1 : IntKind.i64.wrap ((k : Int) + 1) = (k : Int) + 1 := IntWalk.i64_in _ (by omega)
      cases hv : inB z 0 P
      · have hr : volsB P zs = false := volsB_bad hlt (by rw [← hz]; exact hv)
        have HR := Lib.hid hr
        clear hr hno hz
        go_wp2_with (go_at_call 45; refine (inside_c _ _ _ _).mono ?_; rintro e w' ⟨rfl, rfl⟩)
        go_returns
        exact ⟨by rw [HR.out]; rfl, by (repeat' (first | (with_reducible exact Below.refl _ _) | (with_reducible assumption) | (with_reducible refine below_drewN ?_ _) | (with_reducible refine Below.alloc ?_ ?_ _) | (with_reducible refine Below.drew ?_) | (with_reducible refine Below.setCell ?_ ?_ _) | go_size))⟩
      · have HV : ∀ j, j < k + 1 → inB (zs.getD j 0) 0 P = true := fun j hj => by
          by_cases e : j = k
          · subst e; rw [← hz]; exact hv
          · exact hno j (by omega)
        have HVH := Lib.hid HV
        clear HV hno hz
        go_wp2_with (go_at_call 45; refine (inside_c _ _ _ _).mono ?_; rintro e w' ⟨rfl, rfl⟩)
        go_round
        case rel => exact ⟨k + 1, by omega, by go_num, HVH.out⟩
        case measure => simp [intOf]; omega
    · obtain rfl : k = zs.length := by omega
      have hv : volsB P zs = true := volsB_end hno
      have hyl := HYZ.out
      have HB : ∀ k, k < zs.length → (0 ≤ spK E M L zs ys k ∧ spK E M L zs ys k ≤ 300) ∧ (0 ≤ msK E M L zs ys k ∧ msK E M L zs ys k ≤ 300) := fun k hk => by
        have hh := hour_b (hour_of G.out (k := k) (zs := zs) (hno k hk) (by omega))
        have e1 : spK E M L zs ys k = spT M (levT E M L zs ys k) (zs.getD k 0) := rfl
        have e2 : msK E M L zs ys k = msT E M (levT E M L zs ys k) (zs.getD k 0) (ys.getD k 0) := rfl
        rw [e1, e2]
        omega
      have S := sum_calm (E := E) (M := M) (L := L) (zs := zs) (ys := ys) (fun k hk => (HB k hk).1.1) (fun k hk => (HB k hk).2.1) zs.length (Nat.le_refl _)
      have b1 := sumK_b hz12.2 (fun k hk => (HB k hk).1)
      have b2 := sumK_b hz12.2 (fun k hk => (HB k hk).2)
      have s1 := fun (A2 : Option Addr) (c2 : Nat) (s : World) (q : RdI s s.heap.size A2 (mapK (spK E M L zs ys) zs.length)) => sumInts_c A2 c2 _ s q b1 (by rw [mapK_len]; omega)
      have s2 := fun (A2 : Option Addr) (c2 : Nat) (s : World) (q : RdI s s.heap.size A2 (mapK (msK E M L zs ys) zs.length)) => sumInts_c A2 c2 _ s q b2 (by rw [mapK_len]; omega)
      have t1 := b1 zs.length (by rw [mapK_len]; omega)
      have t2 := b2 zs.length (by rw [mapK_len]; omega)
      simp only [mapK_len] at s1 s2
      obtain ⟨j, hj⟩ : ∃ j, zs.length = j + 1 := ⟨zs.length - 1, by omega⟩
      have en := fun (A1 A2 A3 : Option Addr) (c1 c2 c3 : Nat) (s : World) (q : RdI s s.heap.size A1 (mapK (fun k => levT E M L zs ys (k + 1)) zs.length)) => end_c A1 A2 A3 c1 c2 c3 j _ s (by rw [mapK_len]; exact hj) (by omega) q (Nat.le_refl _)
      have ej : (mapK (fun k => levT E M L zs ys (k + 1)) zs.length).getD j 0 = levT E M L zs ys zs.length := by rw [mapK_get _ (by omega), ← hj]
      rw [ej, ← hj] at en
      generalize sumI (mapK (spK E M L zs ys) zs.length) zs.length = S1 at s1 S t1
      generalize sumI (mapK (msK E M L zs ys) zs.length) zs.length = S2 at s2 S t2
      have W2 : IntKind.i64.wrap (S1 + S2) = S1 + S2 := IntWalk.i64_in _ (by omega)
      have SB : (S1 + S2 == 0) = calmT E M L zs ys zs.length := by rw [← S.2]; rfl
      have SH := Lib.hid SB
      have S1H := Lib.hid s1
      have S2H := Lib.hid s2
      have EH := Lib.hid en
      have HV := Lib.hid hv
      clear ej hj S b1 b2 t1 t2 s1 s2 en SB HB hno hv hyl
      go_wp2_with fail
      refine (RUN.out w1 (Q2.out.more (Nat.le_refl _)) (Q3.out.more (Nat.le_refl _)) HV.out).mono ?_
      rintro e w2 ⟨A1, A2, A3, c1, c2, c3, rfl, O, hb2⟩
      have hz2 := hb2.size; (repeat (first | rw [World.size_alloc] at hz2 | rw [World.size_drew] at hz2 | rw [World.heap_drewN] at hz2 | rw [World.size_setCell] at hz2)); replace hB : Below w.heap.size w w2 := Below.trans (by (repeat' (first | (with_reducible exact Below.refl _ _) | (with_reducible assumption) | (with_reducible refine below_drewN ?_ _) | (with_reducible refine Below.alloc ?_ ?_ _) | (with_reducible refine Below.drew ?_) | (with_reducible refine Below.setCell ?_ ?_ _) | go_size))) (hb2.mono (by go_size)); (first | (refine extend_then hL1 hb2 ?_ ?_ (fun hq => ?_); (focus ((repeat' (first | (with_reducible exact Below.refl _ _) | (with_reducible assumption) | (with_reducible refine below_drewN ?_ _) | (with_reducible refine Below.alloc ?_ ?_ _) | (with_reducible refine Below.drew ?_) | (with_reducible refine Below.setCell ?_ ?_ _) | go_size)); done)); (focus (go_size; done)); replace hL1 := hq; clear hq hc1 hf1; obtain ⟨hc1, hf1⟩ := bcell hL1) | (clear hL1 hc1 hf1) | skip); have hL2 := hb2; clear hb2; obtain ⟨hc2, hf2⟩ := bcell hL2
      go_wp2_with fail
      obtain ⟨W, hW⟩ : ∃ W, W = w2.alloc (.cells #[.slice A1 zs.length c1, .slice A2 zs.length c2, .slice A3 zs.length c3] 80) := ⟨_, rfl⟩
      rw [← hW]
      have R1 : RdI W W.heap.size A1 (mapK (fun k => levT E M L zs ys (k + 1)) zs.length) := by
        have o : OwnI w2 (w1.heap.size + 1 + 1 + 1) (.slice A1 (mapK (fun k => levT E M L zs ys (k + 1)) zs.length).length c1) (mapK (fun k => levT E M L zs ys (k + 1)) zs.length) := by rw [mapK_len]; exact O.o1
        rw [hW]; exact (o.alloc _).rd
      have d0 : W.cell? ⟨w2.heap.size, 0, none⟩ = some (.slice A1 zs.length c1) := by rw [hW]; simp [go_sem]
      have R1H : ∀ s : After W, RdI s.w s.w.heap.size A1 (mapK (fun k => levT E M L zs ys (k + 1)) zs.length) := fun s => (R1.below s.h).more s.h.size
      have R2 : RdI W W.heap.size A2 (mapK (spK E M L zs ys) zs.length) := by
        have o : OwnI w2 (w1.heap.size + 1 + 1 + 1) (.slice A2 (mapK (spK E M L zs ys) zs.length).length c2) (mapK (spK E M L zs ys) zs.length) := by rw [mapK_len]; exact O.o2
        rw [hW]; exact (o.alloc _).rd
      have d1 : W.cell? ⟨w2.heap.size, 1, none⟩ = some (.slice A2 zs.length c2) := by rw [hW]; simp [go_sem]
      have R2H : ∀ s : After W, RdI s.w s.w.heap.size A2 (mapK (spK E M L zs ys) zs.length) := fun s => (R2.below s.h).more s.h.size
      have R3 : RdI W W.heap.size A3 (mapK (msK E M L zs ys) zs.length) := by
        have o : OwnI w2 (w1.heap.size + 1 + 1 + 1) (.slice A3 (mapK (msK E M L zs ys) zs.length).length c3) (mapK (msK E M L zs ys) zs.length) := by rw [mapK_len]; exact O.o3
        rw [hW]; exact (o.alloc _).rd
      have d2 : W.cell? ⟨w2.heap.size, 2, none⟩ = some (.slice A3 zs.length c3) := by rw [hW]; simp [go_sem]
      have R3H : ∀ s : After W, RdI s.w s.w.heap.size A3 (mapK (msK E M L zs ys) zs.length) := fun s => (R3.below s.h).more s.h.size
      have p0 : W.cell? ⟨w.heap.size, 0, none⟩ = some (.int .i64 L) := by rw [hW]; simp [*, go_sem]
      have BW : Below w.heap.size w W := by rw [hW]; (repeat' (first | (with_reducible exact Below.refl _ _) | (with_reducible assumption) | (with_reducible refine below_drewN ?_ _) | (with_reducible refine Below.alloc ?_ ?_ _) | (with_reducible refine Below.drew ?_) | (with_reducible refine Below.setCell ?_ ?_ _) | go_size))
      have zW := BW.size
      have K1 := Lib.hid R1H
      have K2 := Lib.hid R2H
      have K3 := Lib.hid R3H
      clear R1 R2 R3 R1H R2H R3H O hW hB hL1 hc1 hf1 hL2 hc2 hf2 hz1 hz2 Q2 Q3 RUN hz12
      have SB := SH.out
      cases hq : calmT E M L zs ys zs.length
      · rw [hq] at SB
        (refine wp_region_after (by kernel_rfl) (by kernel_rfl) (fun hAf => ?_); (repeat (go_big_quiet_step (first | (go_at_call 62; first | (with_reducible exact callsAfter_same (S1H.out _ _ _ (K2.out _))) | (with_reducible exact callsAfter_same (S2H.out _ _ _ (K3.out _)))) | (go_at_call 63; exact callsAfter (EH.out _ _ _ _ _ _ _ (K1.out _)))))); refine wpQuiet_nil ?_; intro w3 hw'; have hb3 := after_out hw'; clear hw' hAf; have hz3 := hb3.size; (repeat (first | rw [World.size_alloc] at hz3 | rw [World.size_drew] at hz3 | rw [World.heap_drewN] at hz3 | rw [World.size_setCell] at hz3)); replace hB : Below w.heap.size w w3 := Below.trans (by (repeat' (first | (with_reducible exact Below.refl _ _) | (with_reducible assumption) | (with_reducible refine below_drewN ?_ _) | (with_reducible refine Below.alloc ?_ ?_ _) | (with_reducible refine Below.drew ?_) | (with_reducible refine Below.setCell ?_ ?_ _) | go_size))) (hb3.mono (by go_size)); (first | (refine extend_then hL1 hb3 ?_ ?_ (fun hq => ?_); (focus ((repeat' (first | (with_reducible exact Below.refl _ _) | (with_reducible assumption) | (with_reducible refine below_drewN ?_ _) | (with_reducible refine Below.alloc ?_ ?_ _) | (with_reducible refine Below.drew ?_) | (with_reducible refine Below.setCell ?_ ?_ _) | go_size)); done)); (focus (go_size; done)); replace hL1 := hq; clear hq hc1 hf1; obtain ⟨hc1, hf1⟩ := bcell hL1) | (clear hL1 hc1 hf1) | skip); (first | (refine extend_then hL2 hb3 ?_ ?_ (fun hq => ?_); (focus ((repeat' (first | (with_reducible exact Below.refl _ _) | (with_reducible assumption) | (with_reducible refine below_drewN ?_ _) | (with_reducible refine Below.alloc ?_ ?_ _) | (with_reducible refine Below.drew ?_) | (with_reducible refine Below.setCell ?_ ?_ _) | go_size)); done)); (focus (go_size; done)); replace hL2 := hq; clear hq hc2 hf2; obtain ⟨hc2, hf2⟩ := bcell hL2) | (clear hL2 hc2 hf2) | skip); have hL3 := hb3; clear hb3; obtain ⟨hc3, hf3⟩ := bcell hL3)
        go_wp2
        go_returns
        exact ⟨by first | rfl | (simp; done) | simp [*], by (repeat' (first | (with_reducible exact Below.refl _ _) | (with_reducible assumption) | (with_reducible refine below_drewN ?_ _) | (with_reducible refine Below.alloc ?_ ?_ _) | (with_reducible refine Below.drew ?_) | (with_reducible refine Below.setCell ?_ ?_ _) | go_size))⟩
      · rw [hq] at SB
        (refine wp_region_after (by kernel_rfl) (by kernel_rfl) (fun hAf => ?_); (repeat (go_big_quiet_step (first | (go_at_call 62; first | (with_reducible exact callsAfter_same (S1H.out _ _ _ (K2.out _))) | (with_reducible exact callsAfter_same (S2H.out _ _ _ (K3.out _)))) | (go_at_call 63; exact callsAfter (EH.out _ _ _ _ _ _ _ (K1.out _)))))); refine wpQuiet_nil ?_; intro w3 hw'; have hb3 := after_out hw'; clear hw' hAf; have hz3 := hb3.size; (repeat (first | rw [World.size_alloc] at hz3 | rw [World.size_drew] at hz3 | rw [World.heap_drewN] at hz3 | rw [World.size_setCell] at hz3)); replace hB : Below w.heap.size w w3 := Below.trans (by (repeat' (first | (with_reducible exact Below.refl _ _) | (with_reducible assumption) | (with_reducible refine below_drewN ?_ _) | (with_reducible refine Below.alloc ?_ ?_ _) | (with_reducible refine Below.drew ?_) | (with_reducible refine Below.setCell ?_ ?_ _) | go_size))) (hb3.mono (by go_size)); (first | (refine extend_then hL1 hb3 ?_ ?_ (fun hq => ?_); (focus ((repeat' (first | (with_reducible exact Below.refl _ _) | (with_reducible assumption) | (with_reducible refine below_drewN ?_ _) | (with_reducible refine Below.alloc ?_ ?_ _) | (with_reducible refine Below.drew ?_) | (with_reducible refine Below.setCell ?_ ?_ _) | go_size)); done)); (focus (go_size; done)); replace hL1 := hq; clear hq hc1 hf1; obtain ⟨hc1, hf1⟩ := bcell hL1) | (clear hL1 hc1 hf1) | skip); (first | (refine extend_then hL2 hb3 ?_ ?_ (fun hq => ?_); (focus ((repeat' (first | (with_reducible exact Below.refl _ _) | (with_reducible assumption) | (with_reducible refine below_drewN ?_ _) | (with_reducible refine Below.alloc ?_ ?_ _) | (with_reducible refine Below.drew ?_) | (with_reducible refine Below.setCell ?_ ?_ _) | go_size)); done)); (focus (go_size; done)); replace hL2 := hq; clear hq hc2 hf2; obtain ⟨hc2, hf2⟩ := bcell hL2) | (clear hL2 hc2 hf2) | skip); have hL3 := hb3; clear hb3; obtain ⟨hc3, hf3⟩ := bcell hL3)
        go_wp2
        go_returns
        exact ⟨by rw [HV.out]; first | rfl | (simp; done) | simp [*], by (repeat' (first | (with_reducible exact Below.refl _ _) | (with_reducible assumption) | (with_reducible refine below_drewN ?_ _) | (with_reducible refine Below.alloc ?_ ?_ _) | (with_reducible refine Below.drew ?_) | (with_reducible refine Below.setCell ?_ ?_ _) | go_size))⟩
end Go.Proofs.Ytofcienabddpjaa
