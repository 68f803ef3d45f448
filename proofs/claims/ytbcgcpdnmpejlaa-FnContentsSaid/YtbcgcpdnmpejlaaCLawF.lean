/- The great law on contents, walked. -/
import Derived.Test.YtbcgcpdnmpejlaaCFPlain
import Derived.Test.YtbcgcpdnmpejlaaCDraw3
import Derived.Test.YtbcgcpdnmpejlaaCTake
import Derived.Test.YtbcgcpdnmpejlaaCAdd
import Derived.Test.YtbcgcpdnmpejlaaCJoin
import Derived.Test.YtbcgcpdnmpejlaaCCmp
import Derived.Test.YtbcgcpdnmpejlaaCRest
namespace Go.Proofs.Ytbcgcpdnmpejlaa
open Go.RowKit

theorem rBig_c (A : Option Addr) (n c : Nat) (w : World) : Calls Try.prog 34 #[.slice A n c] w fun e w' => e = .returned (.bool (decide ((65536 : Int) < n))) ∧ w = w' := by
  go_enter Try.func34, Try.ntmps34
  go_wp2
  go_ret
  exact ⟨by simp, rfl⟩
set_option maxRecDepth 100000 in
set_option maxHeartbeats 4000000 in
theorem contents_law (A : Option Addr) (n c : Nat) (w : World) (h : RdB w w.heap.size A n) : Calls Try.prog 12 #[.slice A n c] w fun e w' => e = .returned (.bool true) ∧ Below w.heap.size w w' := by
  by_cases hn : (65536 : Int) < (n : Int)
  · have hd : decide ((65536 : Int) < n) = true := by simp; omega
    go_enter Try.func12, Try.ntmps12
    go_wp2_with (go_at_call 34; refine (rBig_c _ _ _ _).mono ?_; rintro e w' ⟨rfl, rfl⟩)
    (go_returns; exact ⟨by first | rfl | (simp; done) | (simp; omega), by (repeat' (first | (with_reducible exact Below.refl _ _) | (with_reducible assumption) | (with_reducible refine below_drewN ?_ _) | (with_reducible refine Below.alloc ?_ ?_ _) | (with_reducible refine Below.drew ?_) | (with_reducible refine Below.setCell ?_ ?_ _) | go_size))⟩)
  have hd : decide ((65536 : Int) < n) = false := by simp; omega
  go_enter Try.func12, Try.ntmps12
  go_wp2_with fail
  refine (rBig_c _ _ _ _).mono ?_
  rintro e w' ⟨rfl, rfl⟩
  go_wp2_with fail
  refine (drawTake_c A n c _ h).mono ?_
  rintro e w1 ⟨V, N, D, v, v0, v1, rfl, hb1⟩
  have hz1 := hb1.size; (repeat (first | rw [World.size_alloc] at hz1 | rw [World.size_drew] at hz1 | rw [World.heap_drewN] at hz1 | rw [World.size_setCell] at hz1)); have hB : Below w.heap.size w w1 := Below.trans (by (repeat' (first | (with_reducible exact Below.refl _ _) | (with_reducible assumption) | (with_reducible refine below_drewN ?_ _) | (with_reducible refine Below.alloc ?_ ?_ _) | (with_reducible refine Below.drew ?_) | (with_reducible refine Below.setCell ?_ ?_ _) | go_size))) (hb1.mono (by go_size)); have hL1 := hb1; clear hb1; obtain ⟨hc1, hf1⟩ := bcell hL1
  go_wp2_with fail; (go_at_call 27; refine (implTake_c V N D v _ (by omega) (by omega)).mono ?_; rintro e w2 ⟨rfl, hb2⟩; have hz2 := hb2.size; (repeat (first | rw [World.size_alloc] at hz2 | rw [World.size_drew] at hz2 | rw [World.heap_drewN] at hz2 | rw [World.size_setCell] at hz2)); replace hB : Below w.heap.size w w2 := Below.trans (by (repeat' (first | (with_reducible exact Below.refl _ _) | (with_reducible assumption) | (with_reducible refine below_drewN ?_ _) | (with_reducible refine Below.alloc ?_ ?_ _) | (with_reducible refine Below.drew ?_) | (with_reducible refine Below.setCell ?_ ?_ _) | go_size))) (hb2.mono (by go_size)); (first | (refine extend_then hL1 hb2 ?_ ?_ (fun hq => ?_); (focus ((repeat' (first | (with_reducible exact Below.refl _ _) | (with_reducible assumption) | (with_reducible refine below_drewN ?_ _) | (with_reducible refine Below.alloc ?_ ?_ _) | (with_reducible refine Below.drew ?_) | (with_reducible refine Below.setCell ?_ ?_ _) | go_size)); done)); (focus (go_size; done)); replace hL1 := hq; clear hq hc1 hf1; obtain ⟨hc1, hf1⟩ := bcell hL1) | (clear hL1 hc1 hf1) | skip); have hL2 := hb2; clear hb2; obtain ⟨hc2, hf2⟩ := bcell hL2)
  go_wp2_with fail; (go_at_call 26; refine (specTake_c V N D v _ (by omega) (by omega)).mono ?_; rintro e w3 ⟨rfl, hb3⟩; have hz3 := hb3.size; (repeat (first | rw [World.size_alloc] at hz3 | rw [World.size_drew] at hz3 | rw [World.heap_drewN] at hz3 | rw [World.size_setCell] at hz3)); replace hB : Below w.heap.size w w3 := Below.trans (by (repeat' (first | (with_reducible exact Below.refl _ _) | (with_reducible assumption) | (with_reducible refine below_drewN ?_ _) | (with_reducible refine Below.alloc ?_ ?_ _) | (with_reducible refine Below.drew ?_) | (with_reducible refine Below.setCell ?_ ?_ _) | go_size))) (hb3.mono (by go_size)); (first | (refine extend_then hL1 hb3 ?_ ?_ (fun hq => ?_); (focus ((repeat' (first | (with_reducible exact Below.refl _ _) | (with_reducible assumption) | (with_reducible refine below_drewN ?_ _) | (with_reducible refine Below.alloc ?_ ?_ _) | (with_reducible refine Below.drew ?_) | (with_reducible refine Below.setCell ?_ ?_ _) | go_size)); done)); (focus (go_size; done)); replace hL1 := hq; clear hq hc1 hf1; obtain ⟨hc1, hf1⟩ := bcell hL1) | (clear hL1 hc1 hf1) | skip); (first | (refine extend_then hL2 hb3 ?_ ?_ (fun hq => ?_); (focus ((repeat' (first | (with_reducible exact Below.refl _ _) | (with_reducible assumption) | (with_reducible refine below_drewN ?_ _) | (with_reducible refine Below.alloc ?_ ?_ _) | (with_reducible refine Below.drew ?_) | (with_reducible refine Below.setCell ?_ ?_ _) | go_size)); done)); (focus (go_size; done)); replace hL2 := hq; clear hq hc2 hf2; obtain ⟨hc2, hf2⟩ := bcell hL2) | (clear hL2 hc2 hf2) | skip); have hL3 := hb3; clear hb3; obtain ⟨hc3, hf3⟩ := bcell hL3)
  go_upto_region 8 with (fail)
  have F1 := take_cmp (V := V) (N := N) (D := D) (v := v)
  generalize takeC V N D v = T at *
  obtain ⟨T1, T2, T3, ok⟩ := T
  dsimp only at F1 hc3 hf3
  go_cut [71] (fun s wx => s = .bool (ok && decide (T1 > 0)) ∧ Below w.heap.size w wx ∧ (wx.cell? ⟨w1.heap.size, 0, none⟩ = some (.int .i64 (V)) ∧ wx.cell? ⟨w1.heap.size, 1, none⟩ = some (.int .i64 (N)) ∧ wx.cell? ⟨w1.heap.size, 2, none⟩ = some (.int .i64 (D))) ∧ (wx.cell? ⟨w2.heap.size, 0, none⟩ = some (.int .i64 (T1)) ∧ wx.cell? ⟨w2.heap.size, 1, none⟩ = some (.int .i64 (T2)) ∧ wx.cell? ⟨w2.heap.size, 2, none⟩ = some (.int .i64 (T3))))
  case first => as_aux_lemma =>
    cases ok
    · go_wp2_with fail
      go_meet
      exact ⟨rfl, by (repeat' (first | (with_reducible exact Below.refl _ _) | (with_reducible assumption) | (with_reducible refine below_drewN ?_ _) | (with_reducible refine Below.alloc ?_ ?_ _) | (with_reducible refine Below.drew ?_) | (with_reducible refine Below.setCell ?_ ?_ _) | go_size)), by (exact ⟨by simp (maxDischargeDepth := 6) [*, go_sem], by simp (maxDischargeDepth := 6) [*, go_sem], by simp (maxDischargeDepth := 6) [*, go_sem]⟩), by (exact ⟨by simp (maxDischargeDepth := 6) [*, go_sem], by simp (maxDischargeDepth := 6) [*, go_sem], by simp (maxDischargeDepth := 6) [*, go_sem]⟩)⟩
    · have hp : (decide (T1 > 0)) = decide (T1 > 0) := rfl
      go_wp2_with fail
      go_meet
      exact ⟨rfl, by (repeat' (first | (with_reducible exact Below.refl _ _) | (with_reducible assumption) | (with_reducible refine below_drewN ?_ _) | (with_reducible refine Below.alloc ?_ ?_ _) | (with_reducible refine Below.drew ?_) | (with_reducible refine Below.setCell ?_ ?_ _) | go_size)), by (exact ⟨by simp (maxDischargeDepth := 6) [*, go_sem], by simp (maxDischargeDepth := 6) [*, go_sem], by simp (maxDischargeDepth := 6) [*, go_sem]⟩), by (exact ⟨by simp (maxDischargeDepth := 6) [*, go_sem], by simp (maxDischargeDepth := 6) [*, go_sem], by simp (maxDischargeDepth := 6) [*, go_sem]⟩)⟩
  case rest => as_aux_lemma =>
    obtain ⟨rfl, hcB, ⟨a0, a1, a2⟩, ⟨b0, b1, b2⟩⟩ := hcut
    clear hB hL1 hc1 hf1 hL2 hc2 hf2 hL3 hc3 hf3 hz1 hz2 hz3
    have hzc := hcB.size
    go_upto_if 71 with (fail)
    go_cut [71] (fun _ wx => Below w.heap.size w wx)
    case first => as_aux_lemma =>
      cases ok
      · simp only [Bool.false_and]
        go_wp2_with fail
        go_meet
        exact hcB
      · simp only [Bool.true_and]
        by_cases hp : T1 > 0
        · obtain ⟨e0, eg⟩ := F1 rfl hp
          have e1 : (cmpC V N D T1 T2 T3).1 = 0 := by rw [e0]
          have e2 : (cmpC V N D T1 T2 T3).2 = true := by rw [e0]
          have hpd : decide (T1 > 0) = true := by simp; omega
          clear e0 F1
          go_wp2_with fail; (go_at_call 31; refine (implCmp_c V N D T1 T2 T3 _).mono ?_; rintro e w1 ⟨rfl, hb1⟩; have hz1 := hb1.size; (repeat (first | rw [World.size_alloc] at hz1 | rw [World.size_drew] at hz1 | rw [World.heap_drewN] at hz1 | rw [World.size_setCell] at hz1)); have hB : Below w.heap.size w w1 := Below.trans (by (repeat' (first | (with_reducible exact Below.refl _ _) | (with_reducible assumption) | (with_reducible refine below_drewN ?_ _) | (with_reducible refine Below.alloc ?_ ?_ _) | (with_reducible refine Below.drew ?_) | (with_reducible refine Below.setCell ?_ ?_ _) | go_size))) (hb1.mono (by go_size)); have hL1 := hb1; clear hb1; obtain ⟨hc1, hf1⟩ := bcell hL1)
          go_wp2_with (first | (go_at_call 16; refine (implGood_c _ _ _ _).mono ?_; rintro e w2 ⟨rfl, hb2⟩; have hz2 := hb2.size; (repeat (first | rw [World.size_alloc] at hz2 | rw [World.size_drew] at hz2 | rw [World.heap_drewN] at hz2 | rw [World.size_setCell] at hz2)); replace hB : Below w.heap.size w w2 := Below.trans (by (repeat' (first | (with_reducible exact Below.refl _ _) | (with_reducible assumption) | (with_reducible refine below_drewN ?_ _) | (with_reducible refine Below.alloc ?_ ?_ _) | (with_reducible refine Below.drew ?_) | (with_reducible refine Below.setCell ?_ ?_ _) | go_size))) (hb2.mono (by go_size)); (first | (refine extend_then hL1 hb2 ?_ ?_ (fun hq => ?_); (focus ((repeat' (first | (with_reducible exact Below.refl _ _) | (with_reducible assumption) | (with_reducible refine below_drewN ?_ _) | (with_reducible refine Below.alloc ?_ ?_ _) | (with_reducible refine Below.drew ?_) | (with_reducible refine Below.setCell ?_ ?_ _) | go_size)); done)); (focus (go_size; done)); replace hL1 := hq; clear hq hc1 hf1; obtain ⟨hc1, hf1⟩ := bcell hL1) | (clear hL1 hc1 hf1) | skip); have hL2 := hb2; clear hb2; obtain ⟨hc2, hf2⟩ := bcell hL2))
          go_meet
          (repeat' (first | (with_reducible exact Below.refl _ _) | (with_reducible assumption) | (with_reducible refine below_drewN ?_ _) | (with_reducible refine Below.alloc ?_ ?_ _) | (with_reducible refine Below.drew ?_) | (with_reducible refine Below.setCell ?_ ?_ _) | go_size))
        · have hpd : decide (T1 > 0) = false := by simp; omega
          go_wp2_with fail
          go_meet
          exact hcB
    case rest => as_aux_lemma =>
      clear F1 a0 a1 a2 b0 b1 b2 hcB hzc
      have hcB := hcut
      have hzc := hcB.size
      clear hcut
      go_wp2_with fail
      refine (drawAdd_c A n c _ ((h.below hcB).more hzc)).mono ?_
      rintro e w1 ⟨V, N, D, v, m, hvb, hmb, rfl, hb1⟩
      have hz1 := hb1.size; (repeat (first | rw [World.size_alloc] at hz1 | rw [World.size_drew] at hz1 | rw [World.heap_drewN] at hz1 | rw [World.size_setCell] at hz1)); have hB : Below w.heap.size w w1 := Below.trans (by (repeat' (first | (with_reducible exact Below.refl _ _) | (with_reducible assumption) | (with_reducible refine below_drewN ?_ _) | (with_reducible refine Below.alloc ?_ ?_ _) | (with_reducible refine Below.drew ?_) | (with_reducible refine Below.setCell ?_ ?_ _) | go_size))) (hb1.mono (by go_size)); have hL1 := hb1; clear hb1; obtain ⟨hc1, hf1⟩ := bcell hL1
      go_wp2_with fail; (go_at_call 29; refine (implAdd_c V N D v m _).mono ?_; rintro e w2 ⟨rfl, hb2⟩; have hz2 := hb2.size; (repeat (first | rw [World.size_alloc] at hz2 | rw [World.size_drew] at hz2 | rw [World.heap_drewN] at hz2 | rw [World.size_setCell] at hz2)); replace hB : Below w.heap.size w w2 := Below.trans (by (repeat' (first | (with_reducible exact Below.refl _ _) | (with_reducible assumption) | (with_reducible refine below_drewN ?_ _) | (with_reducible refine Below.alloc ?_ ?_ _) | (with_reducible refine Below.drew ?_) | (with_reducible refine Below.setCell ?_ ?_ _) | go_size))) (hb2.mono (by go_size)); (first | (refine extend_then hL1 hb2 ?_ ?_ (fun hq => ?_); (focus ((repeat' (first | (with_reducible exact Below.refl _ _) | (with_reducible assumption) | (with_reducible refine below_drewN ?_ _) | (with_reducible refine Below.alloc ?_ ?_ _) | (with_reducible refine Below.drew ?_) | (with_reducible refine Below.setCell ?_ ?_ _) | go_size)); done)); (focus (go_size; done)); replace hL1 := hq; clear hq hc1 hf1; obtain ⟨hc1, hf1⟩ := bcell hL1) | (clear hL1 hc1 hf1) | skip); have hL2 := hb2; clear hb2; obtain ⟨hc2, hf2⟩ := bcell hL2)
      go_wp2_with fail; (go_at_call 28; refine (specAdd_c V N D v m _).mono ?_; rintro e w3 ⟨rfl, hb3⟩; have hz3 := hb3.size; (repeat (first | rw [World.size_alloc] at hz3 | rw [World.size_drew] at hz3 | rw [World.heap_drewN] at hz3 | rw [World.size_setCell] at hz3)); replace hB : Below w.heap.size w w3 := Below.trans (by (repeat' (first | (with_reducible exact Below.refl _ _) | (with_reducible assumption) | (with_reducible refine below_drewN ?_ _) | (with_reducible refine Below.alloc ?_ ?_ _) | (with_reducible refine Below.drew ?_) | (with_reducible refine Below.setCell ?_ ?_ _) | go_size))) (hb3.mono (by go_size)); (first | (refine extend_then hL1 hb3 ?_ ?_ (fun hq => ?_); (focus ((repeat' (first | (with_reducible exact Below.refl _ _) | (with_reducible assumption) | (with_reducible refine below_drewN ?_ _) | (with_reducible refine Below.alloc ?_ ?_ _) | (with_reducible refine Below.drew ?_) | (with_reducible refine Below.setCell ?_ ?_ _) | go_size)); done)); (focus (go_size; done)); replace hL1 := hq; clear hq hc1 hf1; obtain ⟨hc1, hf1⟩ := bcell hL1) | (clear hL1 hc1 hf1) | skip); (first | (refine extend_then hL2 hb3 ?_ ?_ (fun hq => ?_); (focus ((repeat' (first | (with_reducible exact Below.refl _ _) | (with_reducible assumption) | (with_reducible refine below_drewN ?_ _) | (with_reducible refine Below.alloc ?_ ?_ _) | (with_reducible refine Below.drew ?_) | (with_reducible refine Below.setCell ?_ ?_ _) | go_size)); done)); (focus (go_size; done)); replace hL2 := hq; clear hq hc2 hf2; obtain ⟨hc2, hf2⟩ := bcell hL2) | (clear hL2 hc2 hf2) | skip); have hL3 := hb3; clear hb3; obtain ⟨hc3, hf3⟩ := bcell hL3)
      go_upto_region 17 with (fail)
      have F1 : m = 0 → (addC V N D v m).2.2.2 = true → V > 0 → (cmpC V N D (addC V N D v m).1 (addC V N D v m).2.1 (addC V N D v m).2.2.1).2 = true ∧ (cmpC V N D (addC V N D v m).1 (addC V N D v m).2.1 (addC V N D v m).2.2.1).1 ≠ 1 := fun e => by subst e; exact add_cmp
      generalize addC V N D v m = T at *
      obtain ⟨T1, T2, T3, ok⟩ := T
      dsimp only at F1 hc3 hf3
      go_cut [126] (fun s wx => s = .bool (ok && (decide (m = 0) && decide (V > 0))) ∧ Below w.heap.size w wx ∧ (wx.cell? ⟨w1.heap.size, 0, none⟩ = some (.int .i64 (V)) ∧ wx.cell? ⟨w1.heap.size, 1, none⟩ = some (.int .i64 (N)) ∧ wx.cell? ⟨w1.heap.size, 2, none⟩ = some (.int .i64 (D))) ∧ (wx.cell? ⟨w2.heap.size, 0, none⟩ = some (.int .i64 (T1)) ∧ wx.cell? ⟨w2.heap.size, 1, none⟩ = some (.int .i64 (T2)) ∧ wx.cell? ⟨w2.heap.size, 2, none⟩ = some (.int .i64 (T3))))
      case first => as_aux_lemma =>
        cases ok
        · go_wp2_with fail
          go_meet
          exact ⟨rfl, by (repeat' (first | (with_reducible exact Below.refl _ _) | (with_reducible assumption) | (with_reducible refine below_drewN ?_ _) | (with_reducible refine Below.alloc ?_ ?_ _) | (with_reducible refine Below.drew ?_) | (with_reducible refine Below.setCell ?_ ?_ _) | go_size)), by (exact ⟨by simp (maxDischargeDepth := 6) [*, go_sem], by simp (maxDischargeDepth := 6) [*, go_sem], by simp (maxDischargeDepth := 6) [*, go_sem]⟩), by (exact ⟨by simp (maxDischargeDepth := 6) [*, go_sem], by simp (maxDischargeDepth := 6) [*, go_sem], by simp (maxDischargeDepth := 6) [*, go_sem]⟩)⟩
        · by_cases e : m = 0
          · have em : (m == 0) = true := by simp [e]
            have E := Lib.hid e
            clear e
            go_wp2_with fail
            go_meet
            exact ⟨by simp [E.out], by (repeat' (first | (with_reducible exact Below.refl _ _) | (with_reducible assumption) | (with_reducible refine below_drewN ?_ _) | (with_reducible refine Below.alloc ?_ ?_ _) | (with_reducible refine Below.drew ?_) | (with_reducible refine Below.setCell ?_ ?_ _) | go_size)), by (exact ⟨by simp (maxDischargeDepth := 6) [*, go_sem], by simp (maxDischargeDepth := 6) [*, go_sem], by simp (maxDischargeDepth := 6) [*, go_sem]⟩), by (exact ⟨by simp (maxDischargeDepth := 6) [*, go_sem], by simp (maxDischargeDepth := 6) [*, go_sem], by simp (maxDischargeDepth := 6) [*, go_sem]⟩)⟩
          · have em : (m == 0) = false := by simp [e]
            go_wp2_with fail
            go_meet
            exact ⟨by simp [e], by (repeat' (first | (with_reducible exact Below.refl _ _) | (with_reducible assumption) | (with_reducible refine below_drewN ?_ _) | (with_reducible refine Below.alloc ?_ ?_ _) | (with_reducible refine Below.drew ?_) | (with_reducible refine Below.setCell ?_ ?_ _) | go_size)), by (exact ⟨by simp (maxDischargeDepth := 6) [*, go_sem], by simp (maxDischargeDepth := 6) [*, go_sem], by simp (maxDischargeDepth := 6) [*, go_sem]⟩), by (exact ⟨by simp (maxDischargeDepth := 6) [*, go_sem], by simp (maxDischargeDepth := 6) [*, go_sem], by simp (maxDischargeDepth := 6) [*, go_sem]⟩)⟩
      case rest => as_aux_lemma =>
        obtain ⟨rfl, hcB, ⟨a0, a1, a2⟩, ⟨b0, b1, b2⟩⟩ := hcut
        clear hB hL1 hc1 hf1 hL2 hc2 hf2 hL3 hc3 hf3 hz1 hz2 hz3
        have hzc := hcB.size
        go_upto_if 126 with (fail)
        go_cut [126] (fun _ wx => Below w.heap.size w wx)
        case first => as_aux_lemma =>
          by_cases k : ok = true ∧ m = 0 ∧ V > 0
          · obtain ⟨rfl, e, hp⟩ := k
            obtain ⟨e2, e1⟩ := F1 e rfl hp
            have e1b : ((cmpC V N D T1 T2 T3).1 == 1) = false := by simpa using e1
            have kb : (true && (decide (m = 0) && decide (V > 0))) = true := by simp [e, hp]
            rw [kb]
            clear kb F1 e hp
            go_wp2_with fail; (go_at_call 31; refine (implCmp_c V N D T1 T2 T3 _).mono ?_; rintro e w1 ⟨rfl, hb1⟩; have hz1 := hb1.size; (repeat (first | rw [World.size_alloc] at hz1 | rw [World.size_drew] at hz1 | rw [World.heap_drewN] at hz1 | rw [World.size_setCell] at hz1)); have hB : Below w.heap.size w w1 := Below.trans (by (repeat' (first | (with_reducible exact Below.refl _ _) | (with_reducible assumption) | (with_reducible refine below_drewN ?_ _) | (with_reducible refine Below.alloc ?_ ?_ _) | (with_reducible refine Below.drew ?_) | (with_reducible refine Below.setCell ?_ ?_ _) | go_size))) (hb1.mono (by go_size)); have hL1 := hb1; clear hb1; obtain ⟨hc1, hf1⟩ := bcell hL1)
            go_wp2_with fail
            go_meet
            (repeat' (first | (with_reducible exact Below.refl _ _) | (with_reducible assumption) | (with_reducible refine below_drewN ?_ _) | (with_reducible refine Below.alloc ?_ ?_ _) | (with_reducible refine Below.drew ?_) | (with_reducible refine Below.setCell ?_ ?_ _) | go_size))
          · have kb : (ok && (decide (m = 0) && decide (V > 0))) = false := by
              cases ok
              · rfl
              · by_cases e : m = 0
                · have : ¬ V > 0 := fun q => k ⟨rfl, e, q⟩
                  simp [this]
                · simp [e]
            rw [kb]
            clear k kb F1
            go_wp2_with fail
            go_meet
            exact hcB
        case rest => as_aux_lemma =>
          clear F1 a0 a1 a2 b0 b1 b2 hcB hzc
          have hcB := hcut
          have hzc := hcB.size
          clear hcut
          go_wp2_with fail
          refine (drawJoin_c A n c _ ((h.below hcB).more hzc)).mono ?_
          rintro e w1 ⟨V, N, D, V', N', D', rfl, hb1⟩
          have hz1 := hb1.size; (repeat (first | rw [World.size_alloc] at hz1 | rw [World.size_drew] at hz1 | rw [World.heap_drewN] at hz1 | rw [World.size_setCell] at hz1)); have hB : Below w.heap.size w w1 := Below.trans (by (repeat' (first | (with_reducible exact Below.refl _ _) | (with_reducible assumption) | (with_reducible refine below_drewN ?_ _) | (with_reducible refine Below.alloc ?_ ?_ _) | (with_reducible refine Below.drew ?_) | (with_reducible refine Below.setCell ?_ ?_ _) | go_size))) (hb1.mono (by go_size)); have hL1 := hb1; clear hb1; obtain ⟨hc1, hf1⟩ := bcell hL1
          go_wp2_with fail; (go_at_call 24; refine (implJoin_c V N D V' N' D' _).mono ?_; rintro e w2 ⟨rfl, hb2⟩; have hz2 := hb2.size; (repeat (first | rw [World.size_alloc] at hz2 | rw [World.size_drew] at hz2 | rw [World.heap_drewN] at hz2 | rw [World.size_setCell] at hz2)); replace hB : Below w.heap.size w w2 := Below.trans (by (repeat' (first | (with_reducible exact Below.refl _ _) | (with_reducible assumption) | (with_reducible refine below_drewN ?_ _) | (with_reducible refine Below.alloc ?_ ?_ _) | (with_reducible refine Below.drew ?_) | (with_reducible refine Below.setCell ?_ ?_ _) | go_size))) (hb2.mono (by go_size)); (first | (refine extend_then hL1 hb2 ?_ ?_ (fun hq => ?_); (focus ((repeat' (first | (with_reducible exact Below.refl _ _) | (with_reducible assumption) | (with_reducible refine below_drewN ?_ _) | (with_reducible refine Below.alloc ?_ ?_ _) | (with_reducible refine Below.drew ?_) | (with_reducible refine Below.setCell ?_ ?_ _) | go_size)); done)); (focus (go_size; done)); replace hL1 := hq; clear hq hc1 hf1; obtain ⟨hc1, hf1⟩ := bcell hL1) | (clear hL1 hc1 hf1) | skip); have hL2 := hb2; clear hb2; obtain ⟨hc2, hf2⟩ := bcell hL2)
          go_wp2_with fail; (go_at_call 23; refine (specJoin_c V N D V' N' D' _).mono ?_; rintro e w3 ⟨rfl, hb3⟩; have hz3 := hb3.size; (repeat (first | rw [World.size_alloc] at hz3 | rw [World.size_drew] at hz3 | rw [World.heap_drewN] at hz3 | rw [World.size_setCell] at hz3)); replace hB : Below w.heap.size w w3 := Below.trans (by (repeat' (first | (with_reducible exact Below.refl _ _) | (with_reducible assumption) | (with_reducible refine below_drewN ?_ _) | (with_reducible refine Below.alloc ?_ ?_ _) | (with_reducible refine Below.drew ?_) | (with_reducible refine Below.setCell ?_ ?_ _) | go_size))) (hb3.mono (by go_size)); (first | (refine extend_then hL1 hb3 ?_ ?_ (fun hq => ?_); (focus ((repeat' (first | (with_reducible exact Below.refl _ _) | (with_reducible assumption) | (with_reducible refine below_drewN ?_ _) | (with_reducible refine Below.alloc ?_ ?_ _) | (with_reducible refine Below.drew ?_) | (with_reducible refine Below.setCell ?_ ?_ _) | go_size)); done)); (focus (go_size; done)); replace hL1 := hq; clear hq hc1 hf1; obtain ⟨hc1, hf1⟩ := bcell hL1) | (clear hL1 hc1 hf1) | skip); (first | (refine extend_then hL2 hb3 ?_ ?_ (fun hq => ?_); (focus ((repeat' (first | (with_reducible exact Below.refl _ _) | (with_reducible assumption) | (with_reducible refine below_drewN ?_ _) | (with_reducible refine Below.alloc ?_ ?_ _) | (with_reducible refine Below.drew ?_) | (with_reducible refine Below.setCell ?_ ?_ _) | go_size)); done)); (focus (go_size; done)); replace hL2 := hq; clear hq hc2 hf2; obtain ⟨hc2, hf2⟩ := bcell hL2) | (clear hL2 hc2 hf2) | skip); have hL3 := hb3; clear hb3; obtain ⟨hc3, hf3⟩ := bcell hL3)
          go_upto_region 26 with (fail)
          have F1 := join_cmp (V := V) (N := N) (D := D) (V' := V') (N' := N') (D' := D')
          generalize joinC V N D V' N' D' = T at *
          obtain ⟨T1, T2, T3, ok⟩ := T
          dsimp only at F1 hc3 hf3
          go_cut [174] (fun s wx => s = .bool (ok && (decide (V > 0) && decide (V' > 0))) ∧ Below w.heap.size w wx ∧ (wx.cell? ⟨w1.heap.size, 0, none⟩ = some (.int .i64 (V)) ∧ wx.cell? ⟨w1.heap.size, 1, none⟩ = some (.int .i64 (N)) ∧ wx.cell? ⟨w1.heap.size, 2, none⟩ = some (.int .i64 (D))) ∧ (wx.cell? ⟨w1.heap.size + 1, 0, none⟩ = some (.int .i64 (V')) ∧ wx.cell? ⟨w1.heap.size + 1, 1, none⟩ = some (.int .i64 (N')) ∧ wx.cell? ⟨w1.heap.size + 1, 2, none⟩ = some (.int .i64 (D'))) ∧ (wx.cell? ⟨w2.heap.size, 0, none⟩ = some (.int .i64 (T1)) ∧ wx.cell? ⟨w2.heap.size, 1, none⟩ = some (.int .i64 (T2)) ∧ wx.cell? ⟨w2.heap.size, 2, none⟩ = some (.int .i64 (T3))))
          case first => as_aux_lemma =>
            cases ok
            · go_wp2_with fail
              go_meet
              exact ⟨rfl, by (repeat' (first | (with_reducible exact Below.refl _ _) | (with_reducible assumption) | (with_reducible refine below_drewN ?_ _) | (with_reducible refine Below.alloc ?_ ?_ _) | (with_reducible refine Below.drew ?_) | (with_reducible refine Below.setCell ?_ ?_ _) | go_size)), by (exact ⟨by simp (maxDischargeDepth := 6) [*, go_sem], by simp (maxDischargeDepth := 6) [*, go_sem], by simp (maxDischargeDepth := 6) [*, go_sem]⟩), by (exact ⟨by simp (maxDischargeDepth := 6) [*, go_sem], by simp (maxDischargeDepth := 6) [*, go_sem], by simp (maxDischargeDepth := 6) [*, go_sem]⟩), by (exact ⟨by simp (maxDischargeDepth := 6) [*, go_sem], by simp (maxDischargeDepth := 6) [*, go_sem], by simp (maxDischargeDepth := 6) [*, go_sem]⟩)⟩
            · by_cases e : 0 < V
              · have em : decide (0 < V) = true := by simp [e]
                go_wp2_with fail
                go_meet
                exact ⟨by simp [e], by (repeat' (first | (with_reducible exact Below.refl _ _) | (with_reducible assumption) | (with_reducible refine below_drewN ?_ _) | (with_reducible refine Below.alloc ?_ ?_ _) | (with_reducible refine Below.drew ?_) | (with_reducible refine Below.setCell ?_ ?_ _) | go_size)), by (exact ⟨by simp (maxDischargeDepth := 6) [*, go_sem], by simp (maxDischargeDepth := 6) [*, go_sem], by simp (maxDischargeDepth := 6) [*, go_sem]⟩), by (exact ⟨by simp (maxDischargeDepth := 6) [*, go_sem], by simp (maxDischargeDepth := 6) [*, go_sem], by simp (maxDischargeDepth := 6) [*, go_sem]⟩), by (exact ⟨by simp (maxDischargeDepth := 6) [*, go_sem], by simp (maxDischargeDepth := 6) [*, go_sem], by simp (maxDischargeDepth := 6) [*, go_sem]⟩)⟩
              · have em : decide (0 < V) = false := by simp [e]
                go_wp2_with fail
                go_meet
                exact ⟨by simp [e], by (repeat' (first | (with_reducible exact Below.refl _ _) | (with_reducible assumption) | (with_reducible refine below_drewN ?_ _) | (with_reducible refine Below.alloc ?_ ?_ _) | (with_reducible refine Below.drew ?_) | (with_reducible refine Below.setCell ?_ ?_ _) | go_size)), by (exact ⟨by simp (maxDischargeDepth := 6) [*, go_sem], by simp (maxDischargeDepth := 6) [*, go_sem], by simp (maxDischargeDepth := 6) [*, go_sem]⟩), by (exact ⟨by simp (maxDischargeDepth := 6) [*, go_sem], by simp (maxDischargeDepth := 6) [*, go_sem], by simp (maxDischargeDepth := 6) [*, go_sem]⟩), by (exact ⟨by simp (maxDischargeDepth := 6) [*, go_sem], by simp (maxDischargeDepth := 6) [*, go_sem], by simp (maxDischargeDepth := 6) [*, go_sem]⟩)⟩
          case rest => as_aux_lemma =>
            obtain ⟨rfl, hcB, ⟨a0, a1, a2⟩, ⟨b0, b1, b2⟩, ⟨z0, z1, z2⟩⟩ := hcut
            clear hB hL1 hc1 hf1 hL2 hc2 hf2 hL3 hc3 hf3 hz1 hz2 hz3
            have hzc := hcB.size
            go_upto_if 174 with (fail)
            go_cut [174] (fun _ wx => Below w.heap.size w wx)
            case first => as_aux_lemma =>
              by_cases k : ok = true ∧ V > 0 ∧ V' > 0
              · obtain ⟨rfl, hp, hp'⟩ := k
                obtain ⟨e1, e2, e3, e4, e5⟩ := F1 rfl hp hp'
                have kb : (true && (decide (V > 0) && decide (V' > 0))) = true := by simp [hp, hp']
                rw [kb]
                clear kb F1 hp hp'
                go_wp2_with fail; (go_at_call 31; refine (implCmp_c V N D V' N' D' _).mono ?_; rintro e w1 ⟨rfl, hb1⟩; have hz1 := hb1.size; (repeat (first | rw [World.size_alloc] at hz1 | rw [World.size_drew] at hz1 | rw [World.heap_drewN] at hz1 | rw [World.size_setCell] at hz1)); have hB : Below w.heap.size w w1 := Below.trans (by (repeat' (first | (with_reducible exact Below.refl _ _) | (with_reducible assumption) | (with_reducible refine below_drewN ?_ _) | (with_reducible refine Below.alloc ?_ ?_ _) | (with_reducible refine Below.drew ?_) | (with_reducible refine Below.setCell ?_ ?_ _) | go_size))) (hb1.mono (by go_size)); have hL1 := hb1; clear hb1; obtain ⟨hc1, hf1⟩ := bcell hL1)
                go_wp2_with fail; (go_at_call 31; refine (implCmp_c V N D T1 T2 T3 _).mono ?_; rintro e w2 ⟨rfl, hb2⟩; have hz2 := hb2.size; (repeat (first | rw [World.size_alloc] at hz2 | rw [World.size_drew] at hz2 | rw [World.heap_drewN] at hz2 | rw [World.size_setCell] at hz2)); replace hB : Below w.heap.size w w2 := Below.trans (by (repeat' (first | (with_reducible exact Below.refl _ _) | (with_reducible assumption) | (with_reducible refine below_drewN ?_ _) | (with_reducible refine Below.alloc ?_ ?_ _) | (with_reducible refine Below.drew ?_) | (with_reducible refine Below.setCell ?_ ?_ _) | go_size))) (hb2.mono (by go_size)); (first | (refine extend_then hL1 hb2 ?_ ?_ (fun hq => ?_); (focus ((repeat' (first | (with_reducible exact Below.refl _ _) | (with_reducible assumption) | (with_reducible refine below_drewN ?_ _) | (with_reducible refine Below.alloc ?_ ?_ _) | (with_reducible refine Below.drew ?_) | (with_reducible refine Below.setCell ?_ ?_ _) | go_size)); done)); (focus (go_size; done)); replace hL1 := hq; clear hq hc1 hf1; obtain ⟨hc1, hf1⟩ := bcell hL1) | (clear hL1 hc1 hf1) | skip); have hL2 := hb2; clear hb2; obtain ⟨hc2, hf2⟩ := bcell hL2)
                go_wp2_with fail; (go_at_call 31; refine (implCmp_c T1 T2 T3 V' N' D' _).mono ?_; rintro e w3 ⟨rfl, hb3⟩; have hz3 := hb3.size; (repeat (first | rw [World.size_alloc] at hz3 | rw [World.size_drew] at hz3 | rw [World.heap_drewN] at hz3 | rw [World.size_setCell] at hz3)); replace hB : Below w.heap.size w w3 := Below.trans (by (repeat' (first | (with_reducible exact Below.refl _ _) | (with_reducible assumption) | (with_reducible refine below_drewN ?_ _) | (with_reducible refine Below.alloc ?_ ?_ _) | (with_reducible refine Below.drew ?_) | (with_reducible refine Below.setCell ?_ ?_ _) | go_size))) (hb3.mono (by go_size)); (first | (refine extend_then hL1 hb3 ?_ ?_ (fun hq => ?_); (focus ((repeat' (first | (with_reducible exact Below.refl _ _) | (with_reducible assumption) | (with_reducible refine below_drewN ?_ _) | (with_reducible refine Below.alloc ?_ ?_ _) | (with_reducible refine Below.drew ?_) | (with_reducible refine Below.setCell ?_ ?_ _) | go_size)); done)); (focus (go_size; done)); replace hL1 := hq; clear hq hc1 hf1; obtain ⟨hc1, hf1⟩ := bcell hL1) | (clear hL1 hc1 hf1) | skip); (first | (refine extend_then hL2 hb3 ?_ ?_ (fun hq => ?_); (focus ((repeat' (first | (with_reducible exact Below.refl _ _) | (with_reducible assumption) | (with_reducible refine below_drewN ?_ _) | (with_reducible refine Below.alloc ?_ ?_ _) | (with_reducible refine Below.drew ?_) | (with_reducible refine Below.setCell ?_ ?_ _) | go_size)); done)); (focus (go_size; done)); replace hL2 := hq; clear hq hc2 hf2; obtain ⟨hc2, hf2⟩ := bcell hL2) | (clear hL2 hc2 hf2) | skip); have hL3 := hb3; clear hb3; obtain ⟨hc3, hf3⟩ := bcell hL3)
                go_wp2_with fail
                go_meet
                (repeat' (first | (with_reducible exact Below.refl _ _) | (with_reducible assumption) | (with_reducible refine below_drewN ?_ _) | (with_reducible refine Below.alloc ?_ ?_ _) | (with_reducible refine Below.drew ?_) | (with_reducible refine Below.setCell ?_ ?_ _) | go_size))
              · have kb : (ok && (decide (V > 0) && decide (V' > 0))) = false := by
                  cases ok
                  · rfl
                  · by_cases e : V > 0
                    · have : ¬ V' > 0 := fun q => k ⟨rfl, e, q⟩
                      simp [this]
                    · simp [e]
                rw [kb]
                clear k kb F1
                go_wp2_with fail
                go_meet
                exact hcB
            case rest => as_aux_lemma =>
              clear F1 a0 a1 a2 b0 b1 b2 z0 z1 z2 hcB hzc
              have hcB := hcut
              have hzc := hcB.size
              clear hcut
              go_wp2_with fail
              refine (drawConc_c A n c _ ((h.below hcB).more hzc)).mono ?_
              rintro e w1 ⟨V, N, D, rfl, hb1⟩
              have hz1 := hb1.size; (repeat (first | rw [World.size_alloc] at hz1 | rw [World.size_drew] at hz1 | rw [World.heap_drewN] at hz1 | rw [World.size_setCell] at hz1)); have hB : Below w.heap.size w w1 := Below.trans (by (repeat' (first | (with_reducible exact Below.refl _ _) | (with_reducible assumption) | (with_reducible refine below_drewN ?_ _) | (with_reducible refine Below.alloc ?_ ?_ _) | (with_reducible refine Below.drew ?_) | (with_reducible refine Below.setCell ?_ ?_ _) | go_size))) (hb1.mono (by go_size)); have hL1 := hb1; clear hb1; obtain ⟨hc1, hf1⟩ := bcell hL1
              go_wp2_with fail; (go_at_call 22; refine (implConc_c V N D _).mono ?_; rintro e w2 ⟨rfl, hb2⟩; have hz2 := hb2.size; (repeat (first | rw [World.size_alloc] at hz2 | rw [World.size_drew] at hz2 | rw [World.heap_drewN] at hz2 | rw [World.size_setCell] at hz2)); replace hB : Below w.heap.size w w2 := Below.trans (by (repeat' (first | (with_reducible exact Below.refl _ _) | (with_reducible assumption) | (with_reducible refine below_drewN ?_ _) | (with_reducible refine Below.alloc ?_ ?_ _) | (with_reducible refine Below.drew ?_) | (with_reducible refine Below.setCell ?_ ?_ _) | go_size))) (hb2.mono (by go_size)); (first | (refine extend_then hL1 hb2 ?_ ?_ (fun hq => ?_); (focus ((repeat' (first | (with_reducible exact Below.refl _ _) | (with_reducible assumption) | (with_reducible refine below_drewN ?_ _) | (with_reducible refine Below.alloc ?_ ?_ _) | (with_reducible refine Below.drew ?_) | (with_reducible refine Below.setCell ?_ ?_ _) | go_size)); done)); (focus (go_size; done)); replace hL1 := hq; clear hq hc1 hf1; obtain ⟨hc1, hf1⟩ := bcell hL1) | (clear hL1 hc1 hf1) | skip); have hL2 := hb2; clear hb2; obtain ⟨hc2, hf2⟩ := bcell hL2)
              go_wp2_with fail; (go_at_call 21; refine (specConc_c V N D _).mono ?_; rintro e w3 ⟨rfl, hb3⟩; have hz3 := hb3.size; (repeat (first | rw [World.size_alloc] at hz3 | rw [World.size_drew] at hz3 | rw [World.heap_drewN] at hz3 | rw [World.size_setCell] at hz3)); replace hB : Below w.heap.size w w3 := Below.trans (by (repeat' (first | (with_reducible exact Below.refl _ _) | (with_reducible assumption) | (with_reducible refine below_drewN ?_ _) | (with_reducible refine Below.alloc ?_ ?_ _) | (with_reducible refine Below.drew ?_) | (with_reducible refine Below.setCell ?_ ?_ _) | go_size))) (hb3.mono (by go_size)); (first | (refine extend_then hL1 hb3 ?_ ?_ (fun hq => ?_); (focus ((repeat' (first | (with_reducible exact Below.refl _ _) | (with_reducible assumption) | (with_reducible refine below_drewN ?_ _) | (with_reducible refine Below.alloc ?_ ?_ _) | (with_reducible refine Below.drew ?_) | (with_reducible refine Below.setCell ?_ ?_ _) | go_size)); done)); (focus (go_size; done)); replace hL1 := hq; clear hq hc1 hf1; obtain ⟨hc1, hf1⟩ := bcell hL1) | (clear hL1 hc1 hf1) | skip); (first | (refine extend_then hL2 hb3 ?_ ?_ (fun hq => ?_); (focus ((repeat' (first | (with_reducible exact Below.refl _ _) | (with_reducible assumption) | (with_reducible refine below_drewN ?_ _) | (with_reducible refine Below.alloc ?_ ?_ _) | (with_reducible refine Below.drew ?_) | (with_reducible refine Below.setCell ?_ ?_ _) | go_size)); done)); (focus (go_size; done)); replace hL2 := hq; clear hq hc2 hf2; obtain ⟨hc2, hf2⟩ := bcell hL2) | (clear hL2 hc2 hf2) | skip); have hL3 := hb3; clear hb3; obtain ⟨hc3, hf3⟩ := bcell hL3)
              go_upto_region 35 with (fail)
              have F1 := conc_eq (V := V) (N := N) (D := D)
              generalize concC V N D = K at *
              obtain ⟨k1, k2, ok⟩ := K
              dsimp only at F1
              cases ok
              · go_wp2
                (go_returns; exact ⟨by first | rfl | (simp; done) | (simp; omega), by (repeat' (first | (with_reducible exact Below.refl _ _) | (with_reducible assumption) | (with_reducible refine below_drewN ?_ _) | (with_reducible refine Below.alloc ?_ ?_ _) | (with_reducible refine Below.drew ?_) | (with_reducible refine Below.setCell ?_ ?_ _) | go_size))⟩)
              · obtain ⟨e, q1, q2, q3, q4, q5, q6, q7, q8, q9, q10⟩ := F1 rfl
                have m1 := mulB q1 q2 (by omega : 0 ≤ D) q8
                have m2 := mulB m1.1 m1.2 q5 q6
                have m3 := mulB q9 q10 q3 q4
                have wr1 : IntKind.i64.wrap (k1 * D) = k1 * D := IntWalk.i64_in _ (by omega)
                have wr2 : IntKind.i64.wrap (k1 * D * V) = k1 * D * V := IntWalk.i64_in _ (by omega)
                have wr3 : IntKind.i64.wrap (N * k2) = N * k2 := IntWalk.i64_in _ (by omega)
                clear m1 m2 m3 q1 q2 q3 q4 q5 q6 q7 q8 q9 q10 F1
                go_wp2
                (go_returns; exact ⟨by first | rfl | (simp; done) | (simp; omega), by (repeat' (first | (with_reducible exact Below.refl _ _) | (with_reducible assumption) | (with_reducible refine below_drewN ?_ _) | (with_reducible refine Below.alloc ?_ ?_ _) | (with_reducible refine Below.drew ?_) | (with_reducible refine Below.setCell ?_ ?_ _) | go_size))⟩)
end Go.Proofs.Ytbcgcpdnmpejlaa
