/- The great law on volumes, cheaper tariffs and raised tariffs, walked. -/
import Derived.Test.YtbfaejacfhblkaaGHelp
namespace Go.Proofs.Ytbfaejacfhblkaa
open Go.RowKit

set_option maxRecDepth 100000 in
set_option maxHeartbeats 16000000 in
theorem cheaper_great (A : Option Addr) (n c : Nat) (w : World) (h : RdB w w.heap.size A n) : Calls Try.prog 13 #[.slice A n c] w fun e w' => e = .returned (.bool true) ∧ Below w.heap.size w w' := by
  by_cases hn : (65536 : Int) < (n : Int)
  · have hd : decide ((65536 : Int) < n) = true := by simp; omega
    go_enter Try.func13, Try.ntmps13
    go_wp2_with (go_at_call 43; refine (rBigT_c _ _ _ _).mono ?_; rintro e w' ⟨rfl, rfl⟩)
    (go_returns; exact ⟨by first | rfl | (simp; done) | (simp; omega), by (repeat' (first | (with_reducible exact Below.refl _ _) | (with_reducible assumption) | (with_reducible refine below_drewN ?_ _) | (with_reducible refine Below.alloc ?_ ?_ _) | (with_reducible refine Below.drew ?_) | (with_reducible refine Below.setCell ?_ ?_ _) | go_size))⟩)
  have hd : decide ((65536 : Int) < n) = false := by simp; omega
  have H := Lib.hid h
  clear h
  go_enter Try.func13, Try.ntmps13
  go_wp2_with fail
  refine (rBigT_c _ _ _ _).mono ?_
  rintro e w' ⟨rfl, rfl⟩
  go_wp2_with fail
  refine (drawVol_c A n c _ H.out).mono ?_
  rintro e w1 ⟨F, A1, c1, xs, m, rfl, O1, hl, B⟩
  have Y : RL w1 A1 xs := ⟨O1, by omega⟩
  clear O1
  go_upto_region 4 with (fail)
  obtain ⟨w2, hW⟩ : ∃ X, X = w1.alloc (.cells #[.int .i64 F, .slice A1 xs.length c1] 29) := ⟨_, rfl⟩
  rw [← hW]
  have hb : Below w1.heap.size w1 w2 := by rw [hW]; exact (Below.refl _ _).alloc (Nat.le_refl _) _
  have X : PX w2 w1.heap.size F A1 xs.length c1 := ⟨by rw [hW]; exact World.cell?_alloc_new w1 _ _ 0, by rw [hW]; exact World.cell?_alloc_new w1 _ _ 1⟩
  clear hW
  replace Y := Y.below hb
  replace B := B.trans (hb.mono B.size)
  clear hb
  generalize w1.heap.size = p1 at *
  obtain ⟨v, ok, e1⟩ : ∃ r ok, volR F xs m = (r, ok) := ⟨_, _, rfl⟩
  have E1 := Lib.hid e1
  clear e1
  have p0 := X.c0
  have pp := X.c1
  go_wp2_with fail
  refine (Y.vol c1 m v ok E1.out).mono ?_
  rintro e w21 ⟨rfl, hb⟩
  clear p0 pp
  replace Y := Y.below hb
  replace X := X.below hb
  replace B := B.trans (hb.mono B.size)
  clear hb
  have p0 := X.c0
  have pp := X.c1
  go_wp2_with fail
  refine (Y.svol c1 m v ok E1.out).mono ?_
  rintro e w22 ⟨rfl, hb⟩
  clear p0 pp
  replace Y := Y.below hb
  replace X := X.below hb
  replace B := B.trans (hb.mono B.size)
  clear hb
  go_upto_if 60 with (fail)
  go_cut [60] (fun _ wx => Below w.heap.size w wx)
  case first => as_aux_lemma =>
    cases ok
    · clear X Y
      go_wp2_with fail
      go_meet
      exact B
    · obtain ⟨k, u, two, e2, f2, e3, f3, n0, n1⟩ := vol_law E1.out
      have E2 := Lib.hid e2
      have E3 := Lib.hid e3
      have F3 := Lib.hid f3
      have d1 : decide (m < k) = false := decide_eq_false (by omega)
      have Wv : IntKind.i64.wrap (v + 1) = v + 1 := IntWalk.i64_in _ (by omega)
      clear e2 e3 f2 f3 E1
      have p0 := X.c0
      have pp := X.c1
      go_wp2_with fail
      refine (Y.cost c1 v k true E2.out).mono ?_
      rintro e w23 ⟨rfl, hb⟩
      clear p0 pp
      replace Y := Y.below hb
      replace X := X.below hb
      replace B := B.trans (hb.mono B.size)
      clear hb
      have p0 := X.c0
      have pp := X.c1
      go_wp2_with fail
      refine (Y.cost c1 (v + 1) u two E3.out).mono ?_
      rintro e w24 ⟨rfl, hb⟩
      clear p0 pp
      replace Y := Y.below hb
      replace X := X.below hb
      replace B := B.trans (hb.mono B.size)
      clear hb
      cases two
      · clear X Y
        go_wp2_with fail
        go_meet
        exact B
      · have f3 := F3.out rfl
        have d2 : decide (u ≤ m) = false := decide_eq_false (by omega)
        clear f3 F3 X Y
        go_wp2_with fail
        go_meet
        exact B
  case rest => as_aux_lemma =>
    clear X Y B E1 hl
    have B := hcut
    have h2 : RdB wc wc.heap.size A n := (H.out.below B).more B.size
    clear hcut
    go_wp2_with fail
    refine (drawCheap_c A n c _ h2).mono ?_
    rintro e w30 ⟨F, A1, c1, xs, G, A2, c2, ys, rfl, O1, O2, hl, hl2, hb⟩
    replace B := B.trans (hb.mono B.size)
    have Y : RL w30 A1 xs := ⟨O1, by omega⟩
    have Z : RL w30 A2 ys := ⟨O2, by omega⟩
    clear O1 O2 hb h2
    go_upto_region 16 with (fail)
    obtain ⟨w31, hW⟩ : ∃ X, X = (w30.alloc (.cells #[.int .i64 F, .slice A1 xs.length c1] 29)).alloc (.cells #[.int .i64 G, .slice A2 ys.length c2] 29) := ⟨_, rfl⟩
    rw [← hW]
    have hb : Below w30.heap.size w30 w31 := by rw [hW]; exact ((Below.refl _ _).alloc (Nat.le_refl _) _).alloc (by simp) _
    have X : PX w31 w30.heap.size F A1 xs.length c1 := ⟨by rw [hW]; simp [go_sem], by rw [hW]; simp [go_sem]⟩
    have X2 : PX w31 (w30.heap.size + 1) G A2 ys.length c2 := ⟨by rw [hW]; simp [go_sem], by rw [hW]; simp [go_sem]⟩
    clear hW
    replace Y := Y.below hb
    replace Z := Z.below hb
    replace B := B.trans (hb.mono B.size)
    clear hb
    generalize w30.heap.size + 1 = q1 at *
    generalize w30.heap.size = q0 at *
    obtain ⟨v, ok, e1⟩ : ∃ r ok, cheapR F xs G ys = (r, ok) := ⟨_, _, rfl⟩
    have E1 := Lib.hid e1
    clear e1
    have p0 := X.c0
    have pp := X.c1
    have r0 := X2.c0
    have rr := X2.c1
    go_wp2_with fail
    refine (Y.cheap Z c1 c2 v ok E1.out).mono ?_
    rintro e w51 ⟨rfl, hb⟩
    clear p0 pp r0 rr
    replace Y := Y.below hb
    replace Z := Z.below hb
    replace X := X.below hb
    replace X2 := X2.below hb
    replace B := B.trans (hb.mono B.size)
    clear hb
    have p0 := X.c0
    have pp := X.c1
    have r0 := X2.c0
    have rr := X2.c1
    go_wp2_with fail
    refine (Y.scheap Z c1 c2 v ok E1.out).mono ?_
    rintro e w52 ⟨rfl, hb⟩
    clear p0 pp r0 rr
    replace Y := Y.below hb
    replace Z := Z.below hb
    replace X := X.below hb
    replace X2 := X2.below hb
    replace B := B.trans (hb.mono B.size)
    clear hb
    go_upto_if 112 with (fail)
    go_cut [112] (fun _ wx => Below w.heap.size w wx)
    case first => as_aux_lemma =>
      cases ok
      · clear X X2 Y Z
        go_wp2_with fail
        go_meet
        exact B
      · obtain ⟨x, y, e2, e3, f2, n0, n1, f3⟩ := cheap_law E1.out
        have E2 := Lib.hid e2
        have E3 := Lib.hid e3
        have F3 := Lib.hid f3
        have d1 : decide (x ≤ y) = false := decide_eq_false (by omega)
        clear e2 e3 f2 f3 E1
        have p0 := X.c0
        have pp := X.c1
        have r0 := X2.c0
        have rr := X2.c1
        go_wp2_with fail
        refine (Y.cost c1 v x true E2.out).mono ?_
        rintro e w53 ⟨rfl, hb⟩
        clear p0 pp r0 rr
        replace Y := Y.below hb
        replace Z := Z.below hb
        replace X := X.below hb
        replace X2 := X2.below hb
        replace B := B.trans (hb.mono B.size)
        clear hb
        have p0 := X.c0
        have pp := X.c1
        have r0 := X2.c0
        have rr := X2.c1
        go_wp2_with fail
        refine (Z.cost c2 v y true E3.out).mono ?_
        rintro e w54 ⟨rfl, hb⟩
        clear p0 pp r0 rr
        replace Y := Y.below hb
        replace Z := Z.below hb
        replace X := X.below hb
        replace X2 := X2.below hb
        replace B := B.trans (hb.mono B.size)
        clear hb
        by_cases hv : 0 < v
        · obtain ⟨a, b, e4, e5, f4⟩ := F3.out hv
          have E4 := Lib.hid e4
          have E5 := Lib.hid e5
          have d2 : decide (b < a) = false := decide_eq_false (by omega)
          have d3 : decide (0 < v) = true := decide_eq_true hv
          have Wv : IntKind.i64.wrap (v - 1) = v - 1 := IntWalk.i64_in _ (by omega)
          clear e4 e5 f4 F3
          have p0 := X.c0
          have pp := X.c1
          have r0 := X2.c0
          have rr := X2.c1
          go_wp2_with fail
          refine (Y.cost c1 (v - 1) a true E4.out).mono ?_
          rintro e w55 ⟨rfl, hb⟩
          clear p0 pp r0 rr
          replace Y := Y.below hb
          replace Z := Z.below hb
          replace X := X.below hb
          replace X2 := X2.below hb
          replace B := B.trans (hb.mono B.size)
          clear hb
          have p0 := X.c0
          have pp := X.c1
          have r0 := X2.c0
          have rr := X2.c1
          go_wp2_with fail
          refine (Z.cost c2 (v - 1) b true E5.out).mono ?_
          rintro e w56 ⟨rfl, hb⟩
          clear p0 pp r0 rr
          replace Y := Y.below hb
          replace Z := Z.below hb
          replace X := X.below hb
          replace X2 := X2.below hb
          replace B := B.trans (hb.mono B.size)
          clear hb
          clear X X2 Y Z
          go_wp2_with fail
          go_meet
          exact B
        · have d3 : decide (0 < v) = false := decide_eq_false hv
          clear X X2 Y Z F3
          go_wp2_with fail
          go_meet
          exact B
    case rest => as_aux_lemma =>
      clear X X2 Y Z B E1 hl hl2
      have B := hcut
      have h2 : RdB wc wc.heap.size A n := (H.out.below B).more B.size
      clear hcut
      go_wp2_with fail
      refine (drawRai_c A n c _ h2).mono ?_
      rintro e w50 ⟨F, A1, c1, xs, m, rfl, O1, hl, hb⟩
      replace B := B.trans (hb.mono B.size)
      have Y : RL w50 A1 xs := ⟨O1, by omega⟩
      clear O1 hb h2
      go_upto_region 31 with (fail)
      obtain ⟨w51, hW⟩ : ∃ X, X = w50.alloc (.cells #[.int .i64 F, .slice A1 xs.length c1] 29) := ⟨_, rfl⟩
      rw [← hW]
      have hb : Below w50.heap.size w50 w51 := by rw [hW]; exact (Below.refl _ _).alloc (Nat.le_refl _) _
      have X : PX w51 w50.heap.size F A1 xs.length c1 := ⟨by rw [hW]; exact World.cell?_alloc_new w50 _ _ 0, by rw [hW]; exact World.cell?_alloc_new w50 _ _ 1⟩
      clear hW
      replace Y := Y.below hb
      replace B := B.trans (hb.mono B.size)
      clear hb
      generalize w50.heap.size = p1 at *
      obtain ⟨G, ys, ok, e1⟩ : ∃ G ys ok, raiT F xs m = ((G, ys), ok) := ⟨_, _, _, rfl⟩
      have yl : ys.length ≤ 6 := by have := raiT_len6 (F := F) (p := m) hl; rw [e1] at this; exact this
      have E1 := Lib.hid e1
      clear e1
      have p0 := X.c0
      have pp := X.c1
      go_wp2_with fail
      refine (Y.rai c1 m G ys ok E1.out yl).mono ?_
      rintro e w71 ⟨A3, c3, rfl, V, hb⟩
      clear p0 pp
      replace Y := Y.below hb
      replace X := X.below hb
      replace B := B.trans (hb.mono B.size)
      clear hb
      have p0 := X.c0
      have pp := X.c1
      go_upto_region 32 with (fail)
      clear p0 pp
      obtain ⟨w61, hW⟩ : ∃ X, X = w71.alloc (.cells #[.int .i64 G, .slice A3 ys.length c3] 29) := ⟨_, rfl⟩
      rw [← hW]
      have hb : Below w71.heap.size w71 w61 := by rw [hW]; exact (Below.refl _ _).alloc (Nat.le_refl _) _
      have Q : PX w61 w71.heap.size G A3 ys.length c3 := ⟨by rw [hW]; exact World.cell?_alloc_new w71 _ _ 0, by rw [hW]; exact World.cell?_alloc_new w71 _ _ 1⟩
      clear hW
      replace Y := Y.below hb
      replace X := X.below hb
      replace V := V.below hb
      replace B := B.trans (hb.mono B.size)
      clear hb
      generalize w71.heap.size = p2 at *
      have p0 := X.c0
      have pp := X.c1
      go_wp2_with fail
      refine (Y.srai c1 m G ys ok E1.out yl).mono ?_
      rintro e w91 ⟨A4, c4, rfl, V2, hb⟩
      clear p0 pp
      replace Y := Y.below hb
      replace X := X.below hb
      replace V := V.below hb
      replace Q := Q.below hb
      replace B := B.trans (hb.mono B.size)
      clear hb
      have p0 := X.c0
      have pp := X.c1
      go_upto_region 33 with (fail)
      clear p0 pp
      obtain ⟨w81, hW⟩ : ∃ X, X = w91.alloc (.cells #[.int .i64 G, .slice A4 ys.length c4] 29) := ⟨_, rfl⟩
      rw [← hW]
      have hb : Below w91.heap.size w91 w81 := by rw [hW]; exact (Below.refl _ _).alloc (Nat.le_refl _) _
      have Q2 : PX w81 w91.heap.size G A4 ys.length c4 := ⟨by rw [hW]; exact World.cell?_alloc_new w91 _ _ 0, by rw [hW]; exact World.cell?_alloc_new w91 _ _ 1⟩
      clear hW
      replace Y := Y.below hb
      replace X := X.below hb
      replace V := V.below hb
      replace Q := Q.below hb
      replace V2 := V2.below hb
      replace B := B.trans (hb.mono B.size)
      clear hb
      generalize w91.heap.size = p3 at *
      clear X Y
      cases ok
      · have d0 : (false == false) = true := rfl
        have p0 := Q.c0
        have pp := Q.c1
        have r0 := Q2.c0
        have rr := Q2.c1
        go_wp2_with fail
        refine (rTariffs_c G _ _ _ _ ys _ V.rd V2.rd (Nat.le_refl _) (Nat.le_refl _) (by omega)).mono ?_
        rintro e w101 ⟨rfl, hb⟩
        clear p0 pp r0 rr
        replace V := V.below hb
        replace V2 := V2.below hb
        replace Q := Q.below hb
        replace Q2 := Q2.below hb
        replace B := B.trans (hb.mono B.size)
        clear hb
        clear Q Q2 V V2
        go_wp2_with fail
        go_returns
        exact ⟨rfl, B⟩
      · have d0 : (true == true) = true := rfl
        have p0 := Q.c0
        have pp := Q.c1
        have r0 := Q2.c0
        have rr := Q2.c1
        go_wp2_with fail
        refine (rTariffs_c G _ _ _ _ ys _ V.rd V2.rd (Nat.le_refl _) (Nat.le_refl _) (by omega)).mono ?_
        rintro e w101 ⟨rfl, hb⟩
        clear p0 pp r0 rr
        replace V := V.below hb
        replace V2 := V2.below hb
        replace Q := Q.below hb
        replace Q2 := Q2.below hb
        replace B := B.trans (hb.mono B.size)
        clear hb
        have e5 := rai_law E1.out
        have E5 := Lib.hid e5
        clear e5
        have p0 := Q.c0
        have pp := Q.c1
        have r0 := Q2.c0
        have rr := Q2.c1
        go_wp2_with fail
        refine (V.good c3 true E5.out).mono ?_
        rintro e w102 ⟨rfl, hb⟩
        clear p0 pp r0 rr
        replace V := V.below hb
        replace V2 := V2.below hb
        replace Q := Q.below hb
        replace Q2 := Q2.below hb
        replace B := B.trans (hb.mono B.size)
        clear hb
        clear Q Q2 V V2
        go_wp2_with fail
        go_returns
        exact ⟨rfl, B⟩
end Go.Proofs.Ytbfaejacfhblkaa
