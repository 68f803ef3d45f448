/- The great law on grades, walked. -/
import Derived.Test.YtjpijcmfnckmaaaGBox
import Derived.Test.YtjpijcmfnckmaaaAfter
namespace Go.Proofs.Ytjpijcmfnckmaaa
open Go.RowKit

theorem least_law2 (xs : List (Int × Int)) : ∃ (b a num den : Int) (t : Bool), leastR xs = (b, a, t) ∧ meanPR xs = (num, den, t) ∧ (t = true → gradeR xs a = (b, true) ∧ a ≤ 1000 ∧ (0 ≤ b ∧ b ≤ 10000) ∧ (0 ≤ den ∧ den ≤ 1000) ∧ b * den ≤ num) := by
  rcases least_law xs with ⟨h1, h2⟩ | ⟨b, a, num, den, h1, h2, h3, _, h5, h6, h7, h8, h9, h10⟩
  · exact ⟨0, 0, 0, 0, false, h1, h2, fun h => by cases h⟩
  · exact ⟨b, a, num, den, true, h1, h2, fun _ => ⟨h3, h5, ⟨h6, h7⟩, ⟨h8, h9⟩, h10⟩⟩
set_option maxRecDepth 100000 in
set_option maxHeartbeats 16000000 in
theorem grades_law (A : Option Addr) (n c : Nat) (w : World) (h : RdB w w.heap.size A n) : Calls Try.prog 13 #[.slice A n c] w fun e w' => e = .returned (.bool true) ∧ Below w.heap.size w w' := by
  by_cases hn : (65536 : Int) < (n : Int)
  · have hd : decide ((65536 : Int) < n) = true := by simp; omega
    go_enter Try.func13, Try.ntmps13
    go_wp2_with (go_at_call 14; refine (vBigP_c _ _ _ _).mono ?_; rintro e w' ⟨rfl, rfl⟩)
    (go_returns; exact ⟨by first | rfl | (simp; done) | (simp; omega), by (repeat' (first | (with_reducible exact Below.refl _ _) | (with_reducible assumption) | (with_reducible refine below_drewN ?_ _) | (with_reducible refine Below.alloc ?_ ?_ _) | (with_reducible refine Below.drew ?_) | (with_reducible refine Below.setCell ?_ ?_ _) | go_size))⟩)
  have hd : decide ((65536 : Int) < n) = false := by simp; omega
  have H := Lib.hid h
  clear h
  go_enter Try.func13, Try.ntmps13
  go_wp2_with fail
  refine (vBigP_c _ _ _ _).mono ?_
  rintro e w' ⟨rfl, rfl⟩
  go_wp2_with fail
  refine (drawDecay_c A n c _ H.out).mono ?_
  rintro e w1 ⟨A1, c1, ys, z, d, rfl, hz, hd1, O1, hl, B⟩
  have Y := RL.own O1 (by omega)
  clear O1
  obtain ⟨r, ok, hp⟩ : ∃ r ok, decR ys z d = (r, ok) := ⟨_, _, rfl⟩
  have HP := Lib.hid hp
  clear hp
  go_wp2_with fail
  refine (Y.dec c1 z d r ok HP.out hl).mono ?_
  rintro e w21 ⟨A3, c3, rfl, R, hb⟩
  replace Y := Y.below hb
  replace B := B.trans (hb.mono B.size)
  clear hb
  go_wp2_with fail
  refine (Y.sdec c1 z d r ok HP.out hl).mono ?_
  rintro e w22 ⟨A4, c4, rfl, R2, hb⟩
  replace Y := Y.below hb
  replace R := R.below hb
  replace B := B.trans (hb.mono B.size)
  clear hb
  go_upto_region 6 with (fail)
  go_cut [75] (fun s wx => s = .bool false ∧ ∃ q, wx = w22.drewN q)
  case first => as_aux_lemma =>
    cases ok
    · go_wp2_with (go_at_call 18; refine (vParcels_c _ _ _ _ _ _ R.rd R2.rd (by have := R.len; omega)).mono ?_; rintro e w' ⟨rfl, nd, rfl⟩)
      go_meet
      exact ⟨rfl, _, rfl⟩
    · go_wp2_with (go_at_call 18; refine (vParcels_c _ _ _ _ _ _ R.rd R2.rd (by have := R.len; omega)).mono ?_; rintro e w' ⟨rfl, nd, rfl⟩)
      go_meet
      exact ⟨rfl, _, rfl⟩
  case rest => as_aux_lemma =>
    obtain ⟨rfl, q, rfl⟩ := hcut
    have hb := below_drewN (Below.refl w22.heap.size w22) q
    clear R2
    replace Y := Y.below hb
    replace R := R.below hb
    replace B := B.trans (hb.mono B.size)
    clear hb
    generalize w22.drewN q = wm at *
    go_upto_if 76 with (fail)
    go_cut [76] (fun _ wx => Below w.heap.size w wx)
    case first => as_aux_lemma =>
      cases ok
      · clear Y R
        go_wp2_with fail
        go_meet
        exact B
      · obtain ⟨d1, d2, n1, n2, v1, v2, ⟨m1, m2⟩, ⟨l1, l2⟩, le, eq⟩ := dec_law HP.out
        have V1 := Lib.hid v1
        have V2 := Lib.hid v2
        have EQ := Lib.hid eq
        clear v1 v2 eq HP
        generalize sumV ys ys.length = vol at *
        generalize sumM ys ys.length = mass at *
        generalize sumM r r.length = left at *
        have b1 := mul_b l1 l2 (show (0 : Int) ≤ d by omega) d2
        have b2 := mul_b m1 m2 n1 (show z ≤ 100 by omega)
        obtain ⟨P1, hP1⟩ : ∃ x, x = left * d := ⟨_, rfl⟩
        obtain ⟨P2, hP2⟩ : ∃ x, x = mass * z := ⟨_, rfl⟩
        have Wa : IntKind.i64.wrap (left * d) = P1 := by rw [hP1]; exact IntWalk.i64_in _ (by omega)
        have Wb : IntKind.i64.wrap (mass * z) = P2 := by rw [hP2]; exact IntWalk.i64_in _ (by omega)
        have dl : decide (P2 < P1) = false := decide_eq_false (by rw [hP1, hP2]; omega)
        clear hP1 hP2 b1 b2 le m1 m2 l1 l2 d1 d2 n1 n2 hz hd1
        go_wp2_with fail
        refine (Y.vol c1 _ _ true V1.out).mono ?_
        rintro e w23 ⟨rfl, hb⟩
        replace Y := Y.below hb
        replace R := R.below hb
        replace B := B.trans (hb.mono B.size)
        clear hb
        go_wp2_with fail
        refine (R.vol c3 _ _ true V2.out).mono ?_
        rintro e w24 ⟨rfl, hb⟩
        replace Y := Y.below hb
        replace R := R.below hb
        replace B := B.trans (hb.mono B.size)
        clear hb
        by_cases zd : z = d
        · obtain rfl := EQ.out zd
          subst zd
          have hd0 : (z == z) = true := by simp
          clear V1 V2 EQ
          go_wp2_with (go_at_call 18; refine (vParcels_c _ _ _ _ _ _ R.rd Y.rd (by have := R.len; omega)).mono ?_; rintro e w' ⟨rfl, nd, rfl⟩)
          go_meet
          exact below_drewN B _
        · have hd0 : (z == d) = false := by simp [zd]
          go_wp2_with fail
          go_meet
          exact B
    case rest => as_aux_lemma =>
      clear Y R HP B hz hd1
      have B := hcut
      have h2 : RdB wc wc.heap.size A n := (H.out.below B).more B.size
      clear hl hcut
      go_wp2_with fail
      refine (drawLeast_c A n c _ h2).mono ?_
      rintro e w50 ⟨A1, c1, ys, rfl, O1, hl, hb⟩
      replace B := B.trans (hb.mono B.size)
      have Y := RL.own O1 (by omega)
      clear O1 hb h2
      obtain ⟨b, a, num, den, t, e1, e2, law⟩ := least_law2 ys
      have E1 := Lib.hid e1
      have E2 := Lib.hid e2
      have LW := Lib.hid law
      clear e1 e2 law
      go_wp2_with fail
      refine (Y.least c1 b a t E1.out).mono ?_
      rintro e w61 ⟨rfl, hb⟩
      replace Y := Y.below hb
      replace B := B.trans (hb.mono B.size)
      clear hb
      go_wp2_with fail
      refine (Y.sleast c1 b a t E1.out).mono ?_
      rintro e w62 ⟨rfl, hb⟩
      replace Y := Y.below hb
      replace B := B.trans (hb.mono B.size)
      clear hb
      go_wp2_with fail
      refine (Y.mean c1 num den t E2.out).mono ?_
      rintro e w63 ⟨rfl, hb⟩
      replace Y := Y.below hb
      replace B := B.trans (hb.mono B.size)
      clear hb
      go_wp2_with fail
      refine (Y.smean c1 num den t E2.out).mono ?_
      rintro e w64 ⟨rfl, hb⟩
      replace Y := Y.below hb
      replace B := B.trans (hb.mono B.size)
      clear hb
      go_upto_if 177 with (fail)
      go_cut [177] (fun _ wx => Below w.heap.size w wx)
      case first => as_aux_lemma =>
        cases t
        · clear Y
          go_wp2_with fail
          go_meet
          exact B
        · obtain ⟨g1, a1, ⟨b0, b1⟩, ⟨d0, d1⟩, le⟩ := LW.out rfl
          have G1 := Lib.hid g1
          have bm := mul_b b0 b1 d0 d1
          obtain ⟨Q, hQ⟩ : ∃ x, x = b * den := ⟨_, rfl⟩
          have Wq : IntKind.i64.wrap (b * den) = Q := by rw [hQ]; exact IntWalk.i64_in _ (by omega)
          have dq : decide (num < Q) = false := decide_eq_false (by rw [hQ]; omega)
          clear hQ bm le b0 b1 d0 d1 g1 LW
          go_wp2_with fail
          refine (Y.grade c1 a b true G1.out (by omega)).mono ?_
          rintro e w65 ⟨rfl, hb⟩
          replace Y := Y.below hb
          replace B := B.trans (hb.mono B.size)
          clear hb
          go_wp2_with fail
          go_meet
          exact B
      case rest => as_aux_lemma =>
        clear Y E1 E2 LW B hl
        have B := hcut
        have h2 : RdB wc wc.heap.size A n := (H.out.below B).more B.size
        clear hcut
        go_wp2_with fail
        refine (drawFlush_c A n c _ h2).mono ?_
        rintro e w70 ⟨A1, c1, ys, z, rfl, hz, O1, hl, hb⟩
        replace B := B.trans (hb.mono B.size)
        have Y := RL.own O1 (by omega)
        clear O1 hb h2
        obtain ⟨f, fine, hp⟩ : ∃ a t, flushR ys z = (a, t) := ⟨_, _, rfl⟩
        have HP := Lib.hid hp
        clear hp
        go_wp2_with fail
        refine (Y.flush c1 z f fine HP.out).mono ?_
        rintro e w81 ⟨rfl, hb⟩
        replace Y := Y.below hb
        replace B := B.trans (hb.mono B.size)
        clear hb
        go_wp2_with fail
        refine (Y.sflush c1 z f fine HP.out).mono ?_
        rintro e w82 ⟨rfl, hb⟩
        replace Y := Y.below hb
        replace B := B.trans (hb.mono B.size)
        clear hb
        cases fine
        · go_wp2
          go_returns
          exact ⟨rfl, B⟩
        · obtain ⟨v1, f0, f1, f2, lo, hi⟩ := flush_law HP.out
          have V1 := Lib.hid v1
          have LO := Lib.hid lo
          have HI := Lib.hid hi
          clear v1 lo hi HP
          generalize sumV ys ys.length = vol at *
          generalize sumM ys ys.length = mass at *
          obtain ⟨D, hD⟩ : ∃ x : Nat, (x : Int) = vol - f := ⟨(vol - f).toNat, by omega⟩
          have Wd : IntKind.i64.wrap (vol - f) = (D : Int) := by rw [hD]; exact IntWalk.i64_in _ (by omega)
          have LO2 := LO.out
          have HI2 := HI.out
          rw [← hD] at LO2 HI2
          have LH := Lib.hid LO2
          have HH := Lib.hid HI2
          have D1 : D ≤ 1000 := by omega
          clear LO HI LO2 HI2 hD f0 f1 f2
          go_wp2_with fail
          refine (Y.vol c1 _ _ true V1.out).mono ?_
          rintro e w83 ⟨rfl, hb⟩
          replace Y := Y.below hb
          replace B := B.trans (hb.mono B.size)
          clear hb
          have YB := Lib.hid (And.intro Y B)
          clear Y B V1
          go_wp2
          go_loopw [40, 41, 42] (fun iv _ _ wr => ∃ k : Nat, k ≤ D ∧ iv = .int .i64 k ∧ RL wr A1 ys ∧ Below w.heap.size w wr) (fun iv _ _ _ => D + 1 - (intOf iv).toNat)
          case atStart => exact ⟨0, by omega, rfl, YB.out.1, YB.out.2⟩
          case round =>
            clear YB
            obtain ⟨k, hk, rfl, Y, B⟩ := hrel
            by_cases hlt : k < D
            · have hi : (k : Int) < (D : Int) := by omega
              obtain ⟨gg, g1, g2⟩ := LH.out k hi
              have G1 := Lib.hid g1
              have dg : decide (z < gg) = false := decide_eq_false (by omega)
              have Wk : IntKind.i64.wrap ((k : Int) + 1) = (k : Int) + 1 := IntWalk.i64_in _ (by omega)
              clear g1 g2
              go_wp2_with fail
              refine (Y.grade c1 k gg true G1.out (by omega)).mono ?_
              rintro e w91 ⟨rfl, hb⟩
              replace Y := Y.below hb
              replace B := B.trans (hb.mono B.size)
              clear hb
              go_wp2
              go_roundw
              case rel => exact ⟨k + 1, by omega, by go_num, Y, B⟩
              case measure => simp [intOf]; omega
            · obtain rfl : k = D := by omega
              have hi : ¬ (k : Int) < (k : Int) := by omega
              by_cases fp : 0 < f
              · obtain ⟨gg, g1, g2⟩ := HH.out fp
                have G1 := Lib.hid g1
                have df : decide (0 < f) = true := decide_eq_true fp
                have dg : decide (z < gg) = true := decide_eq_true g2
                clear g1 g2 LH HH
                go_wp2_with fail
                refine (Y.grade c1 k gg true G1.out (by omega)).mono ?_
                rintro e w101 ⟨rfl, hb⟩
                replace Y := Y.below hb
                replace B := B.trans (hb.mono B.size)
                clear hb
                go_wp2
                go_returns
                exact ⟨rfl, B⟩
              · have df : decide (0 < f) = false := decide_eq_false fp
                clear LH HH Y
                go_wp2
                go_returns
                exact ⟨rfl, B⟩
end Go.Proofs.Ytjpijcmfnckmaaa
