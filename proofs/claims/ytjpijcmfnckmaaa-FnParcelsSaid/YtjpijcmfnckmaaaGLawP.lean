/- The great law on parcels, walked. -/
import Derived.Test.YtjpijcmfnckmaaaGBox
import Derived.Test.YtjpijcmfnckmaaaAfter
namespace Go.Proofs.Ytjpijcmfnckmaaa
open Go.RowKit

set_option maxRecDepth 100000 in
set_option maxHeartbeats 16000000 in
theorem parcels_law (A : Option Addr) (n c : Nat) (w : World) (h : RdB w w.heap.size A n) : Calls Try.prog 3 #[.slice A n c] w fun e w' => e = .returned (.bool true) ∧ Below w.heap.size w w' := by
  by_cases hn : (65536 : Int) < (n : Int)
  · have hd : decide ((65536 : Int) < n) = true := by simp; omega
    go_enter Try.func3, Try.ntmps3
    go_wp2_with (go_at_call 14; refine (vBigP_c _ _ _ _).mono ?_; rintro e w' ⟨rfl, rfl⟩)
    (go_returns; exact ⟨by first | rfl | (simp; done) | (simp; omega), by (repeat' (first | (with_reducible exact Below.refl _ _) | (with_reducible assumption) | (with_reducible refine below_drewN ?_ _) | (with_reducible refine Below.alloc ?_ ?_ _) | (with_reducible refine Below.drew ?_) | (with_reducible refine Below.setCell ?_ ?_ _) | go_size))⟩)
  have hd : decide ((65536 : Int) < n) = false := by simp; omega
  have H := Lib.hid h
  clear h
  go_enter Try.func3, Try.ntmps3
  go_wp2_with fail
  refine (vBigP_c _ _ _ _).mono ?_
  rintro e w' ⟨rfl, rfl⟩
  go_wp2_with fail
  refine (drawPush_c A n c _ H.out).mono ?_
  rintro e w1 ⟨A1, c1, ys, V, G, rfl, O1, hl, hb1⟩
  go_upto_region 4 with (fail)
  obtain ⟨w2, hW⟩ : ∃ X, X = w1.alloc (.cells #[.int .i64 V, .int .i64 G] 26) := ⟨_, rfl⟩
  rw [← hW]
  have hb : Below w1.heap.size w1 w2 := by rw [hW]; exact (Below.refl _ _).alloc (Nat.le_refl _) _
  have X : PX w2 w1.heap.size V G := ⟨by rw [hW]; exact World.cell?_alloc_new w1 _ _ 0, by rw [hW]; exact World.cell?_alloc_new w1 _ _ 1⟩
  have Y := (RL.own O1 (by omega)).below hb
  have B := hb1.trans (hb.mono hb1.size)
  clear hW hb hb1 O1
  generalize w1.heap.size = p at *
  obtain ⟨s, l, ok, hp⟩ : ∃ s l ok, pushR ys V G = ((s, l), ok) := ⟨_, _, _, rfl⟩
  have HP := Lib.hid hp
  clear hp
  have p0 := X.c0
  have p1 := X.c1
  go_wp2_with fail
  refine (Y.push c1 V G s l ok HP.out hl).mono ?_
  rintro e w21 ⟨A3, c3, A4, c4, rfl, S, U, hb⟩
  clear p0 p1
  replace X := X.below hb
  replace Y := Y.below hb
  replace B := B.trans (hb.mono B.size)
  clear hb
  have p0 := X.c0
  have p1 := X.c1
  go_wp2_with fail
  refine (Y.spush c1 V G s l ok HP.out hl).mono ?_
  rintro e w22 ⟨A5, c5, A6, c6, rfl, S2, U2, hb⟩
  clear p0 p1
  replace X := X.below hb
  replace Y := Y.below hb
  replace S := S.below hb
  replace U := U.below hb
  replace B := B.trans (hb.mono B.size)
  clear hb
  go_upto_region 6 with (fail)
  go_cut [83] (fun s wx => s = .bool false ∧ Below w22.heap.size w22 wx)
  case first => as_aux_lemma =>
    obtain ⟨gp, hgp⟩ : ∃ t, goodPs ys = t := ⟨_, rfl⟩
    have GP := Lib.hid hgp
    clear hgp
    cases ok
    · clear X
      go_wp2_with fail
      refine (vParcels_c _ _ _ _ _ _ S.rd S2.rd (by have := S.len; omega)).mono ?_
      rintro e w' ⟨rfl, nd, rfl⟩
      have hb := below_drewN (Below.refl w22.heap.size w22) nd
      replace U := U.below hb
      replace U2 := U2.below hb
      replace Y := Y.below hb
      generalize w22.drewN nd = wa at *
      clear S S2
      go_wp2_with fail
      refine (vParcels_c _ _ _ _ _ _ U.rd U2.rd (by have := U.len; omega)).mono ?_
      rintro e w' ⟨rfl, nd, rfl⟩
      replace hb := below_drewN hb nd
      have hb2 := below_drewN (Below.refl wa.heap.size wa) nd
      replace Y := Y.below hb2
      clear hb2
      generalize wa.drewN nd = wb at *
      clear U U2
      go_wp2_with fail
      refine (Y.pipe c1 gp GP.out).mono ?_
      rintro e wd ⟨rfl, hb2⟩
      replace Y := Y.below hb2
      replace hb := hb.trans (hb2.mono hb.size)
      clear hb2
      cases gp
      · go_wp2_with fail
        refine (Y.spipe c1 _ GP.out).mono ?_
        rintro e we ⟨rfl, hb2⟩
        replace hb := hb.trans (hb2.mono hb.size)
        go_wp2_with fail
        go_meet
        exact ⟨rfl, hb⟩
      · go_wp2_with fail
        refine (Y.spipe c1 _ GP.out).mono ?_
        rintro e we ⟨rfl, hb2⟩
        replace hb := hb.trans (hb2.mono hb.size)
        go_wp2_with fail
        go_meet
        exact ⟨rfl, hb⟩
    · clear X
      go_wp2_with fail
      refine (vParcels_c _ _ _ _ _ _ S.rd S2.rd (by have := S.len; omega)).mono ?_
      rintro e w' ⟨rfl, nd, rfl⟩
      have hb := below_drewN (Below.refl w22.heap.size w22) nd
      replace U := U.below hb
      replace U2 := U2.below hb
      replace Y := Y.below hb
      generalize w22.drewN nd = wa at *
      clear S S2
      go_wp2_with fail
      refine (vParcels_c _ _ _ _ _ _ U.rd U2.rd (by have := U.len; omega)).mono ?_
      rintro e w' ⟨rfl, nd, rfl⟩
      replace hb := below_drewN hb nd
      have hb2 := below_drewN (Below.refl wa.heap.size wa) nd
      replace Y := Y.below hb2
      clear hb2
      generalize wa.drewN nd = wb at *
      clear U U2
      go_wp2_with fail
      refine (Y.pipe c1 gp GP.out).mono ?_
      rintro e wd ⟨rfl, hb2⟩
      replace Y := Y.below hb2
      replace hb := hb.trans (hb2.mono hb.size)
      clear hb2
      cases gp
      · go_wp2_with fail
        refine (Y.spipe c1 _ GP.out).mono ?_
        rintro e we ⟨rfl, hb2⟩
        replace hb := hb.trans (hb2.mono hb.size)
        go_wp2_with fail
        go_meet
        exact ⟨rfl, hb⟩
      · go_wp2_with fail
        refine (Y.spipe c1 _ GP.out).mono ?_
        rintro e we ⟨rfl, hb2⟩
        replace hb := hb.trans (hb2.mono hb.size)
        go_wp2_with fail
        go_meet
        exact ⟨rfl, hb⟩
  case rest => as_aux_lemma =>
    obtain ⟨rfl, hb⟩ := hcut
    clear S2 U2
    replace X := X.below hb
    replace Y := Y.below hb
    replace S := S.below hb
    replace U := U.below hb
    replace B := B.trans (hb.mono B.size)
    clear hb
    go_upto_if 84 with (fail)
    go_cut [84] (fun _ wx => Below w.heap.size w wx)
    case first => as_aux_lemma =>
      cases ok
      · clear X Y S U
        go_wp2_with fail
        go_meet
        exact B
      · obtain ⟨okp, gys, v1, v2, sv, sm, g0, gV⟩ := push_law HP.out
        have oj := leaves_ok HP.out
        have lb := okJ_b oj
        obtain ⟨o1, o2, o3, o4⟩ := okP_out okp
        obtain ⟨e1, e2, e3, e4⟩ := goodPs_ext gys
        have mb := mass_b gys
        have mv := mul_b (show (0 : Int) ≤ V by omega) o2 o3 o4
        have sl := (lb l.length (Nat.le_refl _))
        rw [sv] at lb sl
        have V1 := Lib.hid v1
        have V2 := Lib.hid v2
        have SM := Lib.hid sm
        have GO := Lib.hid g0
        have GV := Lib.hid gV
        have LB := Lib.hid lb
        have OJ := Lib.hid oj
        have SV := Lib.hid sv
        have yl : sumV ys ys.length ≤ 1000 := by omega
        clear okp gys v1 v2 sm g0 gV lb oj sv e1 e2 e3 e4
        go_wp2_with fail
        refine (Y.vol c1 _ _ true V1.out).mono ?_
        rintro e w23 ⟨rfl, hb⟩
        replace X := X.below hb
        replace Y := Y.below hb
        replace S := S.below hb
        replace U := U.below hb
        replace B := B.trans (hb.mono B.size)
        clear hb
        go_wp2_with fail
        refine (S.vol c3 _ _ true V2.out).mono ?_
        rintro e w24 ⟨rfl, hb⟩
        replace X := X.below hb
        replace Y := Y.below hb
        replace S := S.below hb
        replace U := U.below hb
        replace B := B.trans (hb.mono B.size)
        clear hb
        have U0 := U
        have OU := Lib.hid (And.intro U B)
        clear U0 U B
        have X0 := Lib.hid (And.intro X (And.intro Y S))
        clear X Y S
        generalize sumV ys ys.length = vol at *
        generalize sumM ys ys.length = mass at *
        generalize sumM s s.length = left at *
        go_wp2
        go_loopw [17, 18, 19] (fun gv lv iv wr => ∃ k : Nat, k ≤ l.length ∧ iv = .int .i64 k ∧ gv = .int .i64 (sumV l k) ∧ lv = .int .i64 (sumM l k) ∧ ∃ q, wr = w24.drewN q) (fun _ _ iv _ => l.length - (intOf iv).toNat)
        case atStart => exact ⟨0, by omega, rfl, rfl, rfl, 0, rfl⟩
        case round =>
          obtain ⟨k, hk, rfl, rfl, rfl, q, rfl⟩ := hrel
          by_cases hlt : k < l.length
          · obtain ⟨b, off, x, y, hA, hx, hb, hc0, hc1⟩ := OU.out.1.rd.at_ hlt
            subst hA
            have lk := LB.out k hk
            have lk1 := LB.out (k + 1) (by omega)
            have oo := OJ.out k hlt
            have s1 := sumV_succ hx
            have s2 := sumM_succ hx
            rw [← hx] at oo
            have xy := Int.mul_nonneg (show 0 ≤ x by omega) oo.2.1
            have hi : (k : Int) < (l.length : Int) := by omega
            simp only at oo
            have W1 : IntKind.i64.wrap (sumV l k + x) = sumV l (k + 1) := by rw [s1]; exact IntWalk.i64_in _ (by omega)
            have Wm : IntKind.i64.wrap (x * y) = x * y := IntWalk.i64_in _ (by omega)
            have W2 : IntKind.i64.wrap (sumM l k + x * y) = sumM l (k + 1) := by rw [s2]; exact IntWalk.i64_in _ (by omega)
            have Wk : IntKind.i64.wrap ((k : Int) + 1) = (k : Int) + 1 := IntWalk.i64_in _ (by omega)
            clear s1 s2 lk lk1 oo xy hx
            go_wp2_with fail
            go_quiet (fail)
            go_wp2
            go_roundw
            case rel => exact ⟨k + 1, by omega, by go_num, rfl, rfl, _, by first | rfl | exact World.drewN_drewN _ _ _⟩
            case measure => simp [intOf]; omega
          · obtain rfl : k = l.length := by omega
            rw [SV.out]
            have hb := below_drewN (Below.refl w24.heap.size w24) q
            have X := X0.out.1.below hb
            have Y := X0.out.2.1.below hb
            have S := X0.out.2.2.below hb
            have B := OU.out.2.trans (hb.mono OU.out.2.size)
            clear X0 OU hb
            generalize w24.drewN q = wl at *
            generalize sumM l l.length = lost at *
            go_wp2_with fail
            refine (S.grade c3 0 G true GO.out (by omega)).mono ?_
            rintro e w25 ⟨rfl, hb⟩
            replace X := X.below hb
            replace Y := Y.below hb
            replace S := S.below hb
            replace B := B.trans (hb.mono B.size)
            clear hb
            have Wa : IntKind.i64.wrap (V * G) = V * G := IntWalk.i64_in _ (by omega)
            obtain ⟨K, hK⟩ : ∃ K, K = mass + V * G := ⟨_, rfl⟩
            have sm := SM.out
            rw [← hK] at sm
            have Wb : IntKind.i64.wrap (mass + V * G) = K := by rw [hK]; exact IntWalk.i64_in _ (by omega)
            have Wc : IntKind.i64.wrap (left + lost) = K := by rw [← sm, hK]; exact IntWalk.i64_in _ (by omega)
            clear sm hK SM sl mb mv
            go_upto_region 18 with (fail)
            go_cut [167] (fun s wx => s = .bool false ∧ wx = w25)
            case first => as_aux_lemma =>
              have p0 := X.c0
              have p1 := X.c1
              clear X Y S B
              go_wp2_with fail
              go_meet
              exact ⟨rfl, rfl⟩
            case rest => as_aux_lemma =>
              obtain ⟨rfl, rfl⟩ := hcut
              clear Wa Wb Wc
              by_cases hv : V < vol
              · have dv : decide (V < vol) = true := decide_eq_true hv
                obtain ⟨gg, ga, gb⟩ := GV.out hv
                have GA := Lib.hid ga
                have GB := Lib.hid gb
                clear ga gb GV
                have p0 := X.c0
                have p1 := X.c1
                go_wp2_with fail
                refine (Y.grade c1 0 gg true GA.out (by omega)).mono ?_
                rintro e w27 ⟨rfl, hb⟩
                clear p0 p1
                replace X := X.below hb
                replace Y := Y.below hb
                replace S := S.below hb
                replace B := B.trans (hb.mono B.size)
                clear hb
                have p0 := X.c0
                have p1 := X.c1
                go_wp2_with fail
                refine (S.grade c3 V gg true GB.out (by omega)).mono ?_
                rintro e w28 ⟨rfl, hb⟩
                clear p0 p1
                replace X := X.below hb
                replace Y := Y.below hb
                replace S := S.below hb
                replace B := B.trans (hb.mono B.size)
                clear hb
                go_wp2_with fail
                go_meet
                exact B
              · have dv : decide (V < vol) = false := decide_eq_false hv
                have p0 := X.c0
                have p1 := X.c1
                go_wp2_with fail
                go_meet
                exact B
    case rest => as_aux_lemma =>
      clear X Y S U HP B
      have B := hcut
      have h2 : RdB wc wc.heap.size A n := (H.out.below B).more B.size
      clear hl
      go_wp2_with fail
      refine (drawGradeAt_c A n c _ h2).mono ?_
      rintro e w50 ⟨A1, c1, ys, z, rfl, hz, O1, hl, hb⟩
      replace B := B.trans (hb.mono B.size)
      have Y := RL.own O1 (by omega)
      clear O1 hb h2
      obtain ⟨gr, told, hg⟩ : ∃ a t, gradeR ys z = (a, t) := ⟨_, _, rfl⟩
      obtain ⟨r, rok, hr⟩ : ∃ a t, revR ys = (a, t) := ⟨_, _, rfl⟩
      have HG := Lib.hid hg
      have HR := Lib.hid hr
      clear hg hr
      go_wp2_with fail
      refine (Y.grade c1 z gr told HG.out (by omega)).mono ?_
      rintro e w61 ⟨rfl, hb⟩
      replace Y := Y.below hb
      replace B := B.trans (hb.mono B.size)
      clear hb
      go_wp2_with fail
      refine (Y.sgrade c1 z gr told HG.out (by omega)).mono ?_
      rintro e w62 ⟨rfl, hb⟩
      replace Y := Y.below hb
      replace B := B.trans (hb.mono B.size)
      clear hb
      go_wp2_with fail
      refine (Y.rev c1 r rok HR.out).mono ?_
      rintro e w63 ⟨A7, c7, rfl, R, hb⟩
      replace Y := Y.below hb
      replace B := B.trans (hb.mono B.size)
      clear hb
      go_wp2_with fail
      refine (Y.srev c1 r rok HR.out).mono ?_
      rintro e w64 ⟨A8, c8, rfl, R2, hb⟩
      replace Y := Y.below hb
      replace R := R.below hb
      replace B := B.trans (hb.mono B.size)
      clear hb
      go_upto_region 32 with (fail)
      go_cut [238] (fun s wx => s = .bool false ∧ ∃ q, wx = w64.drewN q)
      case first => as_aux_lemma =>
        go_wp2_with (go_at_call 18; refine (vParcels_c _ _ _ _ _ _ R.rd R2.rd (by have := R.len; omega)).mono ?_; rintro e w' ⟨rfl, nd, rfl⟩)
        go_meet
        exact ⟨rfl, _, rfl⟩
      case rest => as_aux_lemma =>
        obtain ⟨rfl, q, rfl⟩ := hcut
        have hb := below_drewN (Below.refl w64.heap.size w64) q
        clear R2
        replace Y := Y.below hb
        replace R := R.below hb
        replace B := B.trans (hb.mono B.size)
        clear hb
        generalize w64.drewN q = wm at *
        cases told
        · go_wp2
          go_returns
          exact ⟨rfl, B⟩
        · obtain ⟨e1, e2, z0, z1, vb, e3⟩ := rev_law HG.out
          rw [HR.out] at e1
          simp only [Prod.mk.injEq] at e1
          rw [← e1.1] at e3
          obtain ⟨e0, rfl⟩ := e1
          clear e0 HR
          generalize sumV ys ys.length = vol at *
          generalize sumM ys ys.length = mass at *
          have E2 := Lib.hid e2
          have E3 := Lib.hid e3
          clear e2 e3
          obtain ⟨u, hu⟩ : ∃ u, u = vol - 1 := ⟨_, rfl⟩
          obtain ⟨dd, hdd⟩ : ∃ d, d = u - z := ⟨_, rfl⟩
          have E4 := E3.out
          rw [← hu, ← hdd] at E4
          have E5 := Lib.hid E4
          clear E3 E4
          have Wv : IntKind.i64.wrap (vol - 1) = u := by rw [hu]; exact IntWalk.i64_in _ (by omega)
          have Wz : IntKind.i64.wrap (u - z) = dd := by rw [hdd]; exact IntWalk.i64_in _ (by omega)
          have db : dd ≤ 1000000 := by omega
          clear hu hdd z0 z1 vb hz
          go_wp2_with fail
          refine (Y.vol c1 _ _ true E2.out).mono ?_
          rintro e w65 ⟨rfl, hb⟩
          replace Y := Y.below hb
          replace R := R.below hb
          replace B := B.trans (hb.mono B.size)
          clear hb
          go_wp2_with fail
          refine (R.grade c7 _ gr true E5.out db).mono ?_
          rintro e w66 ⟨rfl, hb⟩
          replace Y := Y.below hb
          replace R := R.below hb
          replace B := B.trans (hb.mono B.size)
          clear hb
          go_wp2
          go_returns
          exact ⟨rfl, B⟩
end Go.Proofs.Ytjpijcmfnckmaaa
