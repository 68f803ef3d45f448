/- The great law on costs, prices and simpler tariffs, walked. -/
import Derived.Test.YtbfaejacfhblkaaGHelp
namespace Go.Proofs.Ytbfaejacfhblkaa
open Go.RowKit

theorem splitR_len7 {F v : Int} {xs : List (Int × Int)} (h : xs.length ≤ 6) : (splitR F xs v).1.length ≤ 7 := by
  unfold splitR; split
  · have := splitT_len F xs v xs.length; simp only; omega
  · simp
theorem tariffs_names (F : Int) (xs : List (Int × Int)) (v : Int) : ∃ (k : Int) (ok : Bool) (p : Int) (fine : Bool) (zs : List Int) (G : Int) (ys : List (Int × Int)) (known : Bool) (a b : Int) (mean : Bool), costR F xs v = (k, ok) ∧ nextR F xs v = (p, fine) ∧ splitR F xs v = (zs, ok) ∧ simT F xs = ((G, ys), known) ∧ goodT F xs = known ∧ meanTR F xs v = (a, b, mean) := by
  refine ⟨(costR F xs v).1, (costR F xs v).2, (nextR F xs v).1, (nextR F xs v).2, (splitR F xs v).1, (simT F xs).1.1, (simT F xs).1.2, (simT F xs).2, (meanTR F xs v).1, (meanTR F xs v).2.1, (meanTR F xs v).2.2, rfl, rfl, ?_, rfl, (sim_ok F xs).symm, rfl⟩
  have e : (splitR F xs v).2 = (costR F xs v).2 := by unfold costR splitR; split <;> rfl
  rw [← e]
set_option maxRecDepth 100000 in
set_option maxHeartbeats 16000000 in
theorem tariffs_great (A : Option Addr) (n c : Nat) (w : World) (h : RdB w w.heap.size A n) : Calls Try.prog 14 #[.slice A n c] w fun e w' => e = .returned (.bool true) ∧ Below w.heap.size w w' := by
  by_cases hn : (65536 : Int) < (n : Int)
  · have hd : decide ((65536 : Int) < n) = true := by simp; omega
    go_enter Try.func14, Try.ntmps14
    go_wp2_with (go_at_call 43; refine (rBigT_c _ _ _ _).mono ?_; rintro e w' ⟨rfl, rfl⟩)
    (go_returns; exact ⟨by first | rfl | (simp; done) | (simp; omega), by (repeat' (first | (with_reducible exact Below.refl _ _) | (with_reducible assumption) | (with_reducible refine below_drewN ?_ _) | (with_reducible refine Below.alloc ?_ ?_ _) | (with_reducible refine Below.drew ?_) | (with_reducible refine Below.setCell ?_ ?_ _) | go_size))⟩)
  have hd : decide ((65536 : Int) < n) = false := by simp; omega
  have H := Lib.hid h
  clear h
  go_enter Try.func14, Try.ntmps14
  go_wp2_with fail
  refine (rBigT_c _ _ _ _).mono ?_
  rintro e w' ⟨rfl, rfl⟩
  go_wp2_with fail
  refine (drawCost_c A n c _ H.out).mono ?_
  rintro e w1 ⟨F, A1, c1, xs, v, rfl, O1, hl, B⟩
  have Y : RL w1 A1 xs := ⟨O1, by omega⟩
  clear O1
  go_upto_region 4 with (fail)
  obtain ⟨w2, hW⟩ : ∃ X, X = w1.alloc (.cells #[.int .i64 F, .slice A1 xs.length c1] 29) := ⟨_, rfl⟩
  rw [← hW]
  have hb : Below w1.heap.size w1 w2 := by rw [hW]; exact (Below.refl _ _).alloc (Nat.le_refl _) _
  have X : PX w2 w1.heap.size F A1 xs.length c1 := ⟨by rw [hW]; exact World.cell?_alloc_new w1 _ _ 0, by rw [hW]; exact World.cell?_alloc_new w1 _ _ 1⟩
  clear hW
  replace Y := Y.below hb
  replace B := B.trans (hb.mono B.size)
  clear hb
  generalize w1.heap.size = p1 at *
  obtain ⟨k, ok, p, fine, zs, G, ys, known, a, b, mean, e1, e2, e3, e4, e5, e6⟩ := tariffs_names F xs v
  have zl : zs.length ≤ 7 := by have := splitR_len7 (F := F) (v := v) hl; rw [e3] at this; exact this
  have yl : ys.length ≤ 6 := by have := simT_len6 (F := F) hl; rw [e4] at this; exact this
  have E1 := Lib.hid e1
  have E2 := Lib.hid e2
  have E3 := Lib.hid e3
  have E4 := Lib.hid e4
  have E5 := Lib.hid e5
  have E6 := Lib.hid e6
  clear e1 e2 e3 e4 e5 e6
  have p0 := X.c0
  have pp := X.c1
  go_wp2_with fail
  refine (Y.cost c1 v k ok E1.out).mono ?_
  rintro e w23 ⟨rfl, hb⟩
  clear p0 pp
  replace Y := Y.below hb
  replace X := X.below hb
  replace B := B.trans (hb.mono B.size)
  clear hb
  have p0 := X.c0
  have pp := X.c1
  go_wp2_with fail
  refine (Y.scost c1 v k ok E1.out).mono ?_
  rintro e w24 ⟨rfl, hb⟩
  clear p0 pp
  replace Y := Y.below hb
  replace X := X.below hb
  replace B := B.trans (hb.mono B.size)
  clear hb
  have p0 := X.c0
  have pp := X.c1
  go_wp2_with fail
  refine (Y.next c1 v p fine E2.out).mono ?_
  rintro e w25 ⟨rfl, hb⟩
  clear p0 pp
  replace Y := Y.below hb
  replace X := X.below hb
  replace B := B.trans (hb.mono B.size)
  clear hb
  have p0 := X.c0
  have pp := X.c1
  go_wp2_with fail
  refine (Y.snext c1 v p fine E2.out).mono ?_
  rintro e w26 ⟨rfl, hb⟩
  clear p0 pp
  replace Y := Y.below hb
  replace X := X.below hb
  replace B := B.trans (hb.mono B.size)
  clear hb
  have p0 := X.c0
  have pp := X.c1
  go_wp2_with fail
  refine (Y.split c1 v zs ok E3.out).mono ?_
  rintro e w27 ⟨A3, c3, rfl, V, hb⟩
  clear p0 pp
  replace Y := Y.below hb
  replace X := X.below hb
  replace B := B.trans (hb.mono B.size)
  clear hb
  have p0 := X.c0
  have pp := X.c1
  go_wp2_with fail
  refine (Y.ssplit c1 v zs ok E3.out).mono ?_
  rintro e w28 ⟨A4, c4, rfl, V2, hb⟩
  clear p0 pp
  replace Y := Y.below hb
  replace X := X.below hb
  replace V := V.below hb
  replace B := B.trans (hb.mono B.size)
  clear hb
  go_upto_region 14 with (fail)
  go_cut [108] (fun s wx => s = .bool false ∧ ∃ q, wx = w28.drewN q)
  case first => as_aux_lemma =>
    cases ok
    · go_wp2_with (go_at_call 49; refine (rInts_c _ _ _ _ _ _ V.rd V2.rd (by omega)).mono ?_; rintro e w' ⟨rfl, nd, rfl⟩)
      go_meet
      exact ⟨rfl, _, rfl⟩
    · go_wp2_with (go_at_call 49; refine (rInts_c _ _ _ _ _ _ V.rd V2.rd (by omega)).mono ?_; rintro e w' ⟨rfl, nd, rfl⟩)
      go_meet
      exact ⟨rfl, _, rfl⟩
  case rest => as_aux_lemma =>
    obtain ⟨rfl, q, rfl⟩ := hcut
    have hb := below_drewN (Below.refl w28.heap.size w28) q
    clear V2
    replace Y := Y.below hb
    replace X := X.below hb
    replace V := V.below hb
    replace B := B.trans (hb.mono B.size)
    clear hb
    generalize w28.drewN q = wm at *
    have p0 := X.c0
    have pp := X.c1
    go_wp2_with fail
    refine (Y.sim c1 G ys known E4.out yl).mono ?_
    rintro e w41 ⟨A5, c5, rfl, S, hb⟩
    clear p0 pp
    replace Y := Y.below hb
    replace X := X.below hb
    replace V := V.below hb
    replace B := B.trans (hb.mono B.size)
    clear hb
    have p0 := X.c0
    have pp := X.c1
    go_upto_region 17 with (fail)
    clear p0 pp
    obtain ⟨w51, hW⟩ : ∃ X, X = w41.alloc (.cells #[.int .i64 G, .slice A5 ys.length c5] 29) := ⟨_, rfl⟩
    rw [← hW]
    have hb : Below w41.heap.size w41 w51 := by rw [hW]; exact (Below.refl _ _).alloc (Nat.le_refl _) _
    have Q : PX w51 w41.heap.size G A5 ys.length c5 := ⟨by rw [hW]; exact World.cell?_alloc_new w41 _ _ 0, by rw [hW]; exact World.cell?_alloc_new w41 _ _ 1⟩
    clear hW
    replace Y := Y.below hb
    replace X := X.below hb
    replace V := V.below hb
    replace S := S.below hb
    replace B := B.trans (hb.mono B.size)
    clear hb
    generalize w41.heap.size = p2 at *
    have p0 := X.c0
    have pp := X.c1
    go_wp2_with fail
    refine (Y.ssim c1 G ys known E4.out yl).mono ?_
    rintro e w61 ⟨A6, c6, rfl, S2, hb⟩
    clear p0 pp
    replace Y := Y.below hb
    replace X := X.below hb
    replace V := V.below hb
    replace S := S.below hb
    replace Q := Q.below hb
    replace B := B.trans (hb.mono B.size)
    clear hb
    have p0 := X.c0
    have pp := X.c1
    go_upto_region 18 with (fail)
    clear p0 pp
    obtain ⟨w71, hW⟩ : ∃ X, X = w61.alloc (.cells #[.int .i64 G, .slice A6 ys.length c6] 29) := ⟨_, rfl⟩
    rw [← hW]
    have hb : Below w61.heap.size w61 w71 := by rw [hW]; exact (Below.refl _ _).alloc (Nat.le_refl _) _
    have Q2 : PX w71 w61.heap.size G A6 ys.length c6 := ⟨by rw [hW]; exact World.cell?_alloc_new w61 _ _ 0, by rw [hW]; exact World.cell?_alloc_new w61 _ _ 1⟩
    clear hW
    replace Y := Y.below hb
    replace X := X.below hb
    replace V := V.below hb
    replace S := S.below hb
    replace Q := Q.below hb
    replace S2 := S2.below hb
    replace B := B.trans (hb.mono B.size)
    clear hb
    generalize w61.heap.size = p3 at *
    go_cut [133] (fun s wx => s = .bool false ∧ Below w71.heap.size w71 wx)
    case first => as_aux_lemma =>
      have B := Below.refl w71.heap.size w71
      have SZ := Nat.le_refl w71.heap.size
      cases known
      · skip
        have p0 := X.c0
        have pp := X.c1
        have r0 := Q.c0
        have rr := Q.c1
        have t0 := Q2.c0
        have tt := Q2.c1
        go_wp2_with fail
        refine (rTariffs_c G _ _ _ _ ys _ S.rd S2.rd (Nat.le_refl _) (Nat.le_refl _) (by omega)).mono ?_
        rintro e w81 ⟨rfl, hb⟩
        clear p0 pp r0 rr t0 tt
        replace Y := Y.below hb
        replace X := X.below hb
        replace V := V.below hb
        replace S := S.below hb
        replace Q := Q.below hb
        replace S2 := S2.below hb
        replace Q2 := Q2.below hb
        replace B := B.trans (hb.mono B.size)
        clear hb
        have p0 := X.c0
        have pp := X.c1
        have r0 := Q.c0
        have rr := Q.c1
        have t0 := Q2.c0
        have tt := Q2.c1
        go_wp2_with fail
        refine (Y.good c1 false E5.out).mono ?_
        rintro e w82 ⟨rfl, hb⟩
        clear p0 pp r0 rr t0 tt
        replace Y := Y.below hb
        replace X := X.below hb
        replace V := V.below hb
        replace S := S.below hb
        replace Q := Q.below hb
        replace S2 := S2.below hb
        replace Q2 := Q2.below hb
        replace B := B.trans (hb.mono B.size)
        clear hb
        clear X Q Q2 S S2 V Y
        go_wp2_with fail
        go_meet
        exact ⟨rfl, B⟩
      · skip
        have p0 := X.c0
        have pp := X.c1
        have r0 := Q.c0
        have rr := Q.c1
        have t0 := Q2.c0
        have tt := Q2.c1
        go_wp2_with fail
        refine (rTariffs_c G _ _ _ _ ys _ S.rd S2.rd (Nat.le_refl _) (Nat.le_refl _) (by omega)).mono ?_
        rintro e w81 ⟨rfl, hb⟩
        clear p0 pp r0 rr t0 tt
        replace Y := Y.below hb
        replace X := X.below hb
        replace V := V.below hb
        replace S := S.below hb
        replace Q := Q.below hb
        replace S2 := S2.below hb
        replace Q2 := Q2.below hb
        replace B := B.trans (hb.mono B.size)
        clear hb
        have p0 := X.c0
        have pp := X.c1
        have r0 := Q.c0
        have rr := Q.c1
        have t0 := Q2.c0
        have tt := Q2.c1
        go_wp2_with fail
        refine (Y.good c1 true E5.out).mono ?_
        rintro e w82 ⟨rfl, hb⟩
        clear p0 pp r0 rr t0 tt
        replace Y := Y.below hb
        replace X := X.below hb
        replace V := V.below hb
        replace S := S.below hb
        replace Q := Q.below hb
        replace S2 := S2.below hb
        replace Q2 := Q2.below hb
        replace B := B.trans (hb.mono B.size)
        clear hb
        clear X Q Q2 S S2 V Y
        go_wp2_with fail
        go_meet
        exact ⟨rfl, B⟩
    case rest => as_aux_lemma =>
      obtain ⟨rfl, hb⟩ := hcut
      clear Q2 S2 E5
      replace Y := Y.below hb
      replace X := X.below hb
      replace V := V.below hb
      replace S := S.below hb
      replace Q := Q.below hb
      replace B := B.trans (hb.mono B.size)
      clear hb
      go_upto_if 134 with (fail)
      go_cut [134] (fun _ wy => Below wc.heap.size wc wy)
      case first => as_aux_lemma =>
        have B := Below.refl wc.heap.size wc
        cases ok
        · clear X Q S V Y
          go_wp2_with fail
          go_meet
          exact B
        · obtain ⟨_, z1, z2, f1, f2, e7, f3, ⟨v0, v1⟩, u, two, e8, ⟨u0, u1⟩, f4⟩ := tariffs_law E1.out E2.out E3.out E4.out
          have E7 := Lib.hid e7
          have E8 := Lib.hid e8
          have F1 := Lib.hid f1
          have F2 := Lib.hid f2
          have F3 := Lib.hid f3
          have Wv : IntKind.i64.wrap (v + 1) = v + 1 := IntWalk.i64_in _ (by omega)
          obtain ⟨d, hd⟩ : ∃ d, d = u - k := ⟨_, rfl⟩
          have Wd : IntKind.i64.wrap (u - k) = d := by rw [hd]; exact IntWalk.i64_in _ (by omega)
          have HD := Lib.hid hd
          rw [← hd] at f4
          have F4 := Lib.hid f4
          clear e7 e8 f1 f2 f3 f4 hd E1 E2 E3 E4 E6
          have p0 := X.c0
          have pp := X.c1
          have r0 := Q.c0
          have rr := Q.c1
          go_wp2_with fail
          refine (S.cost c5 v k true E7.out).mono ?_
          rintro e w101 ⟨rfl, hb⟩
          clear p0 pp r0 rr
          replace Y := Y.below hb
          replace X := X.below hb
          replace V := V.below hb
          replace S := S.below hb
          replace Q := Q.below hb
          replace B := B.trans (hb.mono B.size)
          clear hb
          go_upto_region 22 with (fail)
          go_cut [161] (fun s wx => s = .bool false ∧ ∃ q, wx = w101.drewN q)
          case first => as_aux_lemma =>
            have p0 := X.c0
            have pp := X.c1
            obtain ⟨bz, oz, z, rfl, hz, hbz, hcz⟩ := V.rd.at_ (k := 0) (by omega)
            rw [F2.out] at hz
            subst hz
            rw [Nat.add_zero] at hcz
            have hi0 : (0 : Int) < (zs.length : Int) := by omega
            have hc := fun m => rSum_c (some ⟨bz, oz, none⟩) c3 zs (w101.drewN m) (V.rd.drewN m) F3.out (by omega)
            rw [F1.out] at hc
            have HC := Lib.hid hc
            clear hc
            clear X Q S V Y B F1 F2 F3 F4 E7 E8
            go_quiet ((go_at_call 50; first | exact Calls.quiet_of_same ((HC.out _).mono fun _ _ hh => ⟨hh.1, hh.2.symm⟩) | exact quiet_add_same ((HC.out _).mono fun _ _ hh => ⟨hh.1, hh.2.symm⟩)))
            go_wp2
            go_meet
            exact ⟨rfl, _, rfl⟩
          case rest => as_aux_lemma =>
            obtain ⟨rfl, q, rfl⟩ := hcut
            have hb := below_drewN (Below.refl w101.heap.size w101) q
            clear F1 F2 F3 E7
            replace Y := Y.below hb
            replace X := X.below hb
            replace V := V.below hb
            replace S := S.below hb
            replace Q := Q.below hb
            replace B := B.trans (hb.mono B.size)
            clear hb
            generalize w101.drewN q = wz at *
            have p0 := X.c0
            have pp := X.c1
            go_wp2_with fail
            refine (Y.cost c1 (v + 1) u two E8.out).mono ?_
            rintro e w121 ⟨rfl, hb⟩
            clear p0 pp
            replace Y := Y.below hb
            replace X := X.below hb
            replace V := V.below hb
            replace S := S.below hb
            replace Q := Q.below hb
            replace B := B.trans (hb.mono B.size)
            clear hb
            clear X Q S V Y E8
            cases fine
            · clear F4
              go_wp2_with fail
              go_meet
              exact B
            · obtain ⟨rfl, h5⟩ := F4.out rfl
              have d5 : (d == p) = true := by simp [h5]
              have d6 : (d != p) = false := by simp [h5]
              clear h5 F4 HD
              go_wp2_with fail
              go_meet
              exact B
      case rest => as_aux_lemma =>
        have hb := hcut
        clear hcut Q S V E2 E3 E4
        replace Y := Y.below hb
        replace X := X.below hb
        replace B := B.trans (hb.mono B.size)
        clear hb
        have p0 := X.c0
        have pp := X.c1
        go_wp2_with fail
        refine (Y.mean c1 v a b mean E6.out).mono ?_
        rintro e w131 ⟨rfl, hb⟩
        clear p0 pp
        replace Y := Y.below hb
        replace X := X.below hb
        replace B := B.trans (hb.mono B.size)
        clear hb
        have p0 := X.c0
        have pp := X.c1
        go_wp2_with fail
        refine (Y.smean c1 v a b mean E6.out).mono ?_
        rintro e w132 ⟨rfl, hb⟩
        clear p0 pp
        replace Y := Y.below hb
        replace X := X.below hb
        replace B := B.trans (hb.mono B.size)
        clear hb
        go_upto_region 29 with (fail)
        go_cut [219] (fun s wx => s = .bool false ∧ wx = w132)
        case first => as_aux_lemma =>
          clear X Y B
          cases mean
          · go_wp2_with fail
            go_meet
            exact ⟨rfl, rfl⟩
          · obtain ⟨k2, e9, f1, f2, f3⟩ := mean_law E6.out
            have ek : k2 = k := (Prod.mk.inj (e9.symm.trans E1.out)).1
            rw [ek] at f1
            obtain ⟨z, hz⟩ : ∃ z, z = a * v := ⟨_, rfl⟩
            have W1 : IntKind.i64.wrap (a * v) = z := by rw [hz]; exact IntWalk.i64_in _ (by omega)
            have W2 : IntKind.i64.wrap (k * b) = z := by rw [← f1]; exact W1
            clear hz f1 f2 f3 e9 ek E6 E1
            go_wp2_with fail
            go_meet
            exact ⟨rfl, rfl⟩
        case rest => as_aux_lemma =>
          obtain ⟨rfl, rfl⟩ := hcut
          have h2 : RdB wc wc.heap.size A n := (H.out.below B).more B.size
          clear X Y E1 E6 hl zl yl
          go_wp2_with fail
          refine (drawProg_c A n c _ h2).mono ?_
          rintro e w90 ⟨F, A1, c1, xs, rfl, O1, hl, hb⟩
          replace B := B.trans (hb.mono B.size)
          have Y : RL w90 A1 xs := ⟨O1.rd, by omega⟩
          clear O1 hb h2
          go_upto_region 32 with (fail)
          obtain ⟨w91, hW⟩ : ∃ X, X = w90.alloc (.cells #[.int .i64 F, .slice A1 xs.length c1] 29) := ⟨_, rfl⟩
          rw [← hW]
          have hb : Below w90.heap.size w90 w91 := by rw [hW]; exact (Below.refl _ _).alloc (Nat.le_refl _) _
          have X : PX w91 w90.heap.size F A1 xs.length c1 := ⟨by rw [hW]; exact World.cell?_alloc_new w90 _ _ 0, by rw [hW]; exact World.cell?_alloc_new w90 _ _ 1⟩
          clear hW
          replace Y := Y.below hb
          replace B := B.trans (hb.mono B.size)
          clear hb
          generalize w90.heap.size = p5 at *
          obtain ⟨a, t, e1⟩ : ∃ a t, progR F xs = (a, t) := ⟨(progR F xs).1, (progR F xs).2, rfl⟩
          have E1 := Lib.hid e1
          clear e1
          have p0 := X.c0
          have pp := X.c1
          go_wp2_with fail
          refine (Y.prog c1 a t E1.out).mono ?_
          rintro e w141 ⟨rfl, hb⟩
          clear p0 pp
          replace Y := Y.below hb
          replace X := X.below hb
          replace B := B.trans (hb.mono B.size)
          clear hb
          have p0 := X.c0
          have pp := X.c1
          go_wp2_with fail
          refine (Y.sprog c1 a t E1.out).mono ?_
          rintro e w142 ⟨rfl, hb⟩
          clear p0 pp
          replace Y := Y.below hb
          replace X := X.below hb
          replace B := B.trans (hb.mono B.size)
          clear hb
          clear X Y
          go_wp2_with fail
          go_returns
          exact ⟨rfl, B⟩
end Go.Proofs.Ytbfaejacfhblkaa
