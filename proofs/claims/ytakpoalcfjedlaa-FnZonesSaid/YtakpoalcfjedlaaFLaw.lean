/- The great law on zones, walked. -/
import Derived.Test.YtakpoalcfjedlaaFPlain
import Derived.Test.YtakpoalcfjedlaaFDraw2
import Derived.Test.YtakpoalcfjedlaaZZone
import Derived.Test.YtakpoalcfjedlaaZBest
import Derived.Test.YtakpoalcfjedlaaZLev
import Derived.Test.YtakpoalcfjedlaaZSuit2
import Derived.Test.YtakpoalcfjedlaaInts
namespace Go.Proofs.Ytakpoalcfjedlaa
open Go.RowKit

theorem rBigZ_c (A : Option Addr) (n c : Nat) (w : World) : Calls Try.prog 27 #[.slice A n c] w fun e w' => e = .returned (.bool (decide ((65536 : Int) < n))) ∧ w = w' := by
  go_enter Try.func27, Try.ntmps27
  go_wp2
  go_ret
  exact ⟨by simp, rfl⟩
/-- A list that can be read. -/
structure RL (W : World) (B : Option Addr) (zs : List Int) : Prop where
  rd : RdI W W.heap.size B zs
theorem RL.below {W W' : World} {B : Option Addr} {zs : List Int} (h : RL W B zs) (hb : Below W.heap.size W W') : RL W' B zs := ⟨(h.rd.below hb).more hb.size⟩
theorem RL.own {w' : World} {base : Nat} {B : Option Addr} {d : Nat} {zs : List Int} (h : OwnI w' base (.slice B zs.length d) zs) : RL w' B zs := ⟨h.rd⟩
/-- A rule's box. -/
structure PX (W : World) (p : Nat) (V G : Int) : Prop where
  c0 : W.cell? ⟨p, 0, none⟩ = some (.int .i64 V)
  c1 : W.cell? ⟨p, 1, none⟩ = some (.int .i64 G)
theorem PX.below {W W' : World} {p : Nat} {V G : Int} (h : PX W p V G) (hb : Below W.heap.size W W') : PX W' p V G :=
  ⟨(hb.cell (lt_of_cell (by rw [h.c0]; rfl))).trans h.c0, (hb.cell (lt_of_cell (by rw [h.c1]; rfl))).trans h.c1⟩
section
variable {W : World} {A : Option Addr} {xs : List Int}
theorem RL.few (h : RL W A xs) (c : Nat) (L M : Int) (hn : A = none → c = 0) (r : List Int) (ok : Bool) (e : fewL xs L M = (r, ok)) (hl : xs.length ≤ 14) : Calls Try.prog 37 #[.slice A xs.length c, .agg #[.int .i64 L, .int .i64 M]] W (fun e w' => ∃ A3 c3, e = .returned (.tuple #[.slice A3 r.length c3, .bool ok]) ∧ RL w' A3 r ∧ Below W.heap.size W w') := by
  have := implFew_c A c xs L M W h.rd hn (by omega)
  rw [e] at this
  exact this.mono fun e w' ⟨A3, c3, he, o, hb⟩ => ⟨A3, c3, he, RL.own o, hb⟩
theorem RL.sfew (h : RL W A xs) (c : Nat) (L M : Int) (r : List Int) (ok : Bool) (e : fewL xs L M = (r, ok)) (hl : xs.length ≤ 14) : Calls Try.prog 36 #[.slice A xs.length c, .agg #[.int .i64 L, .int .i64 M]] W (fun e w' => ∃ A3 c3, e = .returned (.tuple #[.slice A3 r.length c3, .bool ok]) ∧ RL w' A3 r ∧ Below W.heap.size W w') := by
  have := specFew_c A c xs L M W h.rd (by omega)
  rw [e] at this
  exact this.mono fun e w' ⟨A3, c3, he, o, hb⟩ => ⟨A3, c3, he, RL.own o, hb⟩
theorem RL.zone (h : RL W A xs) (c : Nat) (L M : Int) (hn : A = none → c = 0) (r : List Int) (ok : Bool) (e : zoneL xs L M = (r, ok)) (hl : xs.length ≤ 14) : Calls Try.prog 39 #[.slice A xs.length c, .agg #[.int .i64 L, .int .i64 M]] W (fun e w' => ∃ A3 c3, e = .returned (.tuple #[.slice A3 r.length c3, .bool ok]) ∧ RL w' A3 r ∧ Below W.heap.size W w') := by
  have := implZone_c A c xs L M W h.rd hn (by omega)
  rw [e] at this
  exact this.mono fun e w' ⟨A3, c3, he, o, hb⟩ => ⟨A3, c3, he, RL.own o, hb⟩
theorem RL.szone (h : RL W A xs) (c : Nat) (L M : Int) (r : List Int) (ok : Bool) (e : zoneL xs L M = (r, ok)) (hl : xs.length ≤ 14) : Calls Try.prog 38 #[.slice A xs.length c, .agg #[.int .i64 L, .int .i64 M]] W (fun e w' => ∃ A3 c3, e = .returned (.tuple #[.slice A3 r.length c3, .bool ok]) ∧ RL w' A3 r ∧ Below W.heap.size W w') := by
  have := specZone_c A c xs L M W h.rd (by omega)
  rw [e] at this
  exact this.mono fun e w' ⟨A3, c3, he, o, hb⟩ => ⟨A3, c3, he, RL.own o, hb⟩
theorem RL.suit (h : RL W A xs) (c : Nat) (L M l : Int) (r : List Int) (ok : Bool) (e : suitL xs L M l = (r, ok)) (hl : xs.length ≤ 14) : Calls Try.prog 24 #[.slice A xs.length c, .agg #[.int .i64 L, .int .i64 M], .int .i64 l] W (fun e w' => ∃ A3 c3, e = .returned (.tuple #[.slice A3 r.length c3, .bool ok]) ∧ RL w' A3 r ∧ Below W.heap.size W w') := by
  have := implSuit_c A c xs L M l W h.rd (by omega)
  rw [e] at this
  exact this.mono fun e w' ⟨A3, c3, he, o, hb⟩ => ⟨A3, c3, he, RL.own o, hb⟩
theorem RL.lev (h : RL W A xs) (c : Nat) (L M : Int) (a b : Int) (t : Bool) (e : levL xs L M = (a, b, t)) (hl : xs.length ≤ 14) : Calls Try.prog 26 #[.slice A xs.length c, .agg #[.int .i64 L, .int .i64 M]] W fun e w' => e = .returned (.tuple #[.int .i64 a, .int .i64 b, .bool t]) ∧ Below W.heap.size W w' := by
  have := implLev_c A c xs L M W h.rd (by omega)
  rw [e] at this; exact this
theorem RL.slev (h : RL W A xs) (c : Nat) (L M : Int) (a b : Int) (t : Bool) (e : levL xs L M = (a, b, t)) (hl : xs.length ≤ 14) : Calls Try.prog 25 #[.slice A xs.length c, .agg #[.int .i64 L, .int .i64 M]] W fun e w' => e = .returned (.tuple #[.int .i64 a, .int .i64 b, .bool t]) ∧ Below W.heap.size W w' := by
  have := specLev_c A c xs L M W h.rd (by omega)
  rw [e] at this; exact this
theorem RL.best (h : RL W A xs) (c : Nat) (L M : Int) (a b : Int) (t : Bool) (e : bestL xs L M = (a, b, t)) (hl : xs.length ≤ 14) : Calls Try.prog 22 #[.slice A xs.length c, .agg #[.int .i64 L, .int .i64 M]] W fun e w' => e = .returned (.tuple #[.int .i64 a, .int .i64 b, .bool t]) ∧ Below W.heap.size W w' := by
  have := implBest_c A c xs L M W h.rd (by omega)
  rw [e] at this; exact this
theorem RL.sbest (h : RL W A xs) (c : Nat) (L M : Int) (a b : Int) (t : Bool) (e : bestL xs L M = (a, b, t)) (hl : xs.length ≤ 14) : Calls Try.prog 20 #[.slice A xs.length c, .agg #[.int .i64 L, .int .i64 M]] W fun e w' => e = .returned (.tuple #[.int .i64 a, .int .i64 b, .bool t]) ∧ Below W.heap.size W w' := by
  have := specBest_c A c xs L M W h.rd (by omega)
  rw [e] at this; exact this
end
/-- The law's facts in one form. -/
theorem zones_law2 (xs : List Int) (L M : Int) : ∃ (lv zs : List Int) (ok : Bool) (lo hi bl n : Int) (all : Bool), fewL xs L M = (lv, ok) ∧ zoneL xs L M = (zs, ok) ∧ levL xs L M = (lo, hi, all) ∧ bestL xs L M = (bl, n, ok) ∧ zs.length ≤ xs.length ∧
    (ok = true → goodR L M = true ∧ all = decide (lv.length = 1) ∧ all = (decide (n = xs.length) && decide (0 < n)) ∧ (0 ≤ n ∧ n ≤ 12) ∧ lv.length ≤ 12 ∧ zs.length = xs.length ∧ (∀ j, j < xs.length → 0 ≤ xs.getD j 0 ∧ xs.getD j 0 ≤ 1000) ∧
      (∀ j, j < xs.length → ∃ k : Nat, k < lv.length ∧ zs.getD j 0 = k ∧ L ≤ lv.getD k 0 - xs.getD j 0 ∧ lv.getD k 0 - xs.getD j 0 ≤ M) ∧
      (∀ k, k < lv.length → (0 ≤ lv.getD k 0 ∧ lv.getD k 0 ≤ 1200) ∧ ∃ r : List Int, suitL xs L M (lv.getD k 0) = (r, true) ∧ (r.length : Int) ≤ n) ∧ (∀ k, k + 1 < lv.length → lv.getD k 0 < lv.getD (k + 1) 0)) := by
  cases h : goodZ xs L M
  · exact ⟨[], [], false, (levL xs L M).1, (levL xs L M).2.1, 0, 0, (levL xs L M).2.2, fewL_no h, zoneL_no h, rfl, bestL_no h, by simp, fun h => by cases h⟩
  · obtain ⟨a1, a2, a3, a4, a5, a6, a7, a8, a9⟩ := zones_law h
    refine ⟨fewS L M xs, zoneS L M xs, true, (levL xs L M).1, (levL xs L M).2.1, (bstK xs L M 2001).1, (bstK xs L M 2001).2, (levL xs L M).2.2, fewL_yes h, zoneL_yes h, rfl, bestL_yes rfl h, by rw [zone_len]; exact Nat.le_refl _, fun _ => ⟨a1, a2, a3, a4, a5, zone_len L M xs, a6, a7, fun k hk => ?_, a9⟩⟩
    obtain ⟨b1, b2, b3⟩ := a8 k hk
    exact ⟨b1, _, b2, b3⟩
set_option maxRecDepth 100000 in
set_option maxHeartbeats 16000000 in
theorem zones_great (A : Option Addr) (n c : Nat) (w : World) (h : RdB w w.heap.size A n) : Calls Try.prog 11 #[.slice A n c] w fun e w' => e = .returned (.bool true) ∧ Below w.heap.size w w' := by
  by_cases hn : (65536 : Int) < (n : Int)
  · have hd : decide ((65536 : Int) < n) = true := by simp; omega
    go_enter Try.func11, Try.ntmps11
    go_wp2_with (go_at_call 27; refine (rBigZ_c _ _ _ _).mono ?_; rintro e w' ⟨rfl, rfl⟩)
    (go_returns; exact ⟨by first | rfl | (simp; done) | (simp; omega), by (repeat' (first | (with_reducible exact Below.refl _ _) | (with_reducible assumption) | (with_reducible refine below_drewN ?_ _) | (with_reducible refine Below.alloc ?_ ?_ _) | (with_reducible refine Below.drew ?_) | (with_reducible refine Below.setCell ?_ ?_ _) | go_size))⟩)
  have hd : decide ((65536 : Int) < n) = false := by simp; omega
  have H := Lib.hid h
  clear h
  go_enter Try.func11, Try.ntmps11
  go_wp2_with fail
  refine (rBigZ_c _ _ _ _).mono ?_
  rintro e w' ⟨rfl, rfl⟩
  go_wp2_with fail
  refine (drawFew_c A n c _ H.out).mono ?_
  rintro e w1 ⟨A1, c1, xs, L, M, rfl, ⟨hL, hM⟩, O1, hl, hb1⟩
  go_upto_region 4 with (fail)
  obtain ⟨w2, hW⟩ : ∃ X, X = w1.alloc (.cells #[.int .i64 L, .int .i64 M] 33) := ⟨_, rfl⟩
  rw [← hW]
  have hb : Below w1.heap.size w1 w2 := by rw [hW]; exact (Below.refl _ _).alloc (Nat.le_refl _) _
  have X : PX w2 w1.heap.size L M := ⟨by rw [hW]; exact World.cell?_alloc_new w1 _ _ 0, by rw [hW]; exact World.cell?_alloc_new w1 _ _ 1⟩
  have Y := (RL.own O1).below hb
  have HN := Lib.hid (own_nilcap O1)
  have B := hb1.trans (hb.mono hb1.size)
  clear hW hb hb1 O1
  generalize w1.heap.size = p at *
  obtain ⟨lv, zs, ok, lo, hi, bl, n0, all, e1, e2, e3, e4, zl, law⟩ := zones_law2 xs L M
  have lvl : lv.length ≤ 14 := by have := fewL_len xs L M hl; rw [e1] at this; exact this
  have E1 := Lib.hid e1
  have E2 := Lib.hid e2
  have E3 := Lib.hid e3
  have E4 := Lib.hid e4
  have LW := Lib.hid law
  clear e1 e2 e3 e4 law
  have p0 := X.c0
  have p1 := X.c1
  go_wp2_with fail
  refine (Y.few c1 L M HN.out lv ok E1.out hl).mono ?_
  rintro e w21 ⟨A3, c3, rfl, V, hb⟩
  clear p0 p1
  replace X := X.below hb
  replace Y := Y.below hb
  replace B := B.trans (hb.mono B.size)
  clear hb
  have p0 := X.c0
  have p1 := X.c1
  go_wp2_with fail
  refine (Y.sfew c1 L M lv ok E1.out hl).mono ?_
  rintro e w22 ⟨A4, c4, rfl, V2, hb⟩
  clear p0 p1
  replace X := X.below hb
  replace Y := Y.below hb
  replace V := V.below hb
  replace B := B.trans (hb.mono B.size)
  clear hb
  go_upto_region 6 with (fail)
  go_cut [57] (fun s wx => s = .bool false ∧ ∃ q, wx = w22.drewN q)
  case first => as_aux_lemma =>
    cases ok
    · go_wp2_with (go_at_call 29; refine (rInts_c _ _ _ _ _ _ V.rd V2.rd (by omega)).mono ?_; rintro e w' ⟨rfl, nd, rfl⟩)
      go_meet
      exact ⟨rfl, _, rfl⟩
    · go_wp2_with (go_at_call 29; refine (rInts_c _ _ _ _ _ _ V.rd V2.rd (by omega)).mono ?_; rintro e w' ⟨rfl, nd, rfl⟩)
      go_meet
      exact ⟨rfl, _, rfl⟩
  case rest => as_aux_lemma =>
    obtain ⟨rfl, q, rfl⟩ := hcut
    have hb := below_drewN (Below.refl w22.heap.size w22) q
    clear V2
    replace X := X.below hb
    replace Y := Y.below hb
    replace V := V.below hb
    replace B := B.trans (hb.mono B.size)
    clear hb
    generalize w22.drewN q = wm57 at *
    have p0 := X.c0
    have p1 := X.c1
    go_wp2_with fail
    refine (Y.zone c1 L M HN.out zs ok E2.out hl).mono ?_
    rintro e w23 ⟨A5, c5, rfl, Z, hb⟩
    clear p0 p1
    replace X := X.below hb
    replace Y := Y.below hb
    replace V := V.below hb
    replace B := B.trans (hb.mono B.size)
    clear hb
    have p0 := X.c0
    have p1 := X.c1
    go_wp2_with fail
    refine (Y.szone c1 L M zs ok E2.out hl).mono ?_
    rintro e w24 ⟨A6, c6, rfl, Z2, hb⟩
    clear p0 p1
    replace X := X.below hb
    replace Y := Y.below hb
    replace V := V.below hb
    replace Z := Z.below hb
    replace B := B.trans (hb.mono B.size)
    clear hb
    go_upto_region 10 with (fail)
    go_cut [83] (fun s wx => s = .bool false ∧ ∃ q, wx = w24.drewN q)
    case first => as_aux_lemma =>
      cases ok
      · go_wp2_with (go_at_call 29; refine (rInts_c _ _ _ _ _ _ Z.rd Z2.rd (by omega)).mono ?_; rintro e w' ⟨rfl, nd, rfl⟩)
        go_meet
        exact ⟨rfl, _, rfl⟩
      · go_wp2_with (go_at_call 29; refine (rInts_c _ _ _ _ _ _ Z.rd Z2.rd (by omega)).mono ?_; rintro e w' ⟨rfl, nd, rfl⟩)
        go_meet
        exact ⟨rfl, _, rfl⟩
    case rest => as_aux_lemma =>
      obtain ⟨rfl, q, rfl⟩ := hcut
      have hb := below_drewN (Below.refl w24.heap.size w24) q
      clear Z2
      replace X := X.below hb
      replace Y := Y.below hb
      replace V := V.below hb
      replace Z := Z.below hb
      replace B := B.trans (hb.mono B.size)
      clear hb
      generalize w24.drewN q = wm83 at *
      have p0 := X.c0
      have p1 := X.c1
      go_wp2_with fail
      refine (Y.lev c1 L M lo hi all E3.out hl).mono ?_
      rintro e w25 ⟨rfl, hb⟩
      clear p0 p1
      replace X := X.below hb
      replace Y := Y.below hb
      replace V := V.below hb
      replace Z := Z.below hb
      replace B := B.trans (hb.mono B.size)
      clear hb
      have p0 := X.c0
      have p1 := X.c1
      go_wp2_with fail
      refine (Y.slev c1 L M lo hi all E3.out hl).mono ?_
      rintro e w26 ⟨rfl, hb⟩
      clear p0 p1
      replace X := X.below hb
      replace Y := Y.below hb
      replace V := V.below hb
      replace Z := Z.below hb
      replace B := B.trans (hb.mono B.size)
      clear hb
      have p0 := X.c0
      have p1 := X.c1
      go_wp2_with fail
      refine (Y.best c1 L M bl n0 ok E4.out hl).mono ?_
      rintro e w27 ⟨rfl, hb⟩
      clear p0 p1
      replace X := X.below hb
      replace Y := Y.below hb
      replace V := V.below hb
      replace Z := Z.below hb
      replace B := B.trans (hb.mono B.size)
      clear hb
      have p0 := X.c0
      have p1 := X.c1
      go_wp2_with fail
      refine (Y.sbest c1 L M bl n0 ok E4.out hl).mono ?_
      rintro e w28 ⟨rfl, hb⟩
      clear p0 p1
      replace X := X.below hb
      replace Y := Y.below hb
      replace V := V.below hb
      replace Z := Z.below hb
      replace B := B.trans (hb.mono B.size)
      clear hb
      cases ok
      · clear X Y V Z LW
        go_wp2
        go_returns
        exact ⟨rfl, B⟩
      · obtain ⟨gr, a1, a2, an, al, zl2, hx, hz, hs, hu⟩ := LW.out rfl
        have HXB := Lib.hid hx
        have HZ := Lib.hid hz
        have HS := Lib.hid hs
        have HU := Lib.hid hu
        have A12 := Lib.hid (And.intro a1 a2)
        clear E1 E2 E3 E4 HN LW hx hz hs hu a1 a2
        go_upto_region 22 with (fail)
        go_cut [166] (fun s wx => s = .bool false ∧ Below w28.heap.size w28 wx)
        case first => as_aux_lemma =>
          have p0 := X.c0
          have p1 := X.c1
          have RC := implRule_c L M w28
          rw [gr] at RC
          have RH := Lib.hid RC
          obtain ⟨a1, a2⟩ := A12.out
          clear RC gr X Y V Z B A12
          cases all
          · have l1 : ((lv.length : Int) == 1) = false := by
              have : ¬ lv.length = 1 := fun e => by rw [e] at a1; cases a1
              simp; omega
            by_cases nx : n0 = (xs.length : Int)
            · have n1 : (n0 == (xs.length : Int)) = true := by simp [nx]
              have n2 : decide (0 < n0) = false := by
                cases e : decide (0 < n0)
                · rfl
                · rw [e, decide_eq_true nx] at a2; cases a2
              clear nx
              clear a1 a2
              go_wp2_with (go_at_call 41; refine RH.out.mono ?_; rintro e w31 ⟨rfl, hb⟩)
              go_meet
              exact ⟨rfl, hb⟩
            · have n1 : (n0 == (xs.length : Int)) = false := by simp [nx]
              clear nx
              clear a1 a2
              go_wp2_with (go_at_call 41; refine RH.out.mono ?_; rintro e w31 ⟨rfl, hb⟩)
              go_meet
              exact ⟨rfl, hb⟩
          · have l1 : ((lv.length : Int) == 1) = true := by
              have : lv.length = 1 := by simpa using a1.symm
              simp; omega
            have a3 := a2.symm
            rw [Bool.and_eq_true, decide_eq_true_eq, decide_eq_true_eq] at a3
            have n1 : (n0 == (xs.length : Int)) = true := by simp [a3.1]
            have n2 : decide (0 < n0) = true := decide_eq_true a3.2
            clear a1 a2 a3
            go_wp2_with (go_at_call 41; refine RH.out.mono ?_; rintro e w31 ⟨rfl, hb⟩)
            go_meet
            exact ⟨rfl, hb⟩
        case rest => as_aux_lemma =>
          obtain ⟨rfl, hb⟩ := hcut
          replace X := X.below hb
          replace Y := Y.below hb
          replace V := V.below hb
          replace Z := Z.below hb
          replace B := B.trans (hb.mono B.size)
          clear hb A12 gr
          have p0 := X.c0
          have p1 := X.c1
          have XH := Lib.hid (And.intro X (And.intro Y (And.intro V (And.intro Z B))))
          clear X Y V Z B
          go_wp2
          go_loopw [25, 26] (fun iv _ wr => ∃ k : Nat, k ≤ xs.length ∧ iv = .int .i64 k ∧ ∃ q, wr = wc.drewN q) (fun iv _ _ => xs.length - (intOf iv).toNat)
          case atStart => exact ⟨0, by omega, rfl, 0, rfl⟩
          case round =>
            obtain ⟨k, hk, rfl, q, rfl⟩ := hrel
            by_cases hlt : k < xs.length
            · obtain ⟨b1, o1, x, hA, hxk, hb1, hc1⟩ := XH.out.2.1.rd.at_ hlt
              subst hA
              obtain ⟨b2, o2, z, hA, hzk, hb2, hc2⟩ := XH.out.2.2.2.1.rd.at_ (k := k) (by omega)
              subst hA
              obtain ⟨j, hj, ej, s1, s2⟩ := HZ.out k hlt
              rw [← hzk] at ej
              subst ej
              obtain ⟨b3, o3, y, hA, hyk, hb3, hc3⟩ := XH.out.2.2.1.rd.at_ hj
              subst hA
              have xb := HXB.out k hlt
              have yb := (HS.out j hj).1
              rw [← hxk] at xb s1 s2
              rw [← hyk] at yb s1 s2
              have hi1 : (k : Int) < (xs.length : Int) := by omega
              have hi2 : (k : Int) < (zs.length : Int) := by omega
              have hi3 : (j : Int) < (lv.length : Int) := by omega
              have hj0 : (0 : Int) ≤ (j : Int) := by omega
              have Wd : IntKind.i64.wrap (y - x) = y - x := IntWalk.i64_in _ (by omega)
              have d1 : decide (y - x < L) = false := decide_eq_false (by omega)
              have d2 : decide (M < y - x) = false := decide_eq_false (by omega)
              have Wk : IntKind.i64.wrap ((k : Int) + 1) = (k : Int) + 1 := IntWalk.i64_in _ (by omega)
              clear hxk hzk hyk xb yb s1 s2
              go_upto_region 27 with (fail)
              go_quiet (fail)
              go_wp2
              go_roundw
              case rel => exact ⟨k + 1, by omega, by go_num, _, by first | rfl | exact World.drewN_drewN _ _ _⟩
              case measure => simp [intOf]; omega
            · have hi1 : ¬ (k : Int) < (xs.length : Int) := by omega
              have hb := below_drewN (Below.refl wc.heap.size wc) q
              have X := XH.out.1.below hb
              have Y := XH.out.2.1.below hb
              have V := XH.out.2.2.1.below hb
              have B := XH.out.2.2.2.2.trans (hb.mono XH.out.2.2.2.2.size)
              clear XH hb p0 p1 HZ HXB
              generalize wc.drewN q = wd at *
              have XB := Lib.hid (And.intro X (And.intro Y (And.intro V B)))
              clear X Y V B
              go_wp2
              go_loopw [27, 28, 29] (fun iv _ _ wr => ∃ k : Nat, k ≤ lv.length ∧ iv = .int .i64 k ∧ PX wr p L M ∧ RL wr A1 xs ∧ RL wr A3 lv ∧ Below w.heap.size w wr) (fun iv _ _ _ => lv.length - (intOf iv).toNat)
              case atStart => exact ⟨0, by omega, rfl, XB.out.1, XB.out.2.1, XB.out.2.2.1, XB.out.2.2.2⟩
              case round =>
                clear XB
                obtain ⟨k, hk, rfl, X, Y, V, B⟩ := hrel
                by_cases hlt : k < lv.length
                · obtain ⟨b3, o3, y, hA, hyk, hb3, hc3⟩ := V.rd.at_ hlt
                  subst hA
                  obtain ⟨yb, r, sr, rl⟩ := HS.out k hlt
                  rw [← hyk] at sr
                  have hi1 : (k : Int) < (lv.length : Int) := by omega
                  have p0 := X.c0
                  have p1 := X.c1
                  have YD : RL wr.drew A1 xs := ⟨Y.rd⟩
                  have SC := Lib.hid (YD.suit c1 L M y r true sr hl)
                  have XH := Lib.hid (And.intro X (And.intro Y (And.intro V B)))
                  have YK := Lib.hid hyk
                  clear X Y V B YD sr yb hyk
                  go_upto_region 33 with (fail)
                  go_region_held3 (fun w' => w'.cell? ⟨p, 0, none⟩ = some (.int .i64 L) ∧ w'.cell? ⟨p, 1, none⟩ = some (.int .i64 M) ∧ w'.cell? ⟨b3, o3 + k, none⟩ = some (.int .i64 y)) (simp (maxDischargeDepth := 3) [*, go_sem]) (first | (go_at_call 24; (with_reducible refine SC.out.mono ?_); rintro e w51 ⟨A9, c9, rfl, R, hb⟩; have hbb : Below wr.heap.size wr w51 := (⟨rfl, rfl, rfl, Nat.le_refl _, fun _ _ => rfl⟩ : Below wr.heap.size wr wr.drew).trans hb; obtain ⟨hcc, hff⟩ := bcell hbb))
                  have X := XH.out.1.below hbb
                  have Y := XH.out.2.1.below hbb
                  have V := XH.out.2.2.1.below hbb
                  have B := XH.out.2.2.2.trans (hbb.mono XH.out.2.2.2.size)
                  obtain ⟨b4, o4, y2, hA, hyk2, hb4, hc4⟩ := V.rd.at_ hlt
                  obtain ⟨rfl, rfl⟩ : b4 = b3 ∧ o4 = o3 := by simp at hA; omega
                  obtain rfl : y2 = y := hyk2.trans YK.out.symm
                  have dr : decide (n0 < (r.length : Int)) = false := decide_eq_false (by omega)
                  have Wk : IntKind.i64.wrap ((k : Int) + 1) = (k : Int) + 1 := IntWalk.i64_in _ (by omega)
                  have XB := Lib.hid (And.intro X (And.intro Y (And.intro V B)))
                  clear XH hbb hcc hff SC R hb hyk2 p0 p1 hc3 hA
                  cases k with
                  | zero =>
                    have dk : decide ((0 : Int) < ((0 : Nat) : Int)) = false := by simp
                    clear X Y V B
                    go_upto_region 34 with (fail)
                    go_quiet (fail)
                    go_wp2
                    have hb := below_drewN (Below.refl w51.heap.size w51) nq
                    go_roundw
                    case rel => exact ⟨1, by omega, by go_num, XB.out.1.below hb, XB.out.2.1.below hb, XB.out.2.2.1.below hb, below_drewN XB.out.2.2.2 _⟩
                    case measure => simp [intOf]; omega
                  | succ k =>
                    obtain ⟨b5, o5, y0, hA, hyk0, hb5, hc5⟩ := V.rd.at_ (show k < lv.length by omega)
                    obtain ⟨rfl, rfl⟩ : b5 = b4 ∧ o5 = o4 := by simp at hA; omega
                    have up := HU.out k hlt
                    rw [← hyk0, ← YK.out] at up
                    have dk : decide ((0 : Int) < ((k + 1 : Nat) : Int)) = true := decide_eq_true (by omega)
                    have du : decide (y2 ≤ y0) = false := decide_eq_false (by omega)
                    have Wm : IntKind.i64.wrap (((k + 1 : Nat) : Int) - 1) = (k : Int) := by rw [show (((k + 1 : Nat) : Int) - 1) = (k : Int) by omega]; exact IntWalk.i64_in _ (by omega)
                    have hi2 : (k : Int) < (lv.length : Int) := by omega
                    have hk0 : (0 : Int) ≤ (k : Int) := by omega
                    clear X Y V B hyk0 up hA
                    go_upto_region 34 with (fail)
                    go_quiet (fail)
                    go_wp2
                    have hb := below_drewN (Below.refl w51.heap.size w51) nq
                    go_roundw
                    case rel => exact ⟨k + 1 + 1, by omega, by go_num, XB.out.1.below hb, XB.out.2.1.below hb, XB.out.2.2.1.below hb, below_drewN XB.out.2.2.2 _⟩
                    case measure => simp [intOf]; omega
                · have hi1 : ¬ (k : Int) < (lv.length : Int) := by omega
                  clear X Y V
                  go_wp2
                  go_returns
                  exact ⟨rfl, B⟩
end Go.Proofs.Ytakpoalcfjedlaa
