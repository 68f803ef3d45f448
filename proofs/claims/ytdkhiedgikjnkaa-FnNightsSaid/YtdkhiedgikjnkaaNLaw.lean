/- The great law on nights, walked. -/
import Derived.Test.YtdkhiedgikjnkaaNPlain
import Derived.Test.YtdkhiedgikjnkaaNDraw
import Derived.Test.YtdkhiedgikjnkaaNStep
import Derived.Test.YtdkhiedgikjnkaaAGrow
import Derived.Test.YtdkhiedgikjnkaaAGrow2
import Derived.BigQuiet
namespace Go.Proofs.Ytdkhiedgikjnkaa
open Go.RowKit

theorem rBig_c (A : Option Addr) (n c : Nat) (w : World) : Calls Try.prog 31 #[.slice A n c] w fun e w' => e = .returned (.bool (decide ((65536 : Int) < n))) ∧ w = w' := by
  go_enter Try.func31, Try.ntmps31
  go_wp2
  go_ret
  exact ⟨by simp, rfl⟩
theorem rMost_c {B : Nat} (A : Option Addr) (c : Nat) (xs : List Int) (w : World) (h : RdI w B A xs) (hm : xs.length ≤ 4611686018427387904) : Calls Try.prog 33 #[.slice A xs.length c] w fun e w' => e = .returned (.int .i64 (rmK xs xs.length)) ∧ w = w' := by
  go_enter Try.func33, Try.ntmps33
  go_wp2
  go_loop [3, 4] (fun m i => ∃ k : Nat, k ≤ xs.length ∧ m = .int .i64 (rmK xs k) ∧ i = .int .i64 k) (fun _ i => xs.length - (intOf i).toNat)
  case atStart => exact ⟨0, by omega, rfl, rfl⟩
  case round =>
    obtain ⟨k, hk, rfl, rfl⟩ := hrel
    by_cases hlt : k < xs.length
    · obtain ⟨b, off, x, rfl, hx, hb, hc⟩ := h.at_ hlt
      by_cases hq : rmK xs k < x
      · have hr := rmK_yes hx hq
        have HR := Lib.hid hr
        clear hr hx h
        go_wp2
        go_round
        case rel => exact ⟨k + 1, by omega, by rw [HR.out], by go_num⟩
        case measure => simp [intOf]; omega
      · have hr := rmK_no hx hq
        have HR := Lib.hid hr
        clear hr hx h
        go_wp2
        go_round
        case rel => exact ⟨k + 1, by omega, by rw [HR.out], by go_num⟩
        case measure => simp [intOf]; omega
    · obtain rfl : k = xs.length := by omega
      clear h
      go_wp2
      go_ret
      exact ⟨rfl, rfl⟩
theorem rMostP_c {B : Nat} (A : Option Addr) (c : Nat) (xs : List Int) (k : Nat) (w : World) (h : RdI w B A xs) (hk : k ≤ xs.length) (hm : xs.length ≤ 4611686018427387904) : Calls Try.prog 33 #[.slice A k c] w fun e w' => e = .returned (.int .i64 (rmK xs k)) ∧ w = w' := by
  have hl : (xs.take k).length = k := by rw [List.length_take]; omega
  have := rMost_c A c (xs.take k) w (h.pre _) (by omega)
  rw [hl, rmK_take k (Nat.le_refl _)] at this
  exact this
/-- An area in the law's box. -/
structure LA (W : World) (p : Nat) (I H : Int) (A1 : Option Addr) (d : Nat) (xs : List Int) : Prop where
  p0 : W.cell? ⟨p, 0, none⟩ = some (.int .i64 I)
  p1 : W.cell? ⟨p, 1, none⟩ = some (.int .i64 H)
  p2 : W.cell? ⟨p, 2, none⟩ = some (.slice A1 xs.length d)
  rd : RdI W W.heap.size A1 xs
  cap : xs.length ≤ d
  len : xs.length ≤ 15
theorem LA.below {W W' : World} {p : Nat} {I H : Int} {A1 : Option Addr} {d : Nat} {xs : List Int} (h : LA W p I H A1 d xs) (hb : Below W.heap.size W W') : LA W' p I H A1 d xs :=
  ⟨(hb.cell (lt_of_cell (by rw [h.p0]; rfl))).trans h.p0, (hb.cell (lt_of_cell (by rw [h.p1]; rfl))).trans h.p1, (hb.cell (lt_of_cell (by rw [h.p2]; rfl))).trans h.p2, (h.rd.below hb).more hb.size, h.cap, h.len⟩
theorem LA.new {w w1 : World} {I H : Int} {A1 : Option Addr} {d : Nat} {xs : List Int} (O : OwnI w1 w.heap.size (.slice A1 xs.length d) xs) (hx : xs.length ≤ 15) :
    LA (w1.alloc (.cells #[.int .i64 I, .int .i64 H, .slice A1 xs.length d] 32)) w1.heap.size I H A1 d xs :=
  ⟨by simp [go_sem], by simp [go_sem], by simp [go_sem], (O.rd.alloc (Nat.le_refl _) _).more (by simp), own_cap O, hx⟩
section
variable {W : World} {p : Nat} {I H : Int} {A1 : Option Addr} {d : Nat} {xs : List Int}
theorem LA.burst (h : LA W p I H A1 d xs) (r n0 : Int) (ok : Bool) (e : burR I H xs r = (n0, ok)) : Calls Try.prog 28 #[.agg #[.int .i64 I, .int .i64 H, .slice A1 xs.length d], .int .i64 r] W fun e w' => e = .returned (.tuple #[.int .i64 n0, .bool ok]) ∧ Below W.heap.size W w' := by
  have := implBurst_c I H r A1 d xs W h.rd (Nat.le_refl _) (by have := h.len; omega) h.cap
  rw [e] at this
  exact this
theorem LA.sburst (h : LA W p I H A1 d xs) (r n0 : Int) (ok : Bool) (e : burR I H xs r = (n0, ok)) : Calls Try.prog 27 #[.agg #[.int .i64 I, .int .i64 H, .slice A1 xs.length d], .int .i64 r] W fun e w' => e = .returned (.tuple #[.int .i64 n0, .bool ok]) ∧ Below W.heap.size W w' := by
  have := specBurst_c I H r A1 d xs W h.rd (Nat.le_refl _) (by have := h.len; omega)
  rw [e] at this
  exact this
theorem LA.grow (h : LA W p I H A1 d xs) (b m : Int) (ok : Bool) (e : growR I H xs = (b, m, ok)) : Calls Try.prog 26 #[.agg #[.int .i64 I, .int .i64 H, .slice A1 xs.length d]] W fun e w' => e = .returned (.tuple #[.int .i64 b, .int .i64 m, .bool ok]) ∧ Below W.heap.size W w' := by
  have := implGrow_c I H A1 d xs W h.rd (Nat.le_refl _) (by have := h.len; omega)
  rw [e] at this
  exact this
theorem LA.sgrow (h : LA W p I H A1 d xs) (b m : Int) (ok : Bool) (e : growR I H xs = (b, m, ok)) : Calls Try.prog 25 #[.agg #[.int .i64 I, .int .i64 H, .slice A1 xs.length d]] W fun e w' => e = .returned (.tuple #[.int .i64 b, .int .i64 m, .bool ok]) ∧ Below W.heap.size W w' := by
  have := specGrow_c I H A1 d xs W h.rd (Nat.le_refl _) (by have := h.len; omega)
  rw [e] at this
  exact this
end
set_option maxRecDepth 100000 in
set_option maxHeartbeats 8000000 in
theorem nights_law (A : Option Addr) (n c : Nat) (w : World) (h : RdB w w.heap.size A n) : Calls Try.prog 10 #[.slice A n c] w fun e w' => e = .returned (.bool true) ∧ Below w.heap.size w w' := by
  by_cases hn : (65536 : Int) < (n : Int)
  · have hd : decide ((65536 : Int) < n) = true := by simp; omega
    go_enter Try.func10, Try.ntmps10
    go_wp2_with (go_at_call 31; refine (rBig_c _ _ _ _).mono ?_; rintro e w' ⟨rfl, rfl⟩)
    (go_returns; exact ⟨by first | rfl | (simp; done) | (simp; omega), by (repeat' (first | (with_reducible exact Below.refl _ _) | (with_reducible assumption) | (with_reducible refine below_drewN ?_ _) | (with_reducible refine Below.alloc ?_ ?_ _) | (with_reducible refine Below.drew ?_) | (with_reducible refine Below.setCell ?_ ?_ _) | go_size))⟩)
  have hd : decide ((65536 : Int) < n) = false := by simp; omega
  go_enter Try.func10, Try.ntmps10
  go_wp2_with fail
  refine (rBig_c _ _ _ _).mono ?_
  rintro e w' ⟨rfl, rfl⟩
  go_wp2_with fail
  refine (drawBurst_c A n c _ h).mono ?_
  rintro e w1 ⟨I, H, r, A1, d, xs, rfl, O1, hx, hb1⟩
  go_upto_region 4 with (fail)
  have X0 := LA.new (I := I) (H := H) O1 hx
  obtain ⟨W, hW⟩ : ∃ W, W = w1.alloc (.cells #[.int .i64 I, .int .i64 H, .slice A1 xs.length d] 32) := ⟨_, rfl⟩
  rw [← hW] at X0 ⊢
  have B0 : Below w.heap.size w W := by rw [hW]; exact hb1.alloc hb1.size _
  have h1 : RdB W W.heap.size A n := (h.below B0).more B0.size
  clear O1 hb1 hW h hx
  generalize w1.heap.size = p at *
  obtain ⟨n0, ok, hr⟩ : ∃ n0 ok, burR I H xs r = (n0, ok) := ⟨_, _, rfl⟩
  have law := bur_law (I := I) (H := H) (xs := xs) (r := r)
  rw [hr] at law
  have HR := Lib.hid hr
  have LAW := Lib.hid law
  obtain ⟨p0, p1, p2⟩ : W.cell? ⟨p, 0, none⟩ = some (.int .i64 I) ∧ W.cell? ⟨p, 1, none⟩ = some (.int .i64 H) ∧ W.cell? ⟨p, 2, none⟩ = some (.slice A1 xs.length d) := ⟨X0.p0, X0.p1, X0.p2⟩
  clear hr law
  go_wp2_with fail
  refine (X0.burst r n0 ok HR.out).mono ?_
  rintro e w2 ⟨rfl, BX⟩
  clear p0 p1 p2
  have X2 := X0.below BX
  obtain ⟨p0, p1, p2⟩ : w2.cell? ⟨p, 0, none⟩ = some (.int .i64 I) ∧ w2.cell? ⟨p, 1, none⟩ = some (.int .i64 H) ∧ w2.cell? ⟨p, 2, none⟩ = some (.slice A1 xs.length d) := ⟨X2.p0, X2.p1, X2.p2⟩
  go_wp2_with fail
  refine (X2.sburst r n0 ok HR.out).mono ?_
  rintro e w3 ⟨rfl, hb3⟩
  replace BX := stepB BX hb3
  clear p0 p1 p2 hb3 X2 HR
  have X3 := X0.below BX
  obtain ⟨p0, p1, p2⟩ : w3.cell? ⟨p, 0, none⟩ = some (.int .i64 I) ∧ w3.cell? ⟨p, 1, none⟩ = some (.int .i64 H) ∧ w3.cell? ⟨p, 2, none⟩ = some (.slice A1 xs.length d) := ⟨X3.p0, X3.p1, X3.p2⟩
  go_upto_region 8 with (fail)
  go_cut [71] (fun s wx => s = .bool false ∧ Below W.heap.size W wx)
  case first => as_aux_lemma =>
    cases ok
    · clear LAW X0 X3
      go_quiet (fail)
      go_wp2_with fail
      go_meet
      exact ⟨rfl, below_drewN BX _⟩
    · obtain ⟨k, hk, k1, k2, kr, ⟨m0, m1⟩, r0, r1⟩ := LAW.out rfl
      subst hk
      obtain ⟨b, off, x, hA, hx, hb, hc⟩ := X3.rd.at_ k2
      subst hA
      have cp := X3.cap
      have ln := X3.len
      have hrd := X3.rd
      have d1 : decide ((k : Int) < 1) = false := by simp; omega
      have hk0 : (0 : Int) ≤ (k : Int) := by omega
      have hkl : (k : Int) < (xs.length : Int) := by omega
      have hkd : (k : Int) ≤ (d : Int) := by omega
      have hkd2 : k ≤ d := by omega
      have wr1 : IntKind.i64.wrap (rmK xs k + r) = rmK xs k + r := IntWalk.i64_in _ (by omega)
      have d2 : decide (x < rmK xs k + r) = false := decide_eq_false (by rw [hx]; omega)
      have d0 : ¬ d = 0 := by omega
      clear LAW X0 X3 kr hx
      go_quiet ((go_at_call 33; exact Calls.quiet_of_same ((rMostP_c _ _ xs k _ (hrd.drewN _) (by omega) (by omega)).mono fun _ _ hh => ⟨hh.1, hh.2.symm⟩)))
      go_wp2_with fail
      go_meet
      exact ⟨rfl, below_drewN BX _⟩
  case rest => as_aux_lemma =>
    clear p0 p1 p2 X3 BX LAW X0
    obtain ⟨rfl, BX⟩ := hcut
    have h2 : RdB wc wc.heap.size A n := (h1.below BX).more BX.size
    replace BX := B0.trans (BX.mono B0.size)
    clear h1 B0
    go_wp2_with fail
    refine (drawGrow_c A n c _ h2).mono ?_
    rintro e w4 ⟨I, H, A1, d, xs, rfl, O1, hx, hb4⟩
    go_upto_region 11 with (fail)
    have X0 := LA.new (I := I) (H := H) O1 hx
    obtain ⟨W2, hW⟩ : ∃ W, W = w4.alloc (.cells #[.int .i64 I, .int .i64 H, .slice A1 xs.length d] 32) := ⟨_, rfl⟩
    rw [← hW] at X0 ⊢
    have B2 : Below wc.heap.size wc W2 := by rw [hW]; exact hb4.alloc hb4.size _
    have h3 : RdB W2 W2.heap.size A n := (h2.below B2).more B2.size
    have B0 := stepB BX B2
    clear O1 hb4 hW h2 hx B2 BX
    generalize w4.heap.size = q at *
    obtain ⟨b0, m0, ok, hr⟩ : ∃ b m ok, growR I H xs = (b, m, ok) := ⟨_, _, _, rfl⟩
    obtain ⟨b, m, e1, e2, hbm, hgr⟩ := grow_law I H xs
    rw [hr] at e1 e2
    dsimp only at e1 e2
    subst e1 e2
    have HR := Lib.hid hr
    have HG := Lib.hid hgr
    obtain ⟨p0, p1, p2⟩ : W2.cell? ⟨q, 0, none⟩ = some (.int .i64 I) ∧ W2.cell? ⟨q, 1, none⟩ = some (.int .i64 H) ∧ W2.cell? ⟨q, 2, none⟩ = some (.slice A1 xs.length d) := ⟨X0.p0, X0.p1, X0.p2⟩
    clear hr hgr
    go_wp2_with fail
    refine (X0.grow b m ok HR.out).mono ?_
    rintro e w5 ⟨rfl, BX⟩
    clear p0 p1 p2
    have X2 := X0.below BX
    obtain ⟨p0, p1, p2⟩ : w5.cell? ⟨q, 0, none⟩ = some (.int .i64 I) ∧ w5.cell? ⟨q, 1, none⟩ = some (.int .i64 H) ∧ w5.cell? ⟨q, 2, none⟩ = some (.slice A1 xs.length d) := ⟨X2.p0, X2.p1, X2.p2⟩
    go_wp2_with fail
    refine (X2.sgrow b m ok HR.out).mono ?_
    rintro e w6 ⟨rfl, hb6⟩
    replace BX := stepB BX hb6
    clear p0 p1 p2 hb6 X2 HR
    have l15 := X0.len
    have Wb : IntKind.i64.wrap ((b : Int) + 1) = (b : Int) + 1 := IntWalk.i64_in _ (by omega)
    have Wbm : IntKind.i64.wrap ((b : Int) + (m : Int)) = (b : Int) + (m : Int) := IntWalk.i64_in _ (by omega)
    go_wp2
    go_loopw [16] (fun iv wr => ∃ t : Nat, b < t ∧ iv = .int .i64 t ∧ (t ≤ b + m ∨ t ≤ b + 1) ∧ Below W2.heap.size W2 wr) (fun iv _ => b + m + 1 - (intOf iv).toNat)
    case atStart => exact ⟨b + 1, by omega, by go_num, by omega, BX⟩
    case round =>
      clear BX
      obtain ⟨t, hbt, rfl, htm, BX⟩ := hrel
      by_cases hlt : t < b + m
      · have hi : (t : Int) < (b : Int) + (m : Int) := by omega
        have X3 := X0.below BX
        have p2 := X3.p2
        obtain ⟨s, rfl⟩ : ∃ s, t = s + 1 := ⟨t - 1, by omega⟩
        obtain ⟨g, off, x, hA, hx, hg, hc⟩ := X3.rd.at_ (show s < xs.length by omega)
        subst hA
        obtain ⟨g', off', y, hA, hy, hg', hc'⟩ := X3.rd.at_ (show s + 1 < xs.length by omega)
        obtain ⟨rfl, rfl⟩ : g' = g ∧ off' = off := by simp at hA; omega
        have le := HG.out (s + 1) hbt hlt
        rw [Nat.add_sub_cancel, ← hx, ← hy] at le
        have d1 : decide (y < x) = false := by simp; omega
        have Ws : IntKind.i64.wrap ((((s + 1 : Nat) : Int)) - 1) = (s : Int) := by rw [show (((s + 1 : Nat) : Int)) - 1 = (s : Int) by omega]; exact IntWalk.i64_in _ (by omega)
        have Wt : IntKind.i64.wrap ((((s + 1 : Nat) : Int)) + 1) = ((s + 1 : Nat) : Int) + 1 := IntWalk.i64_in _ (by omega)
        have l1 : (s : Int) < (xs.length : Int) := by omega
        have l2 : ((s + 1 : Nat) : Int) < (xs.length : Int) := by omega
        have l3 : (0 : Int) ≤ (s : Int) := by omega
        clear hx hy le X3 hA
        go_upto_region 18 with (fail)
        go_quiet (fail)
        go_wp2
        go_roundw
        case rel => exact ⟨s + 1 + 1, by omega, by go_num, by omega, below_drewN BX _⟩
        case measure => simp [intOf]; omega
      · have hi : ¬ (t : Int) < (b : Int) + (m : Int) := by omega
        have h4 : RdB wr wr.heap.size A n := (h3.below BX).more BX.size
        replace BX := B0.trans (BX.mono B0.size)
        clear h3 B0 X0 HG Wb hbt htm hlt
        go_wp2_with fail
        refine (drawStep_c A n c _ h4).mono ?_
        rintro e w7 ⟨A2, d2, fs, rfl, O2, hf, hb7⟩
        replace BX := stepB BX hb7
        have hrd := O2.rd
        clear h4 O2 hb7
        obtain ⟨p0, m0, told, hr⟩ : ∃ p m t, stepR fs = (p, m, t) := ⟨_, _, _, rfl⟩
        have law := step_law (xs := fs)
        rw [hr] at law
        have st1 := implStep_c A2 d2 fs w7 hrd (by omega)
        have st2 := fun k => specStep_c A2 d2 fs (w7.drewN k) (hrd.drewN k) (by omega)
        rw [hr] at st1 st2
        have LAW := Lib.hid law
        have S2 := Lib.hid st2
        clear hr law st2
        go_wp2_with fail
        refine st1.mono ?_
        rintro e w8 ⟨rfl, k1, rfl⟩
        clear st1
        go_wp2_with fail
        refine (S2.out k1).mono ?_
        rintro e w9 ⟨rfl, k2, rfl⟩
        clear S2
        have HRD := Lib.hid hrd
        clear hrd
        go_wp2
        go_loopw [24] (fun iv wr => ∃ t : Nat, 1 ≤ t ∧ iv = .int .i64 t ∧ (t ≤ fs.length ∨ t = 1) ∧ ∃ k, wr = w7.drewN k) (fun iv _ => fs.length + 1 - (intOf iv).toNat)
        case atStart => exact ⟨1, by omega, rfl, by omega, k1 + k2, by first | rfl | exact World.drewN_drewN _ _ _⟩
        case round =>
          obtain ⟨t, ht, rfl, htl, k, rfl⟩ := hrel
          by_cases hlt : t < fs.length
          · cases told
            · clear LAW HRD
              go_wp2
              go_returns
              exact ⟨rfl, below_drewN BX _⟩
            · obtain ⟨pn, e, hpn, l20, bd, ge, at_⟩ := LAW.out rfl
              subst e
              obtain ⟨s, rfl⟩ : ∃ s, t = s + 1 := ⟨t - 1, by omega⟩
              obtain ⟨g, off, x, hA, hx, hg, hc⟩ := HRD.out.at_ (show s < fs.length by omega)
              subst hA
              obtain ⟨g', off', y, hA, hy, hg', hc'⟩ := HRD.out.at_ (show s + 1 < fs.length by omega)
              obtain ⟨rfl, rfl⟩ : g' = g ∧ off' = off := by simp at hA; omega
              have le := ge (s + 1) (by omega) hlt
              have bx := bd s (by omega)
              have bY := bd (s + 1) hlt
              rw [Nat.add_sub_cancel, ← hx, ← hy] at le
              rw [← hx] at bx
              rw [← hy] at bY
              have Wxy : IntKind.i64.wrap (x - y) = x - y := IntWalk.i64_in _ (by omega)
              have d1 : decide (m0 < x - y) = false := by simp; omega
              have Wp : IntKind.i64.wrap ((pn : Int) + 1) = (pn : Int) + 1 := IntWalk.i64_in _ (by omega)
              have Ws : IntKind.i64.wrap ((((s + 1 : Nat) : Int)) - 1) = (s : Int) := by rw [show (((s + 1 : Nat) : Int)) - 1 = (s : Int) by omega]; exact IntWalk.i64_in _ (by omega)
              have Wt : IntKind.i64.wrap ((((s + 1 : Nat) : Int)) + 1) = ((s + 1 : Nat) : Int) + 1 := IntWalk.i64_in _ (by omega)
              have l1 : (s : Int) < (fs.length : Int) := by omega
              have l2 : ((s + 1 : Nat) : Int) < (fs.length : Int) := by omega
              have l3 : (0 : Int) ≤ (s : Int) := by omega
              have Ws0 : IntKind.i64.wrap (s : Int) = (s : Int) := IntWalk.i64_in _ (by omega)
              have Ws1 : IntKind.i64.wrap ((s : Int) + 1 - 1) = (s : Int) := by rw [show (s : Int) + 1 - 1 = (s : Int) by omega]; exact Ws0
              have Wt1 : IntKind.i64.wrap ((s : Int) + 1 + 1) = (s : Int) + 1 + 1 := IntWalk.i64_in _ (by omega)
              have l4 : (s : Int) + 1 < (fs.length : Int) := by omega
              have l5 : (0 : Int) ≤ (s : Int) + 1 := by omega
              by_cases e : s = pn
              · subst e
                rw [← hx, ← hy] at at_
                have d2 : (((s + 1 : Nat) : Int) == (s : Int) + 1) = true := by simp
                have d3 : (x - y == m0) = true := by simp [at_]
                have d4 : (x - y != m0) = false := by simp [at_]
                have HL := Lib.hid hlt
                clear hx hy le hA ge bd at_ LAW bx bY hlt
                go_upto_region 28 with (fail)
                go_quiet (fail)
                go_wp2
                go_roundw
                case rel => exact ⟨s + 1 + 1, by omega, by go_num, by have := HL.out; omega, _, by first | rfl | exact World.drewN_drewN _ _ _⟩
                case measure => have := HL.out; simp [intOf]; omega
              · have e' : ¬ (s : Int) = (pn : Int) := by omega
                have d2 : (((s + 1 : Nat) : Int) == (pn : Int) + 1) = false := by simp; omega
                have d5 : (s == pn) = false := by simp [e]
                have d6 : ((s : Int) == (pn : Int)) = false := by simp [e']
                have d7 : ((s : Int) + 1 == (pn : Int) + 1) = false := by simp; omega
                have d8 : decide (s = pn) = false := by simp [e]
                have HL := Lib.hid hlt
                clear hx hy le hA ge bd at_ LAW bx bY hlt
                go_upto_region 28 with (fail)
                go_quiet (fail)
                go_wp2
                go_roundw
                case rel => exact ⟨s + 1 + 1, by omega, by go_num, by have := HL.out; omega, _, by first | rfl | exact World.drewN_drewN _ _ _⟩
                case measure => have := HL.out; simp [intOf]; omega
          · clear LAW HRD
            have hi2 : ¬ (t : Int) < (fs.length : Int) := by omega
            go_wp2
            go_returns
            exact ⟨rfl, below_drewN BX _⟩
end Go.Proofs.Ytdkhiedgikjnkaa
