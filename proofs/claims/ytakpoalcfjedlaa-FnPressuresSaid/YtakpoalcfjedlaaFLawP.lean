/- The great law on pressures, walked. -/
import Derived.Test.YtakpoalcfjedlaaFDraw4
import Derived.Test.YtakpoalcfjedlaaZPres
import Derived.Test.YtakpoalcfjedlaaZRaise
import Derived.Test.YtakpoalcfjedlaaZSuit2
import Derived.Test.YtakpoalcfjedlaaZLev
import Derived.Test.YtakpoalcfjedlaaInts
namespace Go.Proofs.Ytakpoalcfjedlaa
open Go.RowKit

theorem rBigY_c (A : Option Addr) (n c : Nat) (w : World) : Calls Try.prog 27 #[.slice A n c] w fun e w' => e = .returned (.bool (decide ((65536 : Int) < n))) ∧ w = w' := by
  go_enter Try.func27, Try.ntmps27
  go_wp2
  go_ret
  exact ⟨by simp, rfl⟩
def hasI (xs : List Int) (x : Int) : Bool := xs.any fun y => y == x
theorem hasI_hit {xs : List Int} {x : Int} {k : Nat} (hk : k < xs.length) (h : xs.getD k 0 = x) : hasI xs x = true := by
  unfold hasI
  rw [List.any_eq_true]
  exact ⟨xs.getD k 0, by rw [show xs.getD k 0 = xs[k] by simp [List.getD_eq_getElem?_getD, hk]]; exact List.getElem_mem hk, by rw [h]; simp⟩
theorem hasI_none {xs : List Int} {x : Int} (h : ∀ j, j < xs.length → xs.getD j 0 ≠ x) : hasI xs x = false := by
  unfold hasI
  rw [List.any_eq_false]
  intro y hy
  obtain ⟨j, hj, rfl⟩ := List.getElem_of_mem hy
  have := h j hj
  simpa [List.getD_eq_getElem?_getD, hj] using this
theorem rHas_c {B : Nat} (A : Option Addr) (c : Nat) (xs : List Int) (x : Int) (w : World) (h : RdI w B A xs) (hm : xs.length ≤ 4611686018427387904) : Calls Try.prog 30 #[.slice A xs.length c, .int .i64 x] w fun e w' => e = .returned (.bool (hasI xs x)) ∧ w = w' := by
  have H := Lib.hid h
  clear h
  go_enter Try.func30, Try.ntmps30
  go_wp2
  go_loop [5] (fun i => ∃ k : Nat, k ≤ xs.length ∧ i = .int .i64 k ∧ ∀ j, j < k → xs.getD j 0 ≠ x) (fun i => xs.length - (intOf i).toNat)
  case atStart => exact ⟨0, by omega, rfl, fun j hj => absurd hj (by omega)⟩
  case round =>
    obtain ⟨k, hk, rfl, hno⟩ := hrel
    by_cases hlt : k < xs.length
    · obtain ⟨b, off, y, rfl, hy, hb, hc⟩ := H.out.at_ hlt
      have hi : (k : Int) < (xs.length : Int) := by omega
      by_cases hp : y = x
      · subst hp
        have hr := hasI_hit hlt hy.symm
        have HR := Lib.hid hr
        clear hno hy hr
        go_wp2
        go_ret
        exact ⟨by rw [HR.out]; rfl, rfl⟩
      · have HNO := Lib.hid hno
        have HX := Lib.hid hy
        have hp2 : (y == x) = false := by simp [hp]
        clear hno hy
        go_wp2
        go_round
        case rel => exact ⟨k + 1, by omega, by go_num, fun j hj => by
          by_cases e : j = k
          · subst e; rw [← HX.out]; exact hp
          · exact HNO.out j (by omega)⟩
        case measure => simp [intOf]; omega
    · have hr := hasI_none (xs := xs) (x := x) (fun j hj => hno j (by omega))
      have HR := Lib.hid hr
      clear hno hr
      go_wp2
      go_ret
      exact ⟨by rw [HR.out]; rfl, rfl⟩
theorem suited_has {P : Int → Bool} {xs : List Int} {k : Nat} (hk : k < xs.length) : hasI (suitK P xs xs.length) (k : Int) = P (xs.getD k 0) := by
  unfold hasI suitK
  rw [List.any_map]
  cases e : P (xs.getD k 0)
  · rw [List.any_eq_false]
    intro j hj
    have := (List.mem_filter.1 hj).2
    simp only [Function.comp]
    intro q
    have e2 : (j : Int) = (k : Int) := by simpa using q
    have : j = k := by omega
    subst this
    simp_all
  · rw [List.any_eq_true]
    exact ⟨k, List.mem_filter.2 ⟨List.mem_range.2 hk, e⟩, by simp⟩
theorem suit_law {xs r : List Int} {L M l : Int} (h : suitL xs L M l = (r, true)) : ∃ ps : List Int, presL xs l = (ps, true) ∧ ps.length = xs.length ∧ xs.length ≤ 12 ∧ ∀ k, k < xs.length → hasI r k = inB (ps.getD k 0) L M := by
  unfold suitL at h
  split at h
  case isFalse => cases h
  rename_i c
  obtain ⟨g, hl⟩ := c
  have gl : goodL xs = true := by unfold goodZ at g; simp at g; exact g.1
  simp only [Prod.mk.injEq, and_true] at h
  refine ⟨_, presL_yes gl hl, by simp, (goodL_out gl).1, fun k hk => ?_⟩
  rw [← h]
  unfold suitedL
  rw [suited_has hk]
  simp [suitP, List.getD_eq_getElem?_getD, hk]
theorem raise_law {xs up : List Int} {m : Int} (h : raiseL xs m = (up, true)) : raiseL up (-m) = (xs, true) ∧ -1000 ≤ m ∧ m ≤ 1000 := by
  unfold raiseL at h
  split at h
  case isFalse => cases h
  rename_i c
  obtain ⟨c1, c2, c3⟩ := c
  simp only [Prod.mk.injEq, and_true] at h
  have b := inB_out c2
  have e : up.map (· + -m) = xs := by
    rw [← h, List.map_map]
    conv => rhs; rw [← List.map_id xs]
    congr 1
    funext z
    show z + m + -m = z
    omega
  refine ⟨?_, b.1, b.2⟩
  rw [raiseL_yes (by rw [← h]; exact c3) (inB_mk (by omega) (by omega)) (by rw [e]; exact c1), e]
/-- A list that can be read. -/
structure RL (W : World) (B : Option Addr) (zs : List Int) : Prop where
  rd : RdI W W.heap.size B zs
theorem RL.below {W W' : World} {B : Option Addr} {zs : List Int} (h : RL W B zs) (hb : Below W.heap.size W W') : RL W' B zs := ⟨(h.rd.below hb).more hb.size⟩
theorem RL.own {w' : World} {base : Nat} {B : Option Addr} {d : Nat} {zs : List Int} (h : OwnI w' base (.slice B zs.length d) zs) : RL w' B zs := ⟨h.rd⟩
/-- A rule's box. -/
structure PX (W : World) (p : Nat) (V G : Int) : Prop where
  c0 : W.cell? ⟨p, 0, none⟩ = some (.int .i64 V)
  c1 : W.cell? ⟨p, 1, none⟩ = some (.int .i64 G)
theorem PX.below {W W' : World} {p : Nat} {V G : Int} (h : PX W p V G) (hb : Below W.heap.size W W') : PX W' p V G :=
  ⟨(hb.cell (lt_of_cell (by rw [h.c0]; rfl))).trans h.c0, (hb.cell (lt_of_cell (by rw [h.c1]; rfl))).trans h.c1⟩
section
variable {W : World} {A : Option Addr} {xs : List Int}
theorem RL.suit (h : RL W A xs) (c : Nat) (L M l : Int) (r : List Int) (ok : Bool) (e : suitL xs L M l = (r, ok)) (hl : xs.length ≤ 14) : Calls Try.prog 24 #[.slice A xs.length c, .agg #[.int .i64 L, .int .i64 M], .int .i64 l] W (fun e w' => ∃ A3 c3, e = .returned (.tuple #[.slice A3 r.length c3, .bool ok]) ∧ RL w' A3 r ∧ Below W.heap.size W w') := by
  have := implSuit_c A c xs L M l W h.rd (by omega)
  rw [e] at this
  exact this.mono fun e w' ⟨A3, c3, he, o, hb⟩ => ⟨A3, c3, he, RL.own o, hb⟩
theorem RL.ssuit (h : RL W A xs) (c : Nat) (L M l : Int) (r : List Int) (ok : Bool) (e : suitL xs L M l = (r, ok)) (hl : xs.length ≤ 14) : Calls Try.prog 23 #[.slice A xs.length c, .agg #[.int .i64 L, .int .i64 M], .int .i64 l] W (fun e w' => ∃ A3 c3, e = .returned (.tuple #[.slice A3 r.length c3, .bool ok]) ∧ RL w' A3 r ∧ Below W.heap.size W w') := by
  have := specSuit_c A c xs L M l W h.rd (by omega)
  rw [e] at this
  exact this.mono fun e w' ⟨A3, c3, he, o, hb⟩ => ⟨A3, c3, he, RL.own o, hb⟩
theorem RL.pres (h : RL W A xs) (c : Nat) (l : Int) (r : List Int) (ok : Bool) (e : presL xs l = (r, ok)) (hl : xs.length ≤ 14) : Calls Try.prog 14 #[.slice A xs.length c, .int .i64 l] W (fun e w' => ∃ A3 c3, e = .returned (.tuple #[.slice A3 r.length c3, .bool ok]) ∧ RL w' A3 r ∧ Below W.heap.size W w') := by
  have := implPres_c A c xs l W h.rd (by omega)
  rw [e] at this
  exact this.mono fun e w' ⟨A3, c3, he, o, hb⟩ => ⟨A3, c3, he, RL.own o, hb⟩
theorem RL.spres (h : RL W A xs) (c : Nat) (l : Int) (r : List Int) (ok : Bool) (e : presL xs l = (r, ok)) (hl : xs.length ≤ 14) : Calls Try.prog 12 #[.slice A xs.length c, .int .i64 l] W (fun e w' => ∃ A3 c3, e = .returned (.tuple #[.slice A3 r.length c3, .bool ok]) ∧ RL w' A3 r ∧ Below W.heap.size W w') := by
  have := specPres_c A c xs l W h.rd (by omega)
  rw [e] at this
  exact this.mono fun e w' ⟨A3, c3, he, o, hb⟩ => ⟨A3, c3, he, RL.own o, hb⟩
theorem RL.raise (h : RL W A xs) (c : Nat) (l : Int) (r : List Int) (ok : Bool) (e : raiseL xs l = (r, ok)) (hl : xs.length ≤ 14) : Calls Try.prog 19 #[.slice A xs.length c, .int .i64 l] W (fun e w' => ∃ A3 c3, e = .returned (.tuple #[.slice A3 r.length c3, .bool ok]) ∧ RL w' A3 r ∧ Below W.heap.size W w') := by
  have := implRaise_c A c xs l W h.rd (by omega)
  rw [e] at this
  exact this.mono fun e w' ⟨A3, c3, he, o, hb⟩ => ⟨A3, c3, he, RL.own o, hb⟩
theorem RL.sraise (h : RL W A xs) (c : Nat) (l : Int) (r : List Int) (ok : Bool) (e : raiseL xs l = (r, ok)) (hl : xs.length ≤ 14) : Calls Try.prog 18 #[.slice A xs.length c, .int .i64 l] W (fun e w' => ∃ A3 c3, e = .returned (.tuple #[.slice A3 r.length c3, .bool ok]) ∧ RL w' A3 r ∧ Below W.heap.size W w') := by
  have := specRaise_c A c xs l W h.rd (by omega)
  rw [e] at this
  exact this.mono fun e w' ⟨A3, c3, he, o, hb⟩ => ⟨A3, c3, he, RL.own o, hb⟩
end
theorem iRed (x L M h k : Int) (t : Bool) (w : World) (hx : -2000 ≤ x ∧ x ≤ 2000) (hM : 0 ≤ M ∧ M ≤ 300) (hh : -2000 ≤ h ∧ h ≤ 3000) (e : redR x L M h = (k, t)) : Calls Try.prog 32 #[.int .i64 x, .agg #[.int .i64 L, .int .i64 M], .int .i64 h] w fun e w' => e = .returned (.tuple #[.int .i64 k, .bool t]) ∧ Below w.heap.size w w' := by
  have := implRed_c x L M h w hx hM hh
  rw [e] at this; exact this
theorem sRed (x L M h k : Int) (t : Bool) (w : World) (hx : -2000 ≤ x ∧ x ≤ 2000) (hM : 0 ≤ M ∧ M ≤ 300) (hh : -2000 ≤ h ∧ h ≤ 3000) (e : redR x L M h = (k, t)) : Calls Try.prog 33 #[.int .i64 x, .agg #[.int .i64 L, .int .i64 M], .int .i64 h] w fun e w' => e = .returned (.tuple #[.int .i64 k, .bool t]) ∧ Below w.heap.size w w' := by
  have := specRed_c x L M h w hx hM hh
  rw [e] at this; exact this
set_option maxRecDepth 100000 in
set_option maxHeartbeats 16000000 in
theorem pressures_great (A : Option Addr) (n c : Nat) (w : World) (h : RdB w w.heap.size A n) : Calls Try.prog 8 #[.slice A n c] w fun e w' => e = .returned (.bool true) ∧ Below w.heap.size w w' := by
  by_cases hn : (65536 : Int) < (n : Int)
  · have hd : decide ((65536 : Int) < n) = true := by simp; omega
    go_enter Try.func8, Try.ntmps8
    go_wp2_with (go_at_call 27; refine (rBigY_c _ _ _ _).mono ?_; rintro e w' ⟨rfl, rfl⟩)
    (go_returns; exact ⟨by first | rfl | (simp; done) | (simp; omega), by (repeat' (first | (with_reducible exact Below.refl _ _) | (with_reducible assumption) | (with_reducible refine below_drewN ?_ _) | (with_reducible refine Below.alloc ?_ ?_ _) | (with_reducible refine Below.drew ?_) | (with_reducible refine Below.setCell ?_ ?_ _) | go_size))⟩)
  have hd : decide ((65536 : Int) < n) = false := by simp; omega
  have H := Lib.hid h
  clear h
  go_enter Try.func8, Try.ntmps8
  go_wp2_with fail
  refine (rBigY_c _ _ _ _).mono ?_
  rintro e w' ⟨rfl, rfl⟩
  go_wp2_with fail
  refine (drawSuited_c A n c _ H.out).mono ?_
  rintro e w1 ⟨A1, c1, xs, L, M, l, rfl, ⟨hL, hM⟩, hl0, O1, hl, hb1⟩
  go_upto_region 4 with (fail)
  obtain ⟨w2, hW⟩ : ∃ X, X = w1.alloc (.cells #[.int .i64 L, .int .i64 M] 33) := ⟨_, rfl⟩
  rw [← hW]
  have hb : Below w1.heap.size w1 w2 := by rw [hW]; exact (Below.refl _ _).alloc (Nat.le_refl _) _
  have X : PX w2 w1.heap.size L M := ⟨by rw [hW]; exact World.cell?_alloc_new w1 _ _ 0, by rw [hW]; exact World.cell?_alloc_new w1 _ _ 1⟩
  have Y := (RL.own O1).below hb
  have B := hb1.trans (hb.mono hb1.size)
  clear hW hb hb1 O1
  generalize w1.heap.size = p at *
  obtain ⟨r, ok, e1⟩ : ∃ r ok, suitL xs L M l = (r, ok) := ⟨_, _, rfl⟩
  have rl : r.length ≤ 14 := by have := suitL_len xs L M l hl; rw [e1] at this; exact this
  have E1 := Lib.hid e1
  clear e1
  have p0 := X.c0
  have p1 := X.c1
  go_wp2_with fail
  refine (Y.suit c1 L M l r ok E1.out hl).mono ?_
  rintro e w21 ⟨A3, c3, rfl, V, hb⟩
  clear p0 p1
  replace X := X.below hb
  replace Y := Y.below hb
  replace B := B.trans (hb.mono B.size)
  clear hb
  have p0 := X.c0
  have p1 := X.c1
  go_wp2_with fail
  refine (Y.ssuit c1 L M l r ok E1.out hl).mono ?_
  rintro e w22 ⟨A4, c4, rfl, V2, hb⟩
  clear p0 p1
  replace X := X.below hb
  replace Y := Y.below hb
  replace V := V.below hb
  replace B := B.trans (hb.mono B.size)
  clear hb
  go_upto_region 6 with (fail)
  go_cut [65] (fun s wx => s = .bool false ∧ ∃ q, wx = w22.drewN q)
  case first => as_aux_lemma =>
    cases ok
    · go_wp2_with (go_at_call 29; refine (rInts_c _ _ _ _ _ _ V.rd V2.rd (by omega)).mono ?_; rintro e w' ⟨rfl, nd, rfl⟩)
      go_meet
      exact ⟨rfl, _, rfl⟩
    · go_wp2_with (go_at_call 29; refine (rInts_c _ _ _ _ _ _ V.rd V2.rd (by omega)).mono ?_; rintro e w' ⟨rfl, nd, rfl⟩)
      go_meet
      exact ⟨rfl, _, rfl⟩
  case rest => as_aux_lemma =>
    obtain ⟨rfl, q, rfl⟩ := hcut
    have hb := below_drewN (Below.refl w22.heap.size w22) q
    clear V2
    replace X := X.below hb
    replace Y := Y.below hb
    replace V := V.below hb
    replace B := B.trans (hb.mono B.size)
    clear hb
    generalize w22.drewN q = wm65 at *
    go_upto_if 66 with (fail)
    go_cut [66] (fun _ wx => Below w.heap.size w wx)
    case first => as_aux_lemma =>
      cases ok
      · clear X Y V
        go_wp2_with fail
        go_meet
        exact B
      · obtain ⟨ps, e2, pl, x12, hh⟩ := suit_law E1.out
        have E2 := Lib.hid e2
        have HH := Lib.hid hh
        have PL := Lib.hid pl
        clear e2 hh pl E1
        go_wp2_with fail
        refine (Y.pres c1 l ps true E2.out hl).mono ?_
        rintro e w23 ⟨A5, c5, rfl, Q, hb⟩
        replace X := X.below hb
        replace Y := Y.below hb
        replace V := V.below hb
        replace B := B.trans (hb.mono B.size)
        clear hb
        have p0 := X.c0
        have p1 := X.c1
        have XH := Lib.hid (And.intro X (And.intro Y (And.intro V (And.intro Q B))))
        clear X Y V Q B E2
        go_wp2
        go_loopw [12] (fun iv wr => ∃ k : Nat, k ≤ xs.length ∧ iv = .int .i64 k ∧ ∃ q, wr = w23.drewN q) (fun iv _ => xs.length - (intOf iv).toNat)
        case atStart => exact ⟨0, by omega, rfl, 0, rfl⟩
        case round =>
          obtain ⟨k, hk, rfl, q, rfl⟩ := hrel
          by_cases hlt : k < xs.length
          · obtain ⟨b1, o1, y, hA, hyk, hb1, hc1⟩ := XH.out.2.2.2.1.rd.at_ (show k < ps.length by rw [PL.out]; exact hlt)
            subst hA
            have hs := HH.out k hlt
            rw [← hyk] at hs
            have hc := fun m => rHas_c A3 c3 r (k : Int) (w23.drewN m) (XH.out.2.2.1.rd.drewN m) (by omega)
            rw [hs] at hc
            have hi1 : (k : Int) < (xs.length : Int) := by omega
            have hi2 : (k : Int) < (ps.length : Int) := by rw [PL.out]; exact hi1
            have Wk : IntKind.i64.wrap ((k : Int) + 1) = (k : Int) + 1 := IntWalk.i64_in _ (by omega)
            clear hyk hs
            by_cases t1 : L ≤ y
            · have d1 : decide (L ≤ y) = true := decide_eq_true t1
              by_cases t2 : y ≤ M
              · have d2 : decide (y ≤ M) = true := decide_eq_true t2
                rw [inB_mk t1 t2] at hc
                clear t1 t2
                have HC := Lib.hid hc
                clear hc
                go_upto_region 15 with (fail)
                go_quiet ((go_at_call 30; first | exact Calls.quiet_of_same ((HC.out _).mono fun _ _ hh => ⟨hh.1, hh.2.symm⟩) | exact quiet_add_same ((HC.out _).mono fun _ _ hh => ⟨hh.1, hh.2.symm⟩)))
                go_wp2
                go_roundw
                case rel => exact ⟨k + 1, by omega, by go_num, _, by first | rfl | exact World.drewN_drewN _ _ _⟩
                case measure => simp [intOf]; omega
              · have d2 : decide (y ≤ M) = false := decide_eq_false t2
                rw [inB_hi (by omega)] at hc
                clear t1 t2
                have HC := Lib.hid hc
                clear hc
                go_upto_region 15 with (fail)
                go_quiet ((go_at_call 30; first | exact Calls.quiet_of_same ((HC.out _).mono fun _ _ hh => ⟨hh.1, hh.2.symm⟩) | exact quiet_add_same ((HC.out _).mono fun _ _ hh => ⟨hh.1, hh.2.symm⟩)))
                go_wp2
                go_roundw
                case rel => exact ⟨k + 1, by omega, by go_num, _, by first | rfl | exact World.drewN_drewN _ _ _⟩
                case measure => simp [intOf]; omega
            · have d1 : decide (L ≤ y) = false := decide_eq_false t1
              rw [inB_lo (by omega)] at hc
              clear t1
              have HC := Lib.hid hc
              clear hc
              go_upto_region 15 with (fail)
              go_quiet ((go_at_call 30; first | exact Calls.quiet_of_same ((HC.out _).mono fun _ _ hh => ⟨hh.1, hh.2.symm⟩) | exact quiet_add_same ((HC.out _).mono fun _ _ hh => ⟨hh.1, hh.2.symm⟩)))
              go_wp2
              go_roundw
              case rel => exact ⟨k + 1, by omega, by go_num, _, by first | rfl | exact World.drewN_drewN _ _ _⟩
              case measure => simp [intOf]; omega
          · have hi1 : ¬ (k : Int) < (xs.length : Int) := by omega
            have hb := below_drewN (Below.refl w23.heap.size w23) q
            have B := XH.out.2.2.2.2.trans (hb.mono XH.out.2.2.2.2.size)
            clear XH hb p0 p1
            go_wp2_with fail
            go_meet
            exact B
    case rest => as_aux_lemma =>
      clear X Y V B E1 rl hl hL hM hl0
      have B := hcut
      have h2 : RdB wc wc.heap.size A n := (H.out.below B).more B.size
      clear hcut
      go_wp2_with fail
      refine (drawReducer_c A n c _ h2).mono ?_
      rintro e w50 ⟨x, L, M, h, rfl, hx, ⟨hL, hM⟩, hh, hb1⟩
      replace B := B.trans (hb1.mono B.size)
      clear h2
      go_upto_region 18 with (fail)
      obtain ⟨w51, hW⟩ : ∃ X, X = w50.alloc (.cells #[.int .i64 L, .int .i64 M] 33) := ⟨_, rfl⟩
      rw [← hW]
      have hb : Below w50.heap.size w50 w51 := by rw [hW]; exact (Below.refl _ _).alloc (Nat.le_refl _) _
      have X : PX w51 w50.heap.size L M := ⟨by rw [hW]; exact World.cell?_alloc_new w50 _ _ 0, by rw [hW]; exact World.cell?_alloc_new w50 _ _ 1⟩
      replace B := B.trans (hb.mono B.size)
      clear hW hb hb1
      generalize w50.heap.size = p2 at *
      obtain ⟨k, fine, e1⟩ : ∃ r ok, redR x L M h = (r, ok) := ⟨_, _, rfl⟩
      have kb : 0 ≤ k ∧ k ≤ 2000 := by
        cases fine
        · unfold redR at e1; split at e1 <;> simp at e1; omega
        · have := redR_law e1; omega
      have E1 := Lib.hid e1
      clear e1
      have p0 := X.c0
      have p1 := X.c1
      go_wp2_with fail
      refine (iRed x L M h k fine w51 (by omega) hM (by omega) E1.out).mono ?_
      rintro e w61 ⟨rfl, hb⟩
      clear p0 p1
      replace X := X.below hb
      replace B := B.trans (hb.mono B.size)
      clear hb
      have p0 := X.c0
      have p1 := X.c1
      go_wp2_with fail
      refine (sRed x L M h k fine w61 (by omega) hM (by omega) E1.out).mono ?_
      rintro e w62 ⟨rfl, hb⟩
      clear p0 p1
      replace X := X.below hb
      replace B := B.trans (hb.mono B.size)
      clear hb
      obtain ⟨u, hu⟩ : ∃ u, u = h - x := ⟨_, rfl⟩
      have Wu : IntKind.i64.wrap (h - x) = u := by rw [hu]; exact IntWalk.i64_in _ (by omega)
      have ub : -2000 ≤ u ∧ u ≤ 3000 := by omega
      obtain ⟨v, hv⟩ : ∃ v, v = u - k := ⟨_, rfl⟩
      have Wv : IntKind.i64.wrap (u - k) = v := by rw [hv]; exact IntWalk.i64_in _ (by omega)
      have LW : fine = true → L ≤ v ∧ v ≤ M ∧ (0 < k → v = M) := fun hf => by
        have e := E1.out
        rw [hf] at e
        have := redR_law e
        rw [hv, hu]; exact ⟨this.1, this.2.1, this.2.2.2.1⟩
      have LH := Lib.hid LW
      clear LW hu hv hx hh E1
      go_upto_region 23 with (fail)
      go_cut [160] (fun s wx => s = .bool false ∧ wx = w62)
      case first => as_aux_lemma =>
        have p0 := X.c0
        have p1 := X.c1
        clear X B Wu Wv
        have d3 : decide (k < 0) = false := decide_eq_false (by omega)
        cases fine
        · clear LH
          go_wp2_with fail
          go_meet
          exact ⟨rfl, rfl⟩
        · obtain ⟨f1, f2, f3⟩ := LH.out rfl
          by_cases k0 : 0 < k
          · have e := f3 k0
            have d1 : decide (v < L) = false := decide_eq_false (by omega)
            have d2 : decide (M < v) = false := decide_eq_false (by omega)
            have d4 : decide (0 < k) = true := decide_eq_true k0
            have d5 : (v == M) = true := by simp [e]
            have d6 : (v != M) = false := by simp [e]
            clear e f1 f2 f3 LH k0
            go_wp2_with fail
            go_meet
            exact ⟨rfl, rfl⟩
          · have d1 : decide (v < L) = false := decide_eq_false (by omega)
            have d2 : decide (M < v) = false := decide_eq_false (by omega)
            have d4 : decide (0 < k) = false := decide_eq_false k0
            clear f1 f2 f3 LH k0
            go_wp2_with fail
            go_meet
            exact ⟨rfl, rfl⟩
      case rest => as_aux_lemma =>
        obtain ⟨rfl, rfl⟩ := hcut
        have h2 : RdB wc wc.heap.size A n := (H.out.below B).more B.size
        clear X LH Wu Wv ub kb hL hM
        go_wp2_with fail
        refine (drawRaise_c A n c _ h2).mono ?_
        rintro e w70 ⟨A1, c1, xs, z, rfl, hz, O1, hl, hb⟩
        replace B := B.trans (hb.mono B.size)
        have Y := RL.own O1
        clear O1 hb h2
        obtain ⟨r, ok, e1⟩ : ∃ r ok, raiseL xs z = (r, ok) := ⟨_, _, rfl⟩
        have rl : r.length ≤ 14 := by have := raiseL_len xs z hl; rw [e1] at this; exact this
        have E1 := Lib.hid e1
        clear e1
        go_wp2_with fail
        refine (Y.raise c1 z r ok E1.out hl).mono ?_
        rintro e w91 ⟨A3, c3, rfl, V, hb⟩
        replace Y := Y.below hb
        replace B := B.trans (hb.mono B.size)
        clear hb
        go_wp2_with fail
        refine (Y.sraise c1 z r ok E1.out hl).mono ?_
        rintro e w92 ⟨A4, c4, rfl, V2, hb⟩
        replace Y := Y.below hb
        replace V := V.below hb
        replace B := B.trans (hb.mono B.size)
        clear hb
        go_upto_region 28 with (fail)
        go_cut [186] (fun s wx => s = .bool false ∧ ∃ q, wx = w92.drewN q)
        case first => as_aux_lemma =>
          cases ok
          · go_wp2_with (go_at_call 29; refine (rInts_c _ _ _ _ _ _ V.rd V2.rd (by omega)).mono ?_; rintro e w' ⟨rfl, nd, rfl⟩)
            go_meet
            exact ⟨rfl, _, rfl⟩
          · go_wp2_with (go_at_call 29; refine (rInts_c _ _ _ _ _ _ V.rd V2.rd (by omega)).mono ?_; rintro e w' ⟨rfl, nd, rfl⟩)
            go_meet
            exact ⟨rfl, _, rfl⟩
        case rest => as_aux_lemma =>
          obtain ⟨rfl, q, rfl⟩ := hcut
          have hb := below_drewN (Below.refl w92.heap.size w92) q
          clear V2
          replace Y := Y.below hb
          replace V := V.below hb
          replace B := B.trans (hb.mono B.size)
          clear hb
          generalize w92.drewN q = wm186 at *
          go_upto_if 187 with (fail)
          go_cut [187] (fun _ wx => Below w.heap.size w wx)
          case first => as_aux_lemma =>
            cases ok
            · clear Y V
              go_wp2_with fail
              go_meet
              exact B
            · obtain ⟨e2, z1, z2⟩ := raise_law E1.out
              have E2 := Lib.hid e2
              have Wz : IntKind.i64.wrap (-z) = -z := IntWalk.i64_in _ (by omega)
              clear e2 E1
              go_wp2_with fail
              refine (V.raise c3 (-z) xs true E2.out rl).mono ?_
              rintro e w93 ⟨A5, c5, rfl, Q, hb⟩
              replace Y := Y.below hb
              replace V := V.below hb
              replace B := B.trans (hb.mono B.size)
              clear hb
              go_wp2_with (go_at_call 29; refine (rInts_c _ _ _ _ _ _ Q.rd Y.rd (by omega)).mono ?_; rintro e w' ⟨rfl, nd, rfl⟩)
              go_meet
              exact below_drewN B _
          case rest => as_aux_lemma =>
            clear Y V B E1 rl hl hz
            have B := hcut
            have h2 : RdB wc wc.heap.size A n := (H.out.below B).more B.size
            clear hcut
            go_wp2_with fail
            refine (drawPres_c A n c _ h2).mono ?_
            rintro e w90 ⟨A1, c1, xs, z, rfl, hz, O1, hl, hb⟩
            replace B := B.trans (hb.mono B.size)
            have Y := RL.own O1
            clear O1 hb h2
            obtain ⟨r, ok, e1⟩ : ∃ r ok, presL xs z = (r, ok) := ⟨_, _, rfl⟩
            have rl : r.length ≤ 14 := by have := presL_len xs z hl; rw [e1] at this; exact this
            have E1 := Lib.hid e1
            clear e1
            go_wp2_with fail
            refine (Y.pres c1 z r ok E1.out hl).mono ?_
            rintro e w111 ⟨A3, c3, rfl, V, hb⟩
            replace Y := Y.below hb
            replace B := B.trans (hb.mono B.size)
            clear hb
            go_wp2_with fail
            refine (Y.spres c1 z r ok E1.out hl).mono ?_
            rintro e w112 ⟨A4, c4, rfl, V2, hb⟩
            replace Y := Y.below hb
            replace V := V.below hb
            replace B := B.trans (hb.mono B.size)
            clear hb
            cases ok
            · go_wp2_with (go_at_call 29; refine (rInts_c _ _ _ _ _ _ V.rd V2.rd (by omega)).mono ?_; rintro e w' ⟨rfl, nd, rfl⟩)
              go_returns
              exact ⟨rfl, below_drewN B _⟩
            · go_wp2_with (go_at_call 29; refine (rInts_c _ _ _ _ _ _ V.rd V2.rd (by omega)).mono ?_; rintro e w' ⟨rfl, nd, rfl⟩)
              go_returns
              exact ⟨rfl, below_drewN B _⟩
end Go.Proofs.Ytakpoalcfjedlaa
