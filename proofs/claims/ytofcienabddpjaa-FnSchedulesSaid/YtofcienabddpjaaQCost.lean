/- Contracts: the table of costs, the program. -/
import Derived.Test.YtofcienabddpjaaQTab
namespace Go.Proofs.Ytofcienabddpjaa
open Go.RowKit

/-- What the program's table holds with r hours to go, below level m. -/
def RowI (F : Nat → Int) (L E M P : Int) (qs ys : List Int) (r m : Nat) : Prop :=
  ∀ l : Nat, E ≤ l → (l : Int) ≤ M → l < m → F ((ys.length - r) * 61 + l) = encV (tabV E M P L qs ys ys.length r l)
/-- The rows with less than r hours to go are whole. -/
def RowsI (F : Nat → Int) (L E M P : Int) (qs ys : List Int) (r : Nat) : Prop := ∀ q, q < r → RowI F L E M P qs ys q 61
theorem row_set {F : Nat → Int} {L E M P : Int} {qs ys : List Int} {r m i : Nat} (h : RowI F L E M P qs ys r m) (hi : (ys.length - r) * 61 + m ≤ i) (v : Int) : RowI (updN F i v) L E M P qs ys r m := fun l h1 h2 h3 => by
  rw [updN_ne F v (by omega)]
  exact h l h1 h2 h3
theorem rows_set {F : Nat → Int} {L E M P : Int} {qs ys : List Int} {r i : Nat} (h : RowsI F L E M P qs ys r) (hr : r ≤ ys.length) (hi : i < (ys.length - r) * 61 + 61) (v : Int) : RowsI (updN F i v) L E M P qs ys r := fun q hq l h1 h2 h3 => by
  rw [updN_ne F v (by omega)]
  exact h q hq l h1 h2 h3
theorem row_add {F : Nat → Int} {L E M P : Int} {qs ys : List Int} {r m : Nat} (h : RowI F L E M P qs ys r m) (e : F ((ys.length - r) * 61 + m) = encV (tabV E M P L qs ys ys.length r m)) : RowI F L E M P qs ys r (m + 1) := fun l h1 h2 h3 => by
  by_cases q : l = m
  · subst q; exact e
  · exact h l h1 h2 (by omega)
set_option maxRecDepth 100000 in
set_option maxHeartbeats 1000000 in
theorem costsOf_c {B B' : Nat} (L E M P : Int) (A A' Q : Option Addr) (c c' d : Nat) (xs ys qs : List Int) (w : World) (h : RdI w B Q qs) (h' : RdI w B' A' ys) (hS1 : B ≤ w.heap.size) (hS2 : B' ≤ w.heap.size) (nb : NumB L E M P qs ys) :
    Calls Try.prog 46 #[.agg #[.int .i64 L, .int .i64 E, .int .i64 M, .int .i64 P, .slice A xs.length c, .slice A' ys.length c'], .slice Q qs.length d] w fun e w' => ∃ (T : Nat) (F : Nat → Int), e = .returned (.pointer (some ⟨T, 0, none⟩)) ∧ w.heap.size ≤ T ∧ TabI w' T F ∧ RowsI F L E M P qs ys (ys.length + 1) ∧ Below w.heap.size w w' := by
  obtain ⟨e0, el, lm, m1, g0, g1, n1, n2, nq, hq, hy⟩ := id nb
  obtain ⟨e, rfl⟩ := Int.eq_ofNat_of_zero_le e0
  have H1 := Lib.hid h
  have H2 := Lib.hid h'
  have NQ := Lib.hid nq
  have NB := Lib.hid nb
  clear h h' nq nb
  go_enter Try.func46, Try.ntmps46
  go_wp2
  go_cut [5, 6] (fun t hh wx => t = .pointer (some ⟨w.heap.size + 1, 0, none⟩) ∧ hh = .int .i64 ys.length ∧ wx = ((w.alloc (.cells #[.int .i64 L, .int .i64 e, .int .i64 M, .int .i64 P, .slice A xs.length c, .slice A' ys.length c'] 28)).alloc (.cells Try.zeroCells90 90)).drew)
  case first =>
    go_region
    go_wp2_with fail
    go_meet
    exact ⟨rfl, rfl, rfl⟩
  case rest =>
    obtain ⟨rfl, rfl, rfl⟩ := hcut
    have P0 : PB ((w.alloc (.cells #[.int .i64 L, .int .i64 e, .int .i64 M, .int .i64 P, .slice A xs.length c, .slice A' ys.length c'] 28)).alloc (.cells Try.zeroCells90 90)).drew w.heap.size L e M P (.slice A xs.length c) (.slice A' ys.length c') := ((PB.new w L e M P _ _).alloc _).drew
    have T0 : TabI ((w.alloc (.cells #[.int .i64 L, .int .i64 e, .int .i64 M, .int .i64 P, .slice A xs.length c, .slice A' ys.length c'] 28)).alloc (.cells Try.zeroCells90 90)).drew (w.heap.size + 1) (fun _ => 0) := (by have := TabI.new (w.alloc (.cells #[.int .i64 L, .int .i64 e, .int .i64 M, .int .i64 P, .slice A xs.length c, .slice A' ys.length c'] 28)); rw [World.size_alloc] at this; exact this.drew)
    have B0 : Below w.heap.size w ((w.alloc (.cells #[.int .i64 L, .int .i64 e, .int .i64 M, .int .i64 P, .slice A xs.length c, .slice A' ys.length c'] 28)).alloc (.cells Try.zeroCells90 90)).drew := by (repeat' (first | (with_reducible exact Below.refl _ _) | (with_reducible assumption) | (with_reducible refine below_drewN ?_ _) | (with_reducible refine Below.alloc ?_ ?_ _) | (with_reducible refine Below.drew ?_) | (with_reducible refine Below.setCell ?_ ?_ _) | go_size))
    have H0 := Lib.hid (And.intro P0 (And.intro T0 B0))
    clear P0 T0 B0
    obtain ⟨w0, hw0⟩ : ∃ w0, w0 = ((w.alloc (.cells #[.int .i64 L, .int .i64 e, .int .i64 M, .int .i64 P, .slice A xs.length c, .slice A' ys.length c'] 28)).alloc (.cells Try.zeroCells90 90)).drew := ⟨_, rfl⟩
    rw [← hw0] at H0 ⊢
    clear hw0
    go_wp2
    go_loopw [7, 8, 9, 10, 11, 55] (fun hr _ _ _ _ _ wr => ∃ (r : Nat) (F : Nat → Int), r ≤ ys.length + 1 ∧ hr = .int .i64 ((ys.length : Int) - r) ∧ PB wr w.heap.size L e M P (.slice A xs.length c) (.slice A' ys.length c') ∧ TabI wr (w.heap.size + 1) F ∧ RowsI F L e M P qs ys r ∧ Below w.heap.size w wr) (fun hr _ _ _ _ _ _ => (intOf hr + 1).toNat)
    case atStart => exact ⟨0, _, by omega, by simp, H0.out.1, H0.out.2.1, fun q hq => absurd hq (by omega), H0.out.2.2⟩
    case round =>
      clear H0
      obtain ⟨r, F, hr, rfl, PX, TX, RX, BX⟩ := hrel
      by_cases hle : r ≤ ys.length
      · obtain ⟨h, hh1, hh2⟩ : ∃ h, ys.length ≤ h + r ∧ h + r ≤ ys.length := ⟨ys.length - r, by omega, by omega⟩
        have hv : (ys.length : Int) - r = h := by omega
        rw [hv]
        clear hv
        have h12 : (h : Int) ≤ 12 := by omega
        have h13 : (h : Int) < 13 := by omega
        have W1 : IntKind.i64.wrap ((h : Int) - 1) = (h : Int) - 1 := IntWalk.i64_in _ (by omega)
        have hle0 : (0 : Int) ≤ h := by omega
        obtain ⟨p0, p1, p2, p3, p4, p5⟩ := id PX
        go_wp2
        clear p0 p1 p2 p3 p4 p5
        go_loopw [8, 9, 10, 11, 55] (fun lv _ _ _ _ wr => ∃ (l : Nat) (F : Nat → Int), e ≤ l ∧ (l : Int) ≤ M + 1 ∧ lv = .int .i64 l ∧ PB wr w.heap.size L e M P (.slice A xs.length c) (.slice A' ys.length c') ∧ TabI wr (w.heap.size + 1) F ∧ RowsI F L e M P qs ys r ∧ RowI F L e M P qs ys r l ∧ Below w.heap.size w wr) (fun lv _ _ _ _ _ => (M + 1 - intOf lv).toNat)
        case atStart => exact ⟨e, F, by omega, by omega, rfl, PX, TX, RX, fun l h1 h2 h3 => by omega, BX⟩
        case round =>
          clear PX TX RX BX
          obtain ⟨l, F, hel, hlM, rfl, PX, TX, RX, RL, BX⟩ := hrel
          by_cases hl : (l : Int) ≤ M
          · have l61 : (l : Int) < 61 := by omega
            have l0 : (0 : Int) ≤ l := by omega
            have hi : h * 61 + l < 793 := by omega
            have c0 := TX.cell _ hi
            have f0 := TX.free _ hi
            have W2 : IntKind.i64.wrap ((l : Int) + 1) = (l : Int) + 1 := IntWalk.i64_in _ (by omega)
            obtain ⟨p0, p1, p2, p3, p4, p5⟩ := id PX
            have PX1 := PX.set (a := ⟨w.heap.size + 1, h * 61 + l, none⟩) (by simp) (.int .i64 1099511627776)
            have TX1 := TX.set hi 1099511627776
            have BX1 := BX.setCell (p := ⟨w.heap.size + 1, h * 61 + l, none⟩) (by simp) (.int .i64 1099511627776)
            have RX1 : RowsI (updN F (h * 61 + l) 1099511627776) L e M P qs ys r := rows_set RX (by omega) (by omega) _
            have RL1 : RowI (updN F (h * 61 + l) 1099511627776) L e M P qs ys r l := row_set RL (by omega) _
            have ev0 : updN F (h * 61 + l) 1099511627776 (h * 61 + l) = 1099511627776 := updN_self _ _ _
            have EV := Lib.hid ev0
            clear ev0
            go_upto_region 9 with (fail)
            clear c0 f0 p0 p1 p2 p3 p4 p5 TX PX BX RX RL
            generalize updN F (h * 61 + l) 1099511627776 = F1 at *
            generalize wr.setCell ⟨w.heap.size + 1, h * 61 + l, none⟩ (.int .i64 1099511627776) = w1 at *
            obtain ⟨p0, p1, p2, p3, p4, p5⟩ := id PX1
            have c0 := TX1.cell _ hi
            have f0 := TX1.free _ hi
            by_cases hr0 : r = 0
            · subst hr0
              obtain rfl : h = ys.length := by omega
              by_cases hL : L ≤ l
              · have TX2 := TX1.set hi 0
                have PX2 := PX1.set (a := ⟨w.heap.size + 1, ys.length * 61 + l, none⟩) (by simp) (.int .i64 0)
                have BX2 := BX1.setCell (p := ⟨w.heap.size + 1, ys.length * 61 + l, none⟩) (by simp) (.int .i64 0)
                have RX2 : RowsI (updN F1 (ys.length * 61 + l) 0) L e M P qs ys 0 := fun q hq => absurd hq (by omega)
                have RL2 : RowI (updN F1 (ys.length * 61 + l) 0) L e M P qs ys 0 (l + 1) := row_add (row_set RL1 (by omega) _) (by rw [Nat.sub_zero, updN_self, tabV, if_pos hL]; rfl)
                go_wp2
                go_roundw
                case rel => exact ⟨l + 1, _, by omega, by omega, by go_num, PX2, TX2, RX2, RL2, BX2⟩
                case measure => simp [intOf]; omega
              · have RL2 : RowI F1 L e M P qs ys 0 (l + 1) := row_add RL1 (by rw [Nat.sub_zero, EV.out, tabV, if_neg hL]; rfl)
                go_wp2
                go_roundw
                case rel => exact ⟨l + 1, _, by omega, by omega, by go_num, PX1, TX1, RX1, RL2, BX1⟩
                case measure => simp [intOf]; omega
            · obtain ⟨r', rfl⟩ : ∃ r', r = r' + 1 := ⟨r - 1, by omega⟩
              have hne : ((h : Int) == (ys.length : Int)) = false := by simp; omega
              have W3 : IntKind.i64.wrap (P + 1) = P + 1 := IntWalk.i64_in _ (by omega)
              have W4 : IntKind.i64.wrap ((h : Int) + 1) = (h : Int) + 1 := IntWalk.i64_in _ (by omega)
              go_wp2
              clear c0 f0 p0 p1 p2 p3 p4 p5
              obtain ⟨x, hx⟩ : ∃ x, x = qs.getD h 0 := ⟨_, rfl⟩
              obtain ⟨u, hu⟩ : ∃ u, u = ys.getD h 0 := ⟨_, rfl⟩
              have hxb := hq h (by omega)
              have hub := hy h (by omega)
              rw [← hx] at hxb
              rw [← hu] at hub
              go_loopw [9, 10, 11, 55] (fun _ _ _ kv wr => ∃ (k : Nat) (F : Nat → Int), (k : Int) ≤ P + 1 ∧ kv = .int .i64 k ∧ PB wr w.heap.size L e M P (.slice A xs.length c) (.slice A' ys.length c') ∧ TabI wr (w.heap.size + 1) F ∧ RowsI F L e M P qs ys (r' + 1) ∧ RowI F L e M P qs ys (r' + 1) l ∧ F (h * 61 + l) = imV (fun z => encV (tabV e M P L qs ys ys.length r' z)) e M x u l k ∧ Below w.heap.size w wr) (fun _ _ _ kv _ => (P + 1 - intOf kv).toNat)
              case atStart => exact ⟨0, F1, by omega, rfl, PX1, TX1, RX1, RL1, EV.out, BX1⟩
              case round =>
                clear PX1 TX1 RX1 RL1 BX1 EV
                obtain ⟨k, F2, hkP, rfl, PX, TX, RX, RL, hev, BX⟩ := hrel
                by_cases hk : (k : Int) ≤ P
                · have hkk : (k : Int) < P + 1 := by omega
                  have W5 : IntKind.i64.wrap ((k : Int) + 1) = (k : Int) + 1 := IntWalk.i64_in _ (by omega)
                  have af := after_c L e M P A A' c c' xs ys wr (H2.out.below (BX.mono hS2)) (Nat.le_trans hS2 BX.size) h l k (by omega) (by rw [← hu]; exact hub) (by omega) (by omega)
                  rw [← hu] at af
                  obtain ⟨p0, p1, p2, p3, p4, p5⟩ := id PX
                  cases ok : okV e M l k u
                  · rw [ok] at af
                    have AF := Lib.hid af
                    have hev2 : F2 (h * 61 + l) = imV (fun z => encV (tabV e M P L qs ys ys.length r' z)) e M x u l (k + 1) := by
                      rw [imV, if_neg (fun q => by rw [(okV_iff e M l k u).2 q] at ok; cases ok)]; exact hev
                    have HEV := Lib.hid hev2
                    clear af hev hev2
                    go_wp2_with fail
                    go_at_call 73
                    with_reducible refine AF.out.mono ?_
                    rintro e' w2 ⟨rfl, hb2⟩
                    have PX2 := PX.below hb2
                    have TX2 := TX.below hb2
                    have BX2 := BX.trans (hb2.mono BX.size)
                    clear p0 p1 p2 p3 p4 p5 hb2 PX TX BX
                    go_wp2
                    go_roundw
                    case rel => exact ⟨k + 1, _, by omega, by go_num, PX2, TX2, RX, RL, HEV.out, BX2⟩
                    case measure => simp [intOf]; omega
                  · rw [ok] at af
                    have o := (okV_iff e M l k u).1 ok
                    have hev2 : imV (fun z => encV (tabV e M P L qs ys ys.length r' z)) e M x u l (k + 1) = min (F2 (h * 61 + l)) (x * k + encV (tabV e M P L qs ys ys.length r' (l + k - u))) := by
                      rw [imV, if_pos o, ← hev]
                    obtain ⟨z, hz⟩ : ∃ z : Nat, (l : Int) + k - u = z := ⟨((l : Int) + k - u).toNat, by omega⟩
                    rw [hz] at af hev2
                    have z0 : (0 : Int) ≤ z := by omega
                    have z61 : (z : Int) < 61 := by omega
                    have AF := Lib.hid af
                    have HEV := Lib.hid hev2
                    clear af hev hev2
                    go_wp2_with fail
                    go_at_call 73
                    with_reducible refine AF.out.mono ?_
                    rintro e' w2 ⟨rfl, hb2⟩
                    have PX2 := PX.below hb2
                    have TX2 := TX.below hb2
                    have BX2 := BX.trans (hb2.mono BX.size)
                    clear p0 p1 p2 p3 p4 p5 hb2 PX TX BX
                    obtain ⟨p0, p1, p2, p3, p4, p5⟩ := id PX2
                    have c0 := TX2.cell _ hi
                    have f0 := TX2.free _ hi
                    have hi2 : (h + 1) * 61 + z < 793 := by omega
                    have c1 := TX2.cell _ hi2
                    have ez : F2 ((h + 1) * 61 + z) = encV (tabV e M P L qs ys ys.length r' z) := by
                      have := RX r' (by omega) z (by omega) (by omega) (by omega)
                      rw [show ys.length - r' = h + 1 by omega] at this
                      exact this
                    rw [ez] at c1
                    have tb := tabV_b (E := e) (M := M) (L := L) (ys := ys) (xs := qs) (P := P) g1 hq r' (by omega) z
                    have tb2 : 0 ≤ encV (tabV e M P L qs ys ys.length r' z) ∧ encV (tabV e M P L qs ys ys.length r' z) ≤ 1099511627776 := by unfold encV noC; split <;> omega
                    generalize encV (tabV e M P L qs ys ys.length r' z) = y at *
                    generalize F2 (h * 61 + l) = v at *
                    have m := mulB hxb.1 hxb.2 (show (0 : Int) ≤ k by omega) (show (k : Int) ≤ 10 by omega)
                    have W6 : IntKind.i64.wrap (x * k) = x * k := IntWalk.i64_in _ (by omega)
                    have W7 : IntKind.i64.wrap (x * k + y) = x * k + y := IntWalk.i64_in _ (by omega)
                    have P2 := H1.out.below (BX2.mono hS1)
                    obtain ⟨b3, o3, x', rfl, hx', hb3, hcx⟩ := P2.at_ (k := h) (by have := NQ.out; omega)
                    obtain rfl := hx'.trans hx.symm
                    have HX := Lib.hid hx
                    have HU := Lib.hid hu
                    have HZ := Lib.hid hz
                    clear hx hx' hu hz
                    go_upto_region 17 with (fail)
                    have h13' : (h : Int) + 1 < 13 := by omega
                    have h0' : (0 : Int) ≤ (h : Int) + 1 := by omega
                    have hq1 : (h : Int) < (qs.length : Int) := by have := NQ.out; omega
                    obtain ⟨v', hv'⟩ : ∃ v', v' = (if x' * (k : Int) + y < v then x' * (k : Int) + y else v) := ⟨_, rfl⟩
                    have ev3 : updN F2 (h * 61 + l) v' (h * 61 + l) = imV (fun z => encV (tabV e M P L qs ys ys.length r' z)) e M x' u l (k + 1) := by
                      rw [updN_self, HEV.out, hv', Int.min_def]; split <;> split <;> omega
                    have K3 := Lib.hid (And.intro ev3 (And.intro (PX2.set (a := ⟨w.heap.size + 1, h * 61 + l, none⟩) (by simp) (.int .i64 v')).drew (And.intro (TX2.set hi v').drew (And.intro (rows_set RX (by omega) (show h * 61 + l < _ by omega) v') (And.intro (row_set RL (show _ ≤ h * 61 + l by omega) v') (below_drew (BX2.setCell (p := ⟨w.heap.size + 1, h * 61 + l, none⟩) (by simp) (.int .i64 v'))))))))
                    have HV := Lib.hid hv'
                    clear H1 H2 NQ HEV AF RX RL P2 hv' ev3
                    go_big_region
                    rw [← HV.out]
                    obtain ⟨ev3, PX3, TX3, RX3, RL3, BX3⟩ := K3.out
                    clear K3 HV PX2 TX2 BX2 p0 p1 p2 p3 p4 p5 c0 c1 f0
                    have EV3 := Lib.hid ev3
                    clear ev3
                    go_wp2
                    go_roundw
                    case rel => exact ⟨k + 1, _, by omega, by go_num, PX3, TX3, RX3, RL3, EV3.out, BX3⟩
                    case measure => simp [intOf]; omega
                · have hk1 : k = P.toNat + 1 := by omega
                  have rl : RowI F2 L e M P qs ys (r' + 1) (l + 1) := by
                    refine row_add RL ?_
                    have e1 : ys.length - (r' + 1) = h := by omega
                    have en := imV_enc (g := tabV e M P L qs ys ys.length r') (E := e) (M := M) (u := u) (l := l) hxb.1 hxb.2 (fun z => by have := tabV_b (E := e) (M := M) (L := L) (ys := ys) (xs := qs) (P := P) g1 hq r' (by omega) z; omega) (h := fun z => encV (tabV e M P L qs ys ys.length r' z)) (fun z _ _ => rfl) hub.1 k (by omega)
                    rw [e1, hev, en, tabV, e1, if_pos (by omega), ← hx, ← hu, hk1]
                  clear RL hev hx hu hk1
                  have hkk : ¬ (k : Int) < P + 1 := by omega
                  go_wp2
                  go_roundw
                  case rel => exact ⟨l + 1, _, by omega, by omega, by go_num, PX, TX, RX, rl, BX⟩
                  case measure => simp [intOf]; omega
          · have rx : RowsI F L e M P qs ys (r + 1) := fun q hq => by
              by_cases eq : q = r
              · subst eq; exact fun l' a b _ => RL l' a b (by omega)
              · exact RX q (by omega)
            obtain ⟨p0, p1, p2, p3, p4, p5⟩ := id PX
            clear RX RL
            go_wp2
            go_roundw
            case rel => exact ⟨r + 1, _, by omega, by rw [show (ys.length : Int) - ((r + 1 : Nat) : Int) = (h : Int) - 1 by omega], PX, TX, rx, BX⟩
            case measure => (simp [intOf] <;> omega)
      · obtain rfl : r = ys.length + 1 := by omega
        rw [show (ys.length : Int) - ((ys.length + 1 : Nat) : Int) = -1 by omega]
        obtain ⟨p0, p1, p2, p3, p4, p5⟩ := id PX
        clear H1 H2 NQ NB
        have RXH := Lib.hid RX
        clear RX
        go_wp2
        go_returns
        exact ⟨w.heap.size + 1, F, rfl, by omega, TX, RXH.out, BX⟩
end Go.Proofs.Ytofcienabddpjaa
