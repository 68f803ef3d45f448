/- Contracts: the first schedule, the program. -/
import Derived.Test.YtofcienabddpjaaQCost
import Derived.Test.YtofcienabddpjaaQPick
namespace Go.Proofs.Ytofcienabddpjaa
open Go.RowKit

theorem ne_of_app {u v : Value} {T H : Nat} (h : u.ownBlock ≠ some T) (l : v.ownBlock = u.ownBlock ∨ v.ownBlock = some (H + 1)) (hT : T < H) : v.ownBlock ≠ some T := fun e => by
  rcases l with q | q
  · exact h (q ▸ e)
  · have := Option.some.inj (q.symm.trans e); omega
theorem below_alloc' {B : Nat} {w : World} (h : B ≤ w.heap.size) (o : Obj) : Below B w (w.alloc o) := (Below.refl B w).alloc h o
section
variable {V W W' : World} {b : Nat} {L E M P : Int} {s1 s2 : Value}
theorem pbh_start (h : PB V b L E M P s1 s2) : V.drew.cell? ⟨b, 0, none⟩ = some (.int .i64 L) ∧ V.drew.cell? ⟨b, 1, none⟩ = some (.int .i64 E) ∧ V.drew.cell? ⟨b, 2, none⟩ = some (.int .i64 M) ∧ V.drew.cell? ⟨b, 3, none⟩ = some (.int .i64 P) ∧ V.drew.cell? ⟨b, 4, none⟩ = some s1 ∧ V.drew.cell? ⟨b, 5, none⟩ = some s2 ∧ Below V.heap.size V V.drew := ⟨h.p0, h.p1, h.p2, h.p3, h.p4, h.p5, (Below.refl _ _).drew⟩
theorem pbh_far (h : W.cell? ⟨b, 0, none⟩ = some (.int .i64 L) ∧ W.cell? ⟨b, 1, none⟩ = some (.int .i64 E) ∧ W.cell? ⟨b, 2, none⟩ = some (.int .i64 M) ∧ W.cell? ⟨b, 3, none⟩ = some (.int .i64 P) ∧ W.cell? ⟨b, 4, none⟩ = some s1 ∧ W.cell? ⟨b, 5, none⟩ = some s2 ∧ Below V.heap.size V W) (hb : Below W.heap.size W W') : W'.cell? ⟨b, 0, none⟩ = some (.int .i64 L) ∧ W'.cell? ⟨b, 1, none⟩ = some (.int .i64 E) ∧ W'.cell? ⟨b, 2, none⟩ = some (.int .i64 M) ∧ W'.cell? ⟨b, 3, none⟩ = some (.int .i64 P) ∧ W'.cell? ⟨b, 4, none⟩ = some s1 ∧ W'.cell? ⟨b, 5, none⟩ = some s2 ∧ Below V.heap.size V W' := by
  have hp := PB.below ⟨h.1, h.2.1, h.2.2.1, h.2.2.2.1, h.2.2.2.2.1, h.2.2.2.2.2.1⟩ hb
  exact ⟨hp.p0, hp.p1, hp.p2, hp.p3, hp.p4, hp.p5, h.2.2.2.2.2.2.trans (hb.mono h.2.2.2.2.2.2.size)⟩
theorem pbh_alloc (h : W.cell? ⟨b, 0, none⟩ = some (.int .i64 L) ∧ W.cell? ⟨b, 1, none⟩ = some (.int .i64 E) ∧ W.cell? ⟨b, 2, none⟩ = some (.int .i64 M) ∧ W.cell? ⟨b, 3, none⟩ = some (.int .i64 P) ∧ W.cell? ⟨b, 4, none⟩ = some s1 ∧ W.cell? ⟨b, 5, none⟩ = some s2 ∧ Below V.heap.size V W) (o : Obj) : (W.alloc o).cell? ⟨b, 0, none⟩ = some (.int .i64 L) ∧ (W.alloc o).cell? ⟨b, 1, none⟩ = some (.int .i64 E) ∧ (W.alloc o).cell? ⟨b, 2, none⟩ = some (.int .i64 M) ∧ (W.alloc o).cell? ⟨b, 3, none⟩ = some (.int .i64 P) ∧ (W.alloc o).cell? ⟨b, 4, none⟩ = some s1 ∧ (W.alloc o).cell? ⟨b, 5, none⟩ = some s2 ∧ Below V.heap.size V (W.alloc o) := pbh_far h (below_alloc' (Nat.le_refl _) o)
end
set_option maxRecDepth 100000 in
set_option maxHeartbeats 2000000 in
theorem first_c {B B' : Nat} (L E M P : Int) (A A' Q : Option Addr) (c c' d : Nat) (xs ys qs : List Int) (w : World) (h : RdI w B Q qs) (h' : RdI w B' A' ys) (hS1 : B ≤ w.heap.size) (hS2 : B' ≤ w.heap.size) (nb : NumB L E M P qs ys) :
    Calls Try.prog 55 #[.agg #[.int .i64 L, .int .i64 E, .int .i64 M, .int .i64 P, .slice A xs.length c, .slice A' ys.length c'], .slice Q qs.length d] w (RetI w (firstT E M P L qs ys).1 (fun v => .tuple #[v, .int .i64 (firstT E M P L qs ys).2.1, .bool (firstT E M P L qs ys).2.2])) := by
  obtain ⟨e0, el, lm, m1, g0, g1, n1, n2, nq, hq, hy⟩ := id nb
  obtain ⟨e, rfl⟩ := Int.eq_ofNat_of_zero_le e0
  obtain ⟨s, rfl⟩ := Int.eq_ofNat_of_zero_le (show 0 ≤ L by omega)
  have cst := fun (W : World) (q1 : RdI W W.heap.size Q qs) (q2 : RdI W W.heap.size A' ys) => costsOf_c s e M P A A' Q c c' d xs ys qs W q1 q2 (Nat.le_refl _) (Nat.le_refl _) nb
  have R1 := h.more hS1
  have R2 := h'.more hS2
  have CST := Lib.hid cst
  have NQ := Lib.hid nq
  have NB := Lib.hid nb
  have HQ := Lib.hid hq
  have HY := Lib.hid hy
  clear h h' nq nb cst hq hy hS1 hS2
  go_enter Try.func55, Try.ntmps55
  go_upto_region 1 with (fail)
  obtain ⟨V, hV⟩ : ∃ V, V = w.alloc (.cells #[.int .i64 s, .int .i64 e, .int .i64 M, .int .i64 P, .slice A xs.length c, .slice A' ys.length c'] 28) := ⟨_, rfl⟩
  rw [← hV]
  have P0 : PB V w.heap.size s e M P (.slice A xs.length c) (.slice A' ys.length c') := by rw [hV]; exact PB.new w s e M P _ _
  have B0 : Below w.heap.size w V := by rw [hV]; (repeat' (first | (with_reducible exact Below.refl _ _) | (with_reducible assumption) | (with_reducible refine below_drewN ?_ _) | (with_reducible refine Below.alloc ?_ ?_ _) | (with_reducible refine Below.drew ?_) | (with_reducible refine Below.setCell ?_ ?_ _) | go_size))
  have Z0 : w.heap.size + 1 ≤ V.heap.size := by rw [hV]; simp
  have V1 : RdI V V.heap.size Q qs := (R1.below B0).more B0.size
  have V2 : RdI V V.heap.size A' ys := (R2.below B0).more B0.size
  clear hV
  obtain ⟨p0, p1, p2, p3, p4, p5⟩ := id P0
  go_cut [7, 8, 9] (fun t lv o wx => ∃ (T : Nat) (F : Nat → Int), t = .pointer (some ⟨T, 0, none⟩) ∧ lv = .int .i64 s ∧ OwnI wx (w.heap.size + 1) o [] ∧ o.ownBlock ≠ some T ∧ TabI wx T F ∧ w.heap.size < T ∧ RowsI F s e M P qs ys (ys.length + 1) ∧ Below V.heap.size V wx)
  case first =>
    go_region_held3 (fun w' => w'.cell? ⟨w.heap.size, 0, none⟩ = some (.int .i64 s) ∧ w'.cell? ⟨w.heap.size, 1, none⟩ = some (.int .i64 e) ∧ w'.cell? ⟨w.heap.size, 2, none⟩ = some (.int .i64 M) ∧ w'.cell? ⟨w.heap.size, 3, none⟩ = some (.int .i64 P) ∧ w'.cell? ⟨w.heap.size, 4, none⟩ = some (.slice A xs.length c) ∧ w'.cell? ⟨w.heap.size, 5, none⟩ = some (.slice A' ys.length c') ∧ Below V.heap.size V w')
      (first
        | exact pbh_start P0
        | exact pbh_far (by assumption) hb1
        | exact pbh_alloc (by assumption) _)
      (first
        | (go_at_call 46; refine (CST.out _ ((V1.below (‹_ ∧ _ ∧ _ ∧ _ ∧ _ ∧ _ ∧ Below V.heap.size V _›).2.2.2.2.2.2).more (‹_ ∧ _ ∧ _ ∧ _ ∧ _ ∧ _ ∧ Below V.heap.size V _›).2.2.2.2.2.2.size) ((V2.below (‹_ ∧ _ ∧ _ ∧ _ ∧ _ ∧ _ ∧ Below V.heap.size V _›).2.2.2.2.2.2).more (‹_ ∧ _ ∧ _ ∧ _ ∧ _ ∧ _ ∧ Below V.heap.size V _›).2.2.2.2.2.2.size)).mono ?_; rintro e' w1 ⟨T, F, rfl, hT, hTab, hR, hb1⟩; have HR := Lib.hid hR; have HT := Lib.hid hTab; clear hR hTab))
    · have b1 : Below V.heap.size V w1 := below_undrew hb1
      go_wp2_with fail
      go_meet
      exact ⟨T, F, rfl, rfl, own_empty w1 _ (by have := b1.size; omega), by have := HT.out.lt; simp [Value.ownBlock]; omega, HT.out.below (below_alloc' (Nat.le_refl _) _), by have : V.heap.size ≤ T := hT; omega, HR.out, b1.trans (below_alloc' b1.size _)⟩
    · have b1 : Below (V.alloc (.cells #[] 3)).heap.size (V.alloc (.cells #[] 3)) w1 := below_undrew hb1
      have hT2 : (V.alloc (.cells #[] 3)).heap.size ≤ T := hT
      rw [World.size_alloc] at hT2
      go_wp2_with fail
      go_meet
      exact ⟨T, F, rfl, rfl, (own_empty V _ (by omega)).below b1, by simp [Value.ownBlock]; omega, HT.out, by omega, HR.out, (below_alloc' (Nat.le_refl _) _).trans (b1.mono (by rw [World.size_alloc]; omega))⟩
  case rest =>
    obtain ⟨T, F, rfl, rfl, own, hne, hTab, hTw, hR, hb⟩ := hcut
    have P1 := P0.below hb
    have B1 : Below w.heap.size w wc := B0.trans (hb.mono B0.size)
    have Z1 : w.heap.size + 1 ≤ wc.heap.size := Nat.le_trans Z0 hb.size
    clear P0 B0 Z0 V1 V2 CST hb p0 p1 p2 p3 p4 p5
    have cell : ∀ k l : Nat, k ≤ ys.length → (e : Int) ≤ l → (l : Int) ≤ M → F (k * 61 + l) = encV (tabV e M P s qs ys ys.length (ys.length - k) l) := fun k l a b c => by
      have := hR (ys.length - k) (by omega) l b c (by omega)
      rw [show ys.length - (ys.length - k) = k by omega] at this
      exact this
    have tb := tabV_b (E := e) (M := M) (L := s) (ys := ys) (xs := qs) (P := P) g1 HQ.out
    have tbs := tb ys.length (Nat.le_refl _) s
    have CELL := Lib.hid cell
    have TB := Lib.hid tb
    have K1 := Lib.hid (And.intro own (And.intro hne (And.intro hTab (And.intro P1 (And.intro B1 Z1)))))
    have c0 := hTab.cell s (by omega)
    have f0 := cell 0 s (by omega) (by omega) (by omega)
    rw [Nat.zero_mul, Nat.zero_add, Nat.sub_zero] at f0
    rw [f0] at c0
    have s0 : (0 : Int) ≤ s := by omega
    have s61 : (s : Int) < 61 := by omega
    obtain ⟨p0, p1, p2, p3, p4, p5⟩ := id P1
    clear own hne hTab hR B1 Z1 cell tb f0 P1
    by_cases hv : tabV e M P s qs ys ys.length ys.length s < 0
    · rw [encV, if_pos hv] at c0
      have hf : firstT e M P s qs ys = ([], 0, false) := by unfold firstT; rw [if_pos hv]
      have HF := Lib.hid hf
      unfold noC at c0
      clear hf hv tbs
      go_wp2
      go_returns
      rw [HF.out]
      exact ⟨_, _, rfl, OwnI.nil _ _, K1.out.2.2.2.2.1⟩
    · rw [encV, if_neg hv] at c0
      have hf : firstT e M P s qs ys = (schV true e M P s qs ys ys.length, tabV e M P s qs ys ys.length ys.length s, true) := by unfold firstT; rw [if_neg hv]
      have hy' : ∀ j, j < ys.length → 0 ≤ ys.getD j 0 := fun j hj => (HY.out j hj).1
      have lvl := lvV_ok (ch := true) hy' (show 0 ≤ tabV e M P s qs ys ys.length ys.length s by omega) lm el
      have HF := Lib.hid hf
      have LV := Lib.hid lvl
      have HV := Lib.hid hv
      have C0 := Lib.hid c0
      clear hf lvl hy'
      go_wp2
      clear p0 p1 p2 p3 p4 p5 tbs c0 hv C0
      go_loopw [8, 9, 10, 11, 12, 13, 14, 31, 39] (fun lv o _ _ _ _ _ iv _ wr => ∃ k : Nat, k ≤ ys.length ∧ iv = .int .i64 k ∧ lv = .int .i64 (lvV true e M P s qs ys ys.length k) ∧ OwnI wr (w.heap.size + 1) o (mapK (vtV true e M P s qs ys ys.length) k) ∧ o.ownBlock ≠ some T ∧ TabI wr T F ∧ PB wr w.heap.size s e M P (.slice A xs.length c) (.slice A' ys.length c') ∧ Below w.heap.size w wr ∧ w.heap.size + 1 ≤ wr.heap.size) (fun _ _ _ _ _ _ _ iv _ _ => ys.length - (intOf iv).toNat)
      case atStart => exact ⟨0, by omega, rfl, rfl, K1.out.1, K1.out.2.1, K1.out.2.2.1, K1.out.2.2.2.1, K1.out.2.2.2.2.1, K1.out.2.2.2.2.2⟩
      case round =>
        clear K1
        obtain ⟨k, hk, rfl, rfl, own, hne, TX, PX, BX, ZX⟩ := hrel
        by_cases hlt : k < ys.length
        · have lvk := LV.out k hk
          obtain ⟨l, hl⟩ : ∃ l : Nat, lvV true e M P s qs ys ys.length k = l := ⟨(lvV true e M P s qs ys ys.length k).toNat, by omega⟩
          have vk := vol_ok (ch := true) hlt lvk.1
          have lvs : lvV true e M P s qs ys ys.length (k + 1) = nxT e M (lvV true e M P s qs ys ys.length k) (volV true e M P s qs ys ys.length k (lvV true e M P s qs ys ys.length k)) (ys.getD k 0) := rfl
          have vts : vtV true e M P s qs ys ys.length k = volV true e M P s qs ys ys.length k (lvV true e M P s qs ys ys.length k) := rfl
          have vdf : volV true e M P s qs ys ys.length k l = fstK (pickV true (tabV e M P s qs ys ys.length (ys.length - (k + 1))) e M (qs.getD k 0) (ys.getD k 0) l (tabV e M P s qs ys ys.length (ys.length - k) l)) (P.toNat + 1) := rfl
          rw [hl] at lvk vk lvs vts
          rw [hl]
          have P2 := R1.below BX
          obtain ⟨b3, o3, x, rfl, hx, hb3, hcx⟩ := P2.at_ (k := k) (by have := NQ.out; omega)
          obtain ⟨u, hu⟩ : ∃ u, u = ys.getD k 0 := ⟨_, rfl⟩
          have hxb := HQ.out k hlt
          have hub := HY.out k hlt
          rw [← hx] at hxb vk vdf
          rw [← hu] at hub vk vdf lvs
          have tbk := TB.out (ys.length - k) (by omega) l
          obtain ⟨cur, hcur⟩ : ∃ cur, cur = tabV e M P s qs ys ys.length (ys.length - k) l := ⟨_, rfl⟩
          rw [← hcur] at vk vdf lvk tbk
          have cellc := CELL.out k l hk lvk.2.1 lvk.2.2
          rw [← hcur, encV, if_neg (by omega)] at cellc
          obtain ⟨pk, hpk⟩ : ∃ pk, pk = pickV true (tabV e M P s qs ys ys.length (ys.length - (k + 1))) e M x u l cur := ⟨_, rfl⟩
          rw [← hpk] at vk vdf
          have hi : (k : Int) < (qs.length : Int) := by have := NQ.out; omega
          have W1 : IntKind.i64.wrap ((k : Int) + 1) = (k : Int) + 1 := IntWalk.i64_in _ (by omega)
          have W2 : IntKind.i64.wrap (P + 1) = P + 1 := IntWalk.i64_in _ (by omega)
          have l0 : (0 : Int) ≤ l := by omega
          have l61 : (l : Int) < 61 := by omega
          have k0 : (0 : Int) ≤ k := by omega
          have k13 : (k : Int) + 1 < 13 := by omega
          have k13' : (k : Int) < 13 := by omega
          have k1 : (0 : Int) ≤ (k : Int) + 1 := by omega
          have VK := Lib.hid vk
          have VD := Lib.hid vdf
          have LS := Lib.hid lvs
          have VT := Lib.hid vts
          have HPK := Lib.hid hpk
          have CC := Lib.hid cellc
          have HU := Lib.hid hu
          have PX1 := Lib.hid PX
          obtain ⟨p0, p1, p2, p3, p4, p5⟩ := id PX
          clear hl hx hu hcur hpk vk vdf lvs vts cellc P2 PX
          go_wp2
          clear p0 p1 p2 p3 p4 p5 hcx
          have OWN := Lib.hid own
          clear own
          go_loopw [8, 9, 12, 13, 14, 39] (fun lv o _ _ _ jv wr => ∃ j : Nat, j ≤ P.toNat + 1 ∧ jv = .int .i64 j ∧ lv = .int .i64 l ∧ o = u9 ∧ (∀ i, i < j → pk i = false) ∧ OwnI wr (w.heap.size + 1) u9 (mapK (vtV true e M P s qs ys ys.length) k) ∧ TabI wr T F ∧ PB wr w.heap.size s e M P (.slice A xs.length c) (.slice A' ys.length c') ∧ Below w.heap.size w wr ∧ w.heap.size + 1 ≤ wr.heap.size) (fun _ _ _ _ _ jv _ => P.toNat + 1 - (intOf jv).toNat)
          case atStart => exact ⟨0, by omega, rfl, rfl, rfl, fun i hi => absurd hi (by omega), OWN.out, TX, PX1.out, BX, ZX⟩
          case round =>
            clear OWN TX PX1 BX ZX
            obtain ⟨j, hj, rfl, rfl, rfl, hno, own, TX, PX, BX, ZX⟩ := hrel
            by_cases hjP : j < P.toNat + 1
            · have hjk : (j : Int) < P + 1 := by omega
              have W3 : IntKind.i64.wrap ((j : Int) + 1) = (j : Int) + 1 := IntWalk.i64_in _ (by omega)
              have af := after_c s e M P A A' c c' xs ys wr (R2.below BX) BX.size k l j hlt (by rw [← HU.out]; exact hub) (by omega) (by omega)
              rw [← HU.out] at af
              have OX := Lib.hid own
              obtain ⟨p0, p1, p2, p3, p4, p5⟩ := id PX
              clear own
              cases ok : okV e M l j u
              · rw [ok] at af
                have hno2 : ∀ i, i < j + 1 → pk i = false := fun i hi => by
                  by_cases q : i = j
                  · subst q; rw [HPK.out]; exact pick_no ok
                  · exact hno i (by omega)
                have AF := Lib.hid af
                have NO := Lib.hid hno2
                clear af hno hno2 ok
                go_wp2_with fail
                go_at_call 73
                with_reducible refine AF.out.mono ?_
                rintro e' w2 ⟨rfl, hb2⟩
                have PX2 := PX.below hb2
                have TX2 := TX.below hb2
                have BX2 := BX.trans (hb2.mono BX.size)
                have OX2 := Lib.hid (OX.out.below hb2)
                have ZX2 := Nat.le_trans ZX hb2.size
                clear p0 p1 p2 p3 p4 p5 hb2 PX TX BX OX ZX AF
                go_wp2_with fail
                go_quiet (fail)
                go_wp2
                go_roundw
                case rel => exact ⟨j + 1, by omega, by go_num, rfl, rfl, NO.out, OX2.out, TX2.ofBlock rfl, PX2.ofBlock rfl, below_drewN BX2 _, ZX2⟩
                case measure => simp [intOf]; omega
              · rw [ok] at af
                have o := (okV_iff e M l j u).1 ok
                have en := okV_next ok
                obtain ⟨z, hz⟩ : ∃ z : Nat, (l : Int) + j - u = z := ⟨((l : Int) + j - u).toNat, by omega⟩
                rw [hz] at af en
                have mm := mulB hxb.1 hxb.2 (show (0 : Int) ≤ j by omega) (show (j : Int) ≤ 10 by omega)
                have pe : pk j = (x * j + encV (tabV e M P s qs ys ys.length (ys.length - (k + 1)) z) == cur) := by rw [HPK.out]; exact pick_enc ok hz (by unfold noC; omega) mm.1
                have cz := CELL.out (k + 1) z (by omega) (by omega) (by omega)
                have tz := TB.out (ys.length - (k + 1)) (by omega) z
                have tz2 : 0 ≤ encV (tabV e M P s qs ys ys.length (ys.length - (k + 1)) z) ∧ encV (tabV e M P s qs ys ys.length (ys.length - (k + 1)) z) ≤ 1099511627776 := by unfold encV noC; split <;> omega
                obtain ⟨y, hy⟩ : ∃ y, y = encV (tabV e M P s qs ys ys.length (ys.length - (k + 1)) z) := ⟨_, rfl⟩
                rw [← hy] at pe cz tz2
                have z0 : (0 : Int) ≤ z := by omega
                have z61 : (z : Int) < 61 := by omega
                have W6 : IntKind.i64.wrap (x * j) = x * j := IntWalk.i64_in _ (by omega)
                have W7 : IntKind.i64.wrap (x * j + y) = x * j + y := IntWalk.i64_in _ (by omega)
                have W8 : IntKind.i64.wrap ((k : Int) + 1) = (k : Int) + 1 := W1
                have i1 : (k + 1) * 61 + z < 793 := by omega
                have i2 : k * 61 + l < 793 := by omega
                have AF := Lib.hid af
                have CZ := Lib.hid cz
                have EN := Lib.hid en
                have PE := Lib.hid pe
                clear af cz tz hy pe en hz o ok
                go_wp2_with fail
                go_at_call 73
                with_reducible refine AF.out.mono ?_
                rintro e' w2 ⟨rfl, hb2⟩
                have PX2 := PX.below hb2
                have TX2 := TX.below hb2
                have BX2 := BX.trans (hb2.mono BX.size)
                have OX2 := Lib.hid (OX.out.below hb2)
                have ZX2 := Nat.le_trans ZX hb2.size
                clear p0 p1 p2 p3 p4 p5 hb2 PX TX BX OX ZX AF
                have c1 := TX2.cell _ i1
                have c2 := TX2.cell _ i2
                rw [CZ.out] at c1
                rw [CC.out] at c2
                cases hp : (x * (j : Int) + y == cur)
                · have hno2 : ∀ i, i < j + 1 → pk i = false := fun i hi => by
                    by_cases q : i = j
                    · subst q; rw [PE.out]; exact hp
                    · exact hno i (by omega)
                  have NO := Lib.hid hno2
                  clear hno hno2
                  go_wp2_with fail
                  go_quiet (fail)
                  go_wp2
                  go_roundw
                  case rel => exact ⟨j + 1, by omega, by go_num, rfl, rfl, NO.out, OX2.out, TX2.ofBlock rfl, PX2.ofBlock rfl, below_drewN BX2 _, ZX2⟩
                  case measure => simp [intOf]; omega
                · have hv : volV true e M P s qs ys ys.length k l = j := by rw [VD.out]; exact fstK_at (fun i hi => hno i hi) (by rw [PE.out]; exact hp) _ (by omega)
                  have hl1 : lvV true e M P s qs ys ys.length (k + 1) = z := by rw [LS.out, hv]; exact EN.out
                  have hv1 : vtV true e M P s qs ys ys.length k = j := by rw [VT.out, hv]
                  have HL1 := Lib.hid hl1
                  have HV1 := Lib.hid hv1
                  clear hv hl1 hv1 hno
                  go_wp2_with fail
                  go_quiet (fail)
                  clear c1 c2
                  have OX3 : OwnI (w2.drewN nq) (w.heap.size + 1) u9 (mapK (vtV true e M P s qs ys ys.length) k) := OX2.out
                  have TX3 : TabI (w2.drewN nq) T F := TX2.ofBlock rfl
                  have PX3 : PB (w2.drewN nq) w.heap.size s e M P (.slice A xs.length c) (.slice A' ys.length c') := PX2.ofBlock rfl
                  have BX3 := below_drewN BX2 nq
                  have ZX3 : w.heap.size + 1 ≤ (w2.drewN nq).heap.size := ZX2
                  clear OX2 TX2 PX2 BX2 ZX2
                  generalize w2.drewN nq = w3 at *
                  go_wp2_with (at_builtin; refine wpList_appK (wr := w3) rfl (.tmp 73) (.tmp 75) rfl (w.heap.size + 1) u9 _ _ _ rfl OX3 rfl rfl (by rw [mapK_len]; omega) ZX3 ?_; intro nv w4 q gr lc; have TX4 := Lib.hid (TX3.kept gr (fun e => hne e.symm)); have PX4 := Lib.hid (PX3.kept gr (fun e => absurd (OX3.lt _ e.symm).1 (Nat.not_succ_le_self _))); have bb := below_row OX3 gr ZX3; have BX4 := Lib.hid (BX3.trans (bb.mono (Nat.le_succ _))); have ZX4 := Nat.le_trans ZX3 bb.size; have NE4 := Lib.hid (ne_of_app hne lc TX3.lt); have OX4 := Lib.hid q; clear TX3 PX3 BX3 bb ZX3 OX3 q gr lc)
                  go_roundw
                  case rel => exact ⟨k + 1, by omega, by go_num, by rw [HL1.out], by rw [mapK, HV1.out]; exact OX4.out, NE4.out, TX4.out, PX4.out, BX4.out, ZX4⟩
                  case measure => simp [intOf]; omega
            · exfalso
              have a := fstK_none (p := pk) (P.toNat + 1) (fun i hi => hno i (by omega))
              have b := VK.out.1
              rw [VD.out, a] at b
              omega
        · obtain rfl : k = ys.length := by omega
          have cT := TX.cell s (by omega)
          have f0 := CELL.out 0 s (by omega) (by omega) (by omega)
          rw [Nat.zero_mul, Nat.zero_add, Nat.sub_zero, encV, if_neg (Int.not_lt.2 HV.out)] at f0
          rw [f0] at cT
          obtain ⟨Ao, co, rfl⟩ := own.shape
          have HO := Lib.hid own
          have hi : ¬ (ys.length : Int) < (qs.length : Int) := by have := NQ.out; omega
          obtain ⟨p0, p1, p2, p3, p4, p5⟩ := id PX
          clear own f0 hlt
          go_wp2_with fail
          go_quiet (fail)
          go_wp2
          go_returns
          rw [HF.out]
          exact ⟨Ao, co, by first | rfl | (rw [mapK_len]; rfl) | (simp [mapK_len, sch_len]; done), by first | exact HO.out.weak (by omega) | (unfold schV; exact HO.out.weak (by omega)), below_drewN BX _⟩
end Go.Proofs.Ytofcienabddpjaa
