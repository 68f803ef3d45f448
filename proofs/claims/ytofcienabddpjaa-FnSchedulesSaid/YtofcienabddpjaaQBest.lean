/- Contracts: the cheapest and the lazy schedule, the reference. -/
import Derived.Test.YtofcienabddpjaaQSpec
import Derived.Test.YtofcienabddpjaaQPick
namespace Go.Proofs.Ytofcienabddpjaa
open Go.RowKit

set_option maxRecDepth 100000 in
set_option maxHeartbeats 2000000 in
theorem best_c {B B' : Nat} (ch : Bool) (L E M P : Int) (A A' : Option Addr) (c c' : Nat) (xs ys : List Int) (w : World) (h : RdI w B A xs) (h' : RdI w B' A' ys) (hS1 : B ≤ w.heap.size) (hS2 : B' ≤ w.heap.size) (g : goodPm L E M P xs ys = true) :
    Calls Try.prog 67 #[.agg #[.int .i64 L, .int .i64 E, .int .i64 M, .int .i64 P, .slice A xs.length c, .slice A' ys.length c'], .bool ch] w (RetI w (bestT ch E M P L xs ys).1 (fun v => .tuple #[v, .bool (bestT ch E M P L xs ys).2])) := by
  have nb := NumB.of g
  obtain ⟨e0, el, lm, m1, g0, g1, n1, n2, nq, hq, hy⟩ := id nb
  obtain ⟨e, rfl⟩ := Int.eq_ofNat_of_zero_le e0
  obtain ⟨s, rfl⟩ := Int.eq_ofNat_of_zero_le (show 0 ≤ L by omega)
  obtain ⟨m, rfl⟩ := Int.eq_ofNat_of_zero_le (show 0 ≤ M by omega)
  have tbl := fun (W : World) (q1 : RdI W W.heap.size A xs) (q2 : RdI W W.heap.size A' ys) => l13Table_c s e m P A A' c c' xs ys W q1 q2 (Nat.le_refl _) (Nat.le_refl _) g
  have R1 := h.more hS1
  have R2 := h'.more hS2
  rw [nq, Int.toNat_natCast] at tbl
  rw [nq]
  have TBL := Lib.hid tbl
  have NQ := Lib.hid nq
  have HQ := Lib.hid hq
  have HY := Lib.hid hy
  clear h h' nq nb tbl hq hy hS1 hS2 g
  obtain ⟨V, hV⟩ : ∃ V, V = w.alloc (.cells #[.int .i64 s, .int .i64 e, .int .i64 m, .int .i64 P, .slice A ys.length c, .slice A' ys.length c'] 28) := ⟨_, rfl⟩
  have P0 : PB V w.heap.size s e m P (.slice A ys.length c) (.slice A' ys.length c') := by rw [hV]; exact PB.new w s e m P _ _
  have B0 : Below w.heap.size w V := by rw [hV]; (repeat' (first | (with_reducible exact Below.refl _ _) | (with_reducible assumption) | (with_reducible refine below_drewN ?_ _) | (with_reducible refine Below.alloc ?_ ?_ _) | (with_reducible refine Below.drew ?_) | (with_reducible refine Below.setCell ?_ ?_ _) | go_size))
  have Z0 : w.heap.size + 1 ≤ V.heap.size := by rw [hV]; simp
  have V1 : RdI V V.heap.size A xs := (R1.below B0).more B0.size
  have V2 : RdI V V.heap.size A' ys := (R2.below B0).more B0.size
  have HVV := Lib.hid hV
  have ap := TBL.out _ V1 V2
  have AP := Lib.hid ap
  obtain ⟨p0, p1, p2, p3, p4, p5⟩ := id P0
  clear hV V1 V2 TBL ap
  go_enter Try.func67, Try.ntmps67
  go_upto_region 1 with (fail)
  rw [← HVV.out]
  clear HVV
  go_wp2_with fail
  go_at_call 48
  with_reducible refine AP.out.mono ?_
  rintro e' w2 ⟨T, BT, rfl, hT, hb2⟩
  have P1 := (P0.below hb2).alloc (.cells #[] 3)
  have B1 := (B0.trans (hb2.mono B0.size)).alloc (Nat.le_trans B0.size hb2.size) (.cells #[] 3)
  obtain ⟨b1, hb1⟩ : ∃ b1, b1 = w2.heap.size := ⟨_, rfl⟩
  have hBT : BT ≤ b1 := by rw [hb1]; exact hT.size
  have hwb : w.heap.size < b1 := by have := hb2.size; omega
  have T1 := hT.below (below_alloc hT.size (.cells #[] 3))
  have O1 : OwnI (w2.alloc (.cells #[] 3)) b1 (.slice (some ⟨w2.heap.size, 0, none⟩) 0 0) [] := own_empty w2 b1 (by omega)
  have Z1 : b1 ≤ (w2.alloc (.cells #[] 3)).heap.size := by rw [World.size_alloc]; omega
  obtain ⟨b3, o3, c3, q1, q2, q3, q4⟩ := T1.rows 0 (by omega) (by omega)
  have q5 : (w2.alloc (.cells #[] 3)).cell? ⟨b3, o3 + s, none⟩ = some (.int .i64 (tabV e m P s xs ys ys.length (ys.length - 0) s)) := q4 s (by omega)
  rw [Nat.sub_zero] at q5
  have K1 := Lib.hid (And.intro O1 (And.intro T1 (And.intro P1 (And.intro B1 Z1))))
  have P2 := P0.below hb2
  obtain ⟨p0, p1, p2, p3, p4, p5⟩ := id P1
  clear P0 B0 Z0 AP hT hb2 P1 B1 T1 O1 Z1 q4 P2
  have s0 : (0 : Int) ≤ s := by omega
  have sm : (s : Int) < (m : Int) + 1 := by omega
  have n0 : (0 : Int) < (ys.length : Int) + 1 := by omega
  by_cases hv : tabV e m P s xs ys ys.length ys.length s < 0
  · have hf : bestT ch e m P s xs ys = ([], false) := by unfold bestT; rw [if_pos hv]
    have HF := Lib.hid hf
    clear hf
    go_wp2
    go_returns
    rw [HF.out]
    exact ⟨_, _, rfl, K1.out.1.weak (by omega), K1.out.2.2.2.1⟩
  · have hf : bestT ch e m P s xs ys = (schV ch e m P s xs ys ys.length, true) := by unfold bestT; rw [if_neg hv]
    have hy' : ∀ j, j < ys.length → 0 ≤ ys.getD j 0 := fun j hj => (HY.out j hj).1
    have lvl := lvV_ok (ch := ch) hy' (show 0 ≤ tabV e m P s xs ys ys.length ys.length s by omega) lm el
    have HF := Lib.hid hf
    have LV := Lib.hid lvl
    clear hf lvl hy'
    go_wp2
    clear q1 q5 p0 p1 p2 p3 p4 p5 hv hb1
    go_loopw [7, 8, 9, 10, 11, 12] (fun o lv iv _ _ _ wr => ∃ k : Nat, k ≤ ys.length ∧ iv = .int .i64 k ∧ lv = .int .i64 (lvV ch e m P s xs ys ys.length k) ∧ OwnI wr b1 o (mapK (vtV ch e m P s xs ys ys.length) k) ∧ TabS wr BT T ys.length 0 (fun i l => tabV e m P s xs ys ys.length (ys.length - i) l) (m + 1) ∧ PB wr w.heap.size s e m P (.slice A ys.length c) (.slice A' ys.length c') ∧ Below w.heap.size w wr ∧ b1 ≤ wr.heap.size) (fun _ _ iv _ _ _ _ => ys.length - (intOf iv).toNat)
    case atStart => exact ⟨0, by omega, rfl, rfl, K1.out.1, K1.out.2.1, K1.out.2.2.1, K1.out.2.2.2.1, K1.out.2.2.2.2⟩
    case round =>
      clear K1
      obtain ⟨k, hk, rfl, rfl, own, TX, PX, BX, ZX⟩ := hrel
      by_cases hlt : k < ys.length
      · have lvk := LV.out k hk
        obtain ⟨l, hl⟩ : ∃ l : Nat, lvV ch e m P s xs ys ys.length k = l := ⟨(lvV ch e m P s xs ys ys.length k).toNat, by omega⟩
        have vk := vol_ok (ch := ch) hlt lvk.1
        have lvs : lvV ch e m P s xs ys ys.length (k + 1) = nxT e m (lvV ch e m P s xs ys ys.length k) (volV ch e m P s xs ys ys.length k (lvV ch e m P s xs ys ys.length k)) (ys.getD k 0) := rfl
        have vts : vtV ch e m P s xs ys ys.length k = volV ch e m P s xs ys ys.length k (lvV ch e m P s xs ys ys.length k) := rfl
        have vdf : volV ch e m P s xs ys ys.length k l = fstK (pickV ch (tabV e m P s xs ys ys.length (ys.length - (k + 1))) e m (xs.getD k 0) (ys.getD k 0) l (tabV e m P s xs ys ys.length (ys.length - k) l)) (P.toNat + 1) := rfl
        rw [hl] at lvk vk lvs vts
        rw [hl]
        have P2 := R1.below BX
        obtain ⟨b4, o4, x, rfl, hx, hb4, hcx⟩ := P2.at_ (k := k) (by have := NQ.out; omega)
        obtain ⟨u, hu⟩ : ∃ u, u = ys.getD k 0 := ⟨_, rfl⟩
        have hxb := HQ.out k hlt
        have hub := HY.out k hlt
        rw [← hx] at hxb vk vdf
        rw [← hu] at hub vk vdf lvs
        have tbk := tabV_b (E := e) (M := m) (L := s) (ys := ys) (xs := xs) (P := P) g1 HQ.out (ys.length - k) (by omega) l
        obtain ⟨cur, hcur⟩ : ∃ cur, cur = tabV e m P s xs ys ys.length (ys.length - k) l := ⟨_, rfl⟩
        rw [← hcur] at vk vdf lvk tbk
        obtain ⟨pk, hpk⟩ : ∃ pk, pk = pickV ch (tabV e m P s xs ys ys.length (ys.length - (k + 1))) e m x u l cur := ⟨_, rfl⟩
        rw [← hpk] at vk vdf
        have hi : (k : Int) < (ys.length : Int) := by omega
        have W1 : IntKind.i64.wrap ((k : Int) + 1) = (k : Int) + 1 := IntWalk.i64_in _ (by omega)
        have l0 : (0 : Int) ≤ l := by omega
        have lm1 : (l : Int) < (m : Int) + 1 := by omega
        have k0 : (0 : Int) ≤ k := by omega
        have k1 : (0 : Int) ≤ (k : Int) + 1 := by omega
        have kn : (k : Int) < (ys.length : Int) + 1 := by omega
        have kn1 : (k : Int) + 1 < (ys.length : Int) + 1 := by omega
        have VK := Lib.hid vk
        have VD := Lib.hid vdf
        have LS := Lib.hid lvs
        have VT := Lib.hid vts
        have HPK := Lib.hid hpk
        have HCU := Lib.hid hcur
        have HU := Lib.hid hu
        have PX1 := Lib.hid PX
        have HB4 := Lib.hid hb4
        have HCX := Lib.hid ((show (some (⟨b4, o4, none⟩ : Addr)) = some ⟨b4, o4, none⟩ from rfl))
        obtain ⟨p0, p1, p2, p3, p4, p5⟩ := id PX
        have CX := Lib.hid hcx
        obtain ⟨wo, hwo⟩ : ∃ wo, wo = wr := ⟨_, rfl⟩
        clear hl hx hu hcur hpk vk vdf lvs vts P2 PX hcx HCX
        go_wp2
        clear p0 p1 p2 p3 p4 p5
        have OWN := Lib.hid own
        clear own
        go_loopw [7, 8, 10, 11, 12] (fun o lv jv _ _ wr => ∃ j : Nat, j ≤ P.toNat + 1 ∧ jv = .int .i64 j ∧ lv = .int .i64 l ∧ o = u7 ∧ (∀ i, i < j → pk i = false) ∧ OwnI wr b1 u7 (mapK (vtV ch e m P s xs ys ys.length) k) ∧ TabS wr BT T ys.length 0 (fun i l => tabV e m P s xs ys ys.length (ys.length - i) l) (m + 1) ∧ PB wr w.heap.size s e m P (.slice (some ⟨b4, o4, none⟩) ys.length c) (.slice A' ys.length c') ∧ Below w.heap.size w wr ∧ b1 ≤ wr.heap.size ∧ wr.cell? ⟨b4, o4 + k, none⟩ = some (.int .i64 x)) (fun _ _ jv _ _ _ => P.toNat + 1 - (intOf jv).toNat)
        case atStart => exact ⟨0, by omega, rfl, rfl, rfl, fun i hi => absurd hi (by omega), OWN.out, TX, PX1.out, BX, ZX, CX.out⟩
        case round =>
          clear OWN TX PX1 BX ZX CX hwo
          obtain ⟨j, hj, rfl, rfl, rfl, hno, own, TX, PX, BX, ZX, hcx⟩ := hrel
          by_cases hjP : j < P.toNat + 1
          · have hjk : (j : Int) ≤ P := by omega
            have W3 : IntKind.i64.wrap ((j : Int) + 1) = (j : Int) + 1 := IntWalk.i64_in _ (by omega)
            have hh : HourB e m l j u := ⟨by omega, by omega, by omega, by omega, by omega, by omega, by omega, by omega, by omega, by omega⟩
            have nxt := l13Next_c s e m P l j u k (some ⟨b4, o4, none⟩) A' c c' ys ys wr (R2.below BX) BX.size hlt HU.out hh
            rw [show decide (spT m l j + msT e m l j u = 0) = okV e m l j u from rfl] at nxt
            have OX := Lib.hid own
            obtain ⟨p0, p1, p2, p3, p4, p5⟩ := id PX
            clear own hh
            cases ok : okV e m l j u
            · rw [ok] at nxt
              generalize nxT e m l j u = z at nxt
              have NXT := Lib.hid nxt
              have hno2 : ∀ i, i < j + 1 → pk i = false := fun i hi => by
                by_cases q : i = j
                · subst q; rw [HPK.out]; exact pick_no ok
                · exact hno i (by omega)
              have NO := Lib.hid hno2
              clear hno hno2
              clear nxt ok
              go_wp2_with fail
              go_at_call 66
              with_reducible refine NXT.out.mono ?_
              rintro e' w3 ⟨rfl, hb3⟩
              have PX2 := PX.below hb3
              have TX2 := TX.below (hb3.mono TX.size)
              have BX2 := BX.trans (hb3.mono BX.size)
              have OX2 := Lib.hid (OX.out.below hb3)
              have ZX2 := Nat.le_trans ZX hb3.size
              have hcx2 := (hb3.cell (p := ⟨b4, o4 + k, none⟩) (by show b4 < _; have := HB4.out; have := BX.size; omega)).trans hcx
              clear p0 p1 p2 p3 p4 p5 hb3 PX TX BX OX ZX hcx NXT
              go_wp2_with fail
              go_quiet (fail)
              go_wp2
              go_roundw
              case rel => exact ⟨j + 1, by omega, by go_num, rfl, rfl, NO.out, OX2.out, TX2.below (below_drewN (Below.refl _ _) _), PX2.ofBlock rfl, below_drewN BX2 _, ZX2, hcx2⟩
              case measure => simp [intOf]; omega
            · rw [ok] at nxt
              have o := (okV_iff e m l j u).1 ok
              have en := okV_next ok
              obtain ⟨z, hz⟩ : ∃ z : Nat, (l : Int) + j - u = z := ⟨((l : Int) + j - u).toNat, by omega⟩
              rw [hz] at en
              rw [en] at nxt
              have mm := mulB hxb.1 hxb.2 (show (0 : Int) ≤ j by omega) (show (j : Int) ≤ 10 by omega)
              have pe := fun (ch' : Bool) => pick_ref (ch := ch') (g := tabV e m P s xs ys ys.length (ys.length - (k + 1))) (x := x) (cur := cur) ok hz
              have tz := tabV_b (E := e) (M := m) (L := s) (ys := ys) (xs := xs) (P := P) g1 HQ.out (ys.length - (k + 1)) (by omega) z
              have z0 : (0 : Int) ≤ z := by omega
              have zm : (z : Int) < (m : Int) + 1 := by omega
              have NXT := Lib.hid nxt
              have EN := Lib.hid en
              have PE := Lib.hid pe
              clear nxt en pe hz o ok
              go_wp2_with fail
              go_at_call 66
              with_reducible refine NXT.out.mono ?_
              rintro e' w3 ⟨rfl, hb3⟩
              have PX2 := PX.below hb3
              have TX2 := TX.below (hb3.mono TX.size)
              have BX2 := BX.trans (hb3.mono BX.size)
              have OX2 := Lib.hid (OX.out.below hb3)
              have ZX2 := Nat.le_trans ZX hb3.size
              have hcx2 := (hb3.cell (p := ⟨b4, o4 + k, none⟩) (by show b4 < _; have := HB4.out; have := BX.size; omega)).trans hcx
              clear p0 p1 p2 p3 p4 p5 hb3 PX TX BX OX ZX hcx NXT
              obtain ⟨b5, o5, c5, r1, _, _, q5⟩ := TX2.rows (k + 1) (by omega) (by omega)
              obtain ⟨b6, o6, c6, r3, _, _, q6⟩ := TX2.rows k (by omega) (by omega)
              have r2 : w3.cell? ⟨b5, o5 + z, none⟩ = some (.int .i64 (tabV e m P s xs ys ys.length (ys.length - (k + 1)) z)) := q5 z (by omega)
              have r4 : w3.cell? ⟨b6, o6 + l, none⟩ = some (.int .i64 (tabV e m P s xs ys ys.length (ys.length - k) l)) := q6 l (by omega)
              rw [← HCU.out] at r4
              clear q5 q6
              obtain ⟨y, hy⟩ : ∃ y, y = tabV e m P s xs ys ys.length (ys.length - (k + 1)) z := ⟨_, rfl⟩
              rw [← hy] at r2 tz
              have W6 : IntKind.i64.wrap (x * j) = x * j := IntWalk.i64_in _ (by omega)
              have W7 : IntKind.i64.wrap (x * j + y) = x * j + y := IntWalk.i64_in _ (by omega)
              have HY' := Lib.hid hy
              clear hy
              by_cases hy0 : y < 0
              · have hd : decide (y < 0) = true := by simp [hy0]
                have hno2 : ∀ i, i < j + 1 → pk i = false := fun i hi => by
                  by_cases q : i = j
                  · subst q; rw [HPK.out, PE.out, ← HY'.out, decide_eq_false (by omega)]; rfl
                  · exact hno i (by omega)
                have NO := Lib.hid hno2
                clear hno hno2
                go_wp2_with fail
                go_quiet (fail)
                go_wp2
                go_roundw
                case rel => exact ⟨j + 1, by omega, by go_num, rfl, rfl, NO.out, OX2.out, TX2.below (below_drewN (Below.refl _ _) _), PX2.ofBlock rfl, below_drewN BX2 _, ZX2, hcx2⟩
                case measure => simp [intOf]; omega
              · have hd : decide (y < 0) = false := by simp; omega
                have hd2 : decide (0 ≤ y) = true := by simp; omega
                clear hy0
                cases ch
                · have hv : volV false e m P s xs ys ys.length k l = j := by rw [VD.out]; exact fstK_at (fun i hi => hno i hi) (by rw [HPK.out, PE.out, ← HY'.out, hd2]; rfl) _ (by omega)
                  have hl1 : lvV false e m P s xs ys ys.length (k + 1) = z := by rw [LS.out, hv]; exact EN.out
                  have hv1 : vtV false e m P s xs ys ys.length k = j := by rw [VT.out, hv]
                  have HL1 := Lib.hid hl1
                  have HV1 := Lib.hid hv1
                  clear hv hl1 hv1 hno
                  go_wp2_with fail
                  go_quiet (fail)
                  clear r1 r2 r3 r4 hcx2
                  have OX3 : OwnI (w3.drewN nq) b1 u7 (mapK (vtV false e m P s xs ys ys.length) k) := OX2.out
                  have TX3 := TX2.below (below_drewN (Below.refl BT w3) nq)
                  have PX3 : PB (w3.drewN nq) w.heap.size s e m P (.slice (some ⟨b4, o4, none⟩) ys.length c) (.slice A' ys.length c') := PX2.ofBlock rfl
                  have BX3 := below_drewN BX2 nq
                  have ZX3 : b1 ≤ (w3.drewN nq).heap.size := ZX2
                  clear OX2 TX2 PX2 BX2 ZX2
                  generalize w3.drewN nq = w4 at *
                  go_wp2_with (at_builtin; refine wpList_appK (wr := w4) rfl (.tmp 90) (.tmp 92) rfl b1 u7 _ _ _ rfl OX3 rfl rfl (by rw [mapK_len]; omega) ZX3 ?_; intro nv w5 q gr lc; have bb := below_row OX3 gr ZX3; have TX4 := Lib.hid (TX3.below (bb.mono hBT)); have PX4 := Lib.hid (PX3.kept gr (fun e => absurd (OX3.lt _ e.symm).1 (Nat.not_le.2 hwb))); have BX4 := Lib.hid (BX3.trans (bb.mono (Nat.le_of_lt hwb))); have ZX4 := Nat.le_trans ZX3 bb.size; have OX4 := Lib.hid q; clear TX3 PX3 BX3 bb ZX3 OX3 q gr lc)
                  go_roundw
                  case rel => exact ⟨k + 1, by omega, by go_num, by rw [HL1.out], by rw [mapK, HV1.out]; exact OX4.out, TX4.out, PX4.out, BX4.out, ZX4⟩
                  case measure => simp [intOf]; omega
                · by_cases hp : x * (j : Int) + y = cur
                  · have hpb : (x * (j : Int) + y == cur) = true := by simp [hp]
                    obtain ⟨p0, p1, p2, p3, p4, p5⟩ := id PX2
                    have hv : volV true e m P s xs ys ys.length k l = j := by rw [VD.out]; exact fstK_at (fun i hi => hno i hi) (by rw [HPK.out, PE.out, ← HY'.out, hd2, decide_eq_true hp]; rfl) _ (by omega)
                    have hl1 : lvV true e m P s xs ys ys.length (k + 1) = z := by rw [LS.out, hv]; exact EN.out
                    have hv1 : vtV true e m P s xs ys ys.length k = j := by rw [VT.out, hv]
                    have HL1 := Lib.hid hl1
                    have HV1 := Lib.hid hv1
                    clear hv hl1 hv1 hno
                    go_wp2_with fail
                    go_quiet (fail)
                    clear r1 r2 r3 r4 hcx2
                    have OX3 : OwnI (w3.drewN nq) b1 u7 (mapK (vtV true e m P s xs ys ys.length) k) := OX2.out
                    have TX3 := TX2.below (below_drewN (Below.refl BT w3) nq)
                    have PX3 : PB (w3.drewN nq) w.heap.size s e m P (.slice (some ⟨b4, o4, none⟩) ys.length c) (.slice A' ys.length c') := PX2.ofBlock rfl
                    have BX3 := below_drewN BX2 nq
                    have ZX3 : b1 ≤ (w3.drewN nq).heap.size := ZX2
                    clear OX2 TX2 PX2 BX2 ZX2
                    generalize w3.drewN nq = w4 at *
                    go_wp2_with (at_builtin; refine wpList_appK (wr := w4) rfl (.tmp 90) (.tmp 92) rfl b1 u7 _ _ _ rfl OX3 rfl rfl (by rw [mapK_len]; omega) ZX3 ?_; intro nv w5 q gr lc; have bb := below_row OX3 gr ZX3; have TX4 := Lib.hid (TX3.below (bb.mono hBT)); have PX4 := Lib.hid (PX3.kept gr (fun e => absurd (OX3.lt _ e.symm).1 (Nat.not_le.2 hwb))); have BX4 := Lib.hid (BX3.trans (bb.mono (Nat.le_of_lt hwb))); have ZX4 := Nat.le_trans ZX3 bb.size; have OX4 := Lib.hid q; clear TX3 PX3 BX3 bb ZX3 OX3 q gr lc)
                    go_roundw
                    case rel => exact ⟨k + 1, by omega, by go_num, by rw [HL1.out], by rw [mapK, HV1.out]; exact OX4.out, TX4.out, PX4.out, BX4.out, ZX4⟩
                    case measure => simp [intOf]; omega
                  · have hpb : (x * (j : Int) + y == cur) = false := by simp [hp]
                    obtain ⟨p0, p1, p2, p3, p4, p5⟩ := id PX2
                    have hno2 : ∀ i, i < j + 1 → pk i = false := fun i hi => by
                      by_cases q : i = j
                      · subst q; rw [HPK.out, PE.out, ← HY'.out, hd2, decide_eq_false hp]; rfl
                      · exact hno i (by omega)
                    have NO := Lib.hid hno2
                    clear hno hno2
                    go_wp2_with fail
                    go_quiet (fail)
                    go_wp2
                    go_roundw
                    case rel => exact ⟨j + 1, by omega, by go_num, rfl, rfl, NO.out, OX2.out, TX2.below (below_drewN (Below.refl _ _) _), PX2.ofBlock rfl, below_drewN BX2 _, ZX2, hcx2⟩
                    case measure => simp [intOf]; omega
          · exfalso
            have a := fstK_none (p := pk) (P.toNat + 1) (fun i hi => hno i (by omega))
            have b := VK.out.1
            rw [VD.out, a] at b
            omega
      · obtain rfl : k = ys.length := by omega
        obtain ⟨Ao, co, rfl⟩ := own.shape
        have HO := Lib.hid own
        obtain ⟨p0, p1, p2, p3, p4, p5⟩ := id PX
        clear own
        go_wp2
        go_returns
        rw [HF.out]
        exact ⟨Ao, co, by first | rfl | (rw [mapK_len]; rfl) | (simp [mapK_len, sch_len]; done), by first | exact HO.out.weak (by omega) | (unfold schV; exact HO.out.weak (by omega)), BX⟩
end Go.Proofs.Ytofcienabddpjaa
