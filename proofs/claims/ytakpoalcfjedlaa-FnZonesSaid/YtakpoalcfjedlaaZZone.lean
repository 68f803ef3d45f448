/- Contracts: ZoneOf. -/
import Derived.Test.YtakpoalcfjedlaaZFewS
namespace Go.Proofs.Ytakpoalcfjedlaa
open Go.RowKit

theorem zone_next {L M : Int} {xs : List Int} {k : Nat} {x : Int} (hk : k < xs.length) (hx : x = xs.getD k 0) : (zoneS L M xs).take (k + 1) = (zoneS L M xs).take k ++ [idxI (fun l => suitP L M l x) (fewS L M xs)] := by
  have h : k < (zoneS L M xs).length := by unfold zoneS; rw [List.length_map]; exact hk
  rw [List.take_succ_eq_append_getElem h]
  congr 2
  have e : (zoneS L M xs)[k] = (zoneS L M xs).getD k 0 := by simp [List.getD_eq_getElem?_getD, h]
  rw [e, hx]
  unfold zoneS
  simp [List.getD_eq_getElem?_getD, hk]
theorem zone_len (L M : Int) (xs : List Int) : (zoneS L M xs).length = xs.length := by unfold zoneS; rw [List.length_map]
set_option maxHeartbeats 2000000 in
theorem specZone_c (A : Option Addr) (c : Nat) (xs : List Int) (L M : Int) (w : World) (h : RdI w w.heap.size A xs) (hm0 : xs.length ≤ 1048576) :
    Calls Try.prog 38 #[.slice A xs.length c, .agg #[.int .i64 L, .int .i64 M]] w (RetI w (zoneL xs L M).1 (fun v => .tuple #[v, .bool (zoneL xs L M).2])) := by
  have hm : xs.length ≤ 4611686018427387904 := by omega
  cases h1 : goodZ xs L M
  · rw [zoneL_no h1]
    go_enter Try.func38, Try.ntmps38
    go_wp2_with fail
    refine (l12Asked_c _ _ _ _ _ _ ((h.alloc (Nat.le_refl _) _).alloc (by simp) _) (by simp; omega) hm).mono ?_
    rintro e w1 ⟨rfl, hb1⟩
    have B1 : Below w.heap.size w w1 := (((Below.refl _ _).alloc (Nat.le_refl _) _).alloc (by simp) _).trans (hb1.mono (by simp; omega))
    have o0 := (own_empty2 w (.cells #[.int .i64 L, .int .i64 M] 33) w.heap.size (by omega)).below hb1
    clear hb1 h
    go_wp2
    go_ret2
    exact ⟨some ⟨w.heap.size + 1, 0, none⟩, 0, rfl, o0, B1⟩
  · rw [zoneL_yes h1]
    have hgz : goodL xs = true ∧ goodR L M = true := by unfold goodZ at h1; simpa using h1
    obtain ⟨gl, gr⟩ := hgz
    obtain ⟨n12, hx⟩ := goodL_out gl
    obtain ⟨r1, r2, r3⟩ := goodR_out gr
    have fo := fewS_ok gr hx
    have H1 := Lib.hid h1
    have HX := Lib.hid hx
    have FO := Lib.hid fo
    clear gl gr hx fo
    go_enter Try.func38, Try.ntmps38
    go_wp2_with fail
    refine (l12Asked_c _ _ _ _ _ _ ((h.alloc (Nat.le_refl _) _).alloc (by simp) _) (by simp; omega) hm).mono ?_
    rintro e w1 ⟨rfl, hb1⟩
    have B1 : Below w.heap.size w w1 := (((Below.refl _ _).alloc (Nat.le_refl _) _).alloc (by simp) _).trans (hb1.mono (by simp; omega))
    have c0 : w1.cell? ⟨w.heap.size, 0, none⟩ = some (.int .i64 L) := (hb1.cell (p := ⟨w.heap.size, 0, none⟩) (by simp)).trans (by simp [go_sem])
    have c1 : w1.cell? ⟨w.heap.size, 1, none⟩ = some (.int .i64 M) := (hb1.cell (p := ⟨w.heap.size, 1, none⟩) (by simp)).trans (by simp [go_sem])
    have o0 := (own_empty2 w (.cells #[.int .i64 L, .int .i64 M] 33) (w.heap.size + 1) (by omega)).below hb1
    have R1 := (h.below B1).more B1.size
    clear hb1
    go_wp2_with fail
    clear h1
    refine (l12Levels_c A c xs L M w1 R1 H1.out).mono ?_
    rintro e w2 ⟨A2, c2, rfl, o2, hb2⟩
    have B2 := B1.trans (hb2.mono B1.size)
    have L0 : LevW w2 w.heap.size w.heap.size A L M xs (.slice (some ⟨w.heap.size + 1, 0, none⟩) 0 0) [] :=
      ⟨o0.below hb2, h.below B2, (hb2.cell (lt_of_cell (by rw [c0]; rfl))).trans c0, (hb2.cell (lt_of_cell (by rw [c1]; rfl))).trans c1, Nat.le_refl _⟩
    have hw1 : w.heap.size + 1 < w1.heap.size := (o0.lt _ rfl).2
    have ap : Apart (.slice (some ⟨w.heap.size + 1, 0, none⟩) 0 0) (.slice A2 (fewS L M xs).length c2) := fun g hg e => by
      have := (o2.lt g e).1
      simp only [Value.ownBlock, Option.some.injEq] at hg
      omega
    have ow := o2.weak (base' := w.heap.size + 1) (by omega)
    clear c0 c1 o0 o2 hb2 R1 B1 h
    generalize hlv : fewS L M xs = lv at *
    have zn := fun (k : Nat) (x : Int) (hk : k < xs.length) (hx : x = xs.getD k 0) => zone_next (L := L) (M := M) hk hx
    rw [hlv] at zn
    have ZN := Lib.hid zn
    have zl := zone_len L M xs
    have z0 : (zoneS L M xs).take 0 = [] := rfl
    have l12 : lv.length ≤ 12 := by have := FO.out.1; omega
    have ZL := Lib.hid zl
    clear hlv zn H1 zl
    generalize hzs : zoneS L M xs = zs at *
    have ZS := Lib.hid hzs
    clear hzs
    have z2 := B2.size
    have ST := Lib.hid (And.intro L0 (And.intro ow (And.intro ap B2)))
    clear L0 ow ap B2
    go_wp2
    go_loopw [6, 8, 9] (fun ov iv _ wr => ∃ (k : Nat) (v : Value), k ≤ xs.length ∧ iv = .int .i64 k ∧ v = ov ∧ LevW wr w.heap.size w.heap.size A L M xs v (zs.take k) ∧ OwnI wr (w.heap.size + 1) (.slice A2 lv.length c2) lv ∧ Apart v (.slice A2 lv.length c2) ∧ Below w.heap.size w wr) (fun _ iv _ _ => xs.length - (intOf iv).toNat)
    case atStart => exact ⟨0, _, by omega, rfl, rfl, by rw [z0]; exact ST.out.1, ST.out.2.1, ST.out.2.2.1, ST.out.2.2.2⟩
    case round =>
      clear ST
      obtain ⟨k, v, hk, rfl, rfl, V, ow, ap, B⟩ := hrel
      by_cases hlt : k < xs.length
      · have hi : (k : Int) < (xs.length : Int) := by omega
        have Wk : IntKind.i64.wrap ((k : Int) + 1) = (k : Int) + 1 := IntWalk.i64_in _ (by omega)
        have xb := HX.out k hlt
        obtain ⟨x, hx⟩ : ∃ x, x = xs.getD k 0 := ⟨_, rfl⟩
        have zn := ZN.out k x hlt hx
        obtain ⟨qe, hqe, se⟩ := FO.out.2.2 k hlt
        rw [← hx] at xb se
        have XH := Lib.hid hx
        have ZNK := Lib.hid zn
        have SE := Lib.hid se
        have AP := Lib.hid ap
        have VB := Lib.hid (And.intro V (And.intro ow B))
        clear V ow B hx zn se ap
        go_wp2
        go_loopw [9] (fun qv wr => ∃ q : Nat, q < lv.length ∧ qv = .int .i64 q ∧ (∀ j, j < q → suitP L M (lv.getD j 0) x = false) ∧ LevW wr w.heap.size w.heap.size A L M xs v (zs.take k) ∧ OwnI wr (w.heap.size + 1) (.slice A2 lv.length c2) lv ∧ Below w.heap.size w wr) (fun qv _ => lv.length - (intOf qv).toNat)
        case atStart => exact ⟨0, by omega, rfl, fun j hj => absurd hj (by omega), VB.out.1, VB.out.2.1, VB.out.2.2⟩
        case round =>
          clear VB
          obtain ⟨q, hq, rfl, hno, V, ow, B⟩ := hrel
          obtain ⟨b, off, x', hA, hx', hb, hc⟩ := V.rd.at_ hlt
          subst hA
          obtain rfl : x' = x := hx'.trans XH.out.symm
          obtain ⟨b2, off2, l, hA, hl, hb2, hc2⟩ := ow.rd.at_ hq
          subst hA
          have lb := FO.out.2.1 q hq
          rw [← hl] at lb
          have c0 := V.c0
          have c1 := V.c1
          have hqi : (q : Int) < (lv.length : Int) := by omega
          have Wq : IntKind.i64.wrap ((q : Int) + 1) = (q : Int) + 1 := IntWalk.i64_in _ (by omega)
          have VH := Lib.hid (And.intro V ow)
          have NO := Lib.hid hno
          have LH := Lib.hid hl
          have C0 := fun s : World => l12Suits_c L M l x' s (by omega) (by omega) (by omega) (by omega)
          clear V ow hno hl hx'
          cases su : suitP L M l x'
          · rw [su] at C0
            have LC := Lib.hid C0
            have nx : q + 1 < lv.length := by
              rcases Nat.lt_or_ge (q + 1) lv.length with h | h
              · exact h
              · have e : ∀ j, j < lv.length → suitP L M (lv.getD j 0) x' = false := fun j hj => by
                  by_cases e : j = q
                  · subst e; rw [← LH.out]; exact su
                  · exact NO.out j (by omega)
                have := e qe hqe
                rw [SE.out] at this; cases this
            clear C0
            go_upto_region 9 with (fail)
            (refine wp_region_after (by kernel_rfl) (by kernel_rfl) (fun hAf => ?_); (repeat (go_big_quiet_step (first | (go_at_call 65; exact callsAfter (LC.out _))))); refine wpQuiet_nil ?_; intro w3 hw'; have hb3 := after_out hw'; clear hw' hAf)
            have V1 := VH.out.1.below hb3
            have O1 := VH.out.2.below hb3
            have B1 := B.trans (hb3.mono B.size)
            clear B c0 c1 hb3 hc hc2
            go_wp2
            go_roundw
            case rel => exact ⟨q + 1, nx, by go_num, fun j hj => by
              by_cases e : j = q
              · subst e; rw [← LH.out]; exact su
              · exact NO.out j (by omega), V1, O1, B1⟩
            case measure => simp [intOf]; omega
          · rw [su] at C0
            have LC := Lib.hid C0
            have ih := idxI_hit (fun l => suitP L M l x') hq NO.out (by show suitP L M (lv.getD q 0) x' = true; rw [← LH.out]; exact su)
            have IH := Lib.hid ih
            clear C0 ih
            go_upto_region 9 with (fail)
            (refine wp_region_after (by kernel_rfl) (by kernel_rfl) (fun hAf => ?_); (repeat (go_big_quiet_step (first | (go_at_call 65; exact callsAfter (LC.out _))))); refine wpQuiet_nil ?_; intro w3 hw'; have hb3 := after_out hw'; clear hw' hAf)
            have V1 := VH.out.1.below hb3
            have O1 := VH.out.2.below hb3
            have B1 := B.trans (hb3.mono B.size)
            have hbase : w.heap.size + 1 ≤ w3.heap.size := lt_of_cell (w := w3) (a := ⟨w.heap.size, 0, none⟩) (by rw [V1.c0]; rfl)
            have lk : (zs.take k).length ≤ 12 := by rw [List.length_take]; omega
            clear B c0 c1 hb3 hc hc2
            go_wp2_with (at_builtin; (refine wpList_appK (wr := w3) rfl (.tmp 38) (.tmp 40) rfl (w.heap.size + 1) _ _ _ _ rfl V1.oo rfl (by omega) (by omega) (by omega) ?_; intro v4 w4 q4 g4 l4))
            have V4 := V1.app q4 g4
            have O4 := O1.kept g4 AP.out.or
            have A4 := apart_new AP.out O1 l4 (by omega)
            have B4 := B1.trans ((below_row V1.oo g4 (by omega)).mono (by omega))
            rw [← IH.out, ← ZNK.out] at V4
            clear V1 O1 q4 g4 l4 B1
            go_roundw
            case rel => exact ⟨k + 1, _, by omega, by go_num, rfl, V4, O4, A4, B4⟩
            case measure => simp [intOf]; omega
      · obtain rfl : k = xs.length := by omega
        have e : zs.take xs.length = zs := by rw [← ZL.out, List.take_length]
        rw [e] at V
        obtain ⟨A5, c5, hv⟩ := V.oo.shape
        subst hv
        have VH := Lib.hid V
        clear V e ow ap
        go_wp2
        go_ret2
        exact ⟨A5, c5, by rw [ZS.out, ZL.out]; rfl, by rw [ZS.out]; exact VH.out.oo.weak (base' := w.heap.size) (by omega), B⟩
set_option maxHeartbeats 2000000 in
theorem implZone_c (A : Option Addr) (c : Nat) (xs : List Int) (L M : Int) (w : World) (h : RdI w w.heap.size A xs) (hnil : A = none → c = 0) (hm0 : xs.length ≤ 1048576) :
    Calls Try.prog 39 #[.slice A xs.length c, .agg #[.int .i64 L, .int .i64 M]] w (RetI w (zoneL xs L M).1 (fun v => .tuple #[v, .bool (zoneL xs L M).2])) := by
  have hm : xs.length ≤ 4611686018427387904 := by omega
  cases h1 : goodZ xs L M
  · rw [zoneL_no h1]
    go_enter Try.func39, Try.ntmps39
    go_wp2_with (go_at_call 50; refine (canZone_c _ _ _ _ _ _ (h.alloc (Nat.le_refl _) _) (by simp) hm).mono ?_; rintro e w1 ⟨rfl, hb1⟩; have hz1 := hb1.size; (repeat (first | rw [World.size_alloc] at hz1 | rw [World.size_drew] at hz1 | rw [World.heap_drewN] at hz1 | rw [World.size_setCell] at hz1)); have hB : Below w.heap.size w w1 := Below.trans (by (repeat' (first | (with_reducible exact Below.refl _ _) | (with_reducible assumption) | (with_reducible refine below_drewN ?_ _) | (with_reducible refine Below.alloc ?_ ?_ _) | (with_reducible refine Below.drew ?_) | (with_reducible refine Below.setCell ?_ ?_ _) | go_size))) (hb1.mono (by go_size)); have hL1 := hb1; clear hb1; obtain ⟨hc1, hf1⟩ := bcell hL1)
    go_ret2
    exact ⟨none, 0, rfl, OwnI.nil _ _, by (repeat' (first | (with_reducible exact Below.refl _ _) | (with_reducible assumption) | (with_reducible refine below_drewN ?_ _) | (with_reducible refine Below.alloc ?_ ?_ _) | (with_reducible refine Below.drew ?_) | (with_reducible refine Below.setCell ?_ ?_ _) | go_size))⟩
  · rw [zoneL_yes h1]
    have hgz : goodL xs = true ∧ goodR L M = true := by unfold goodZ at h1; simpa using h1
    obtain ⟨gl, gr⟩ := hgz
    obtain ⟨n12, hx⟩ := goodL_out gl
    obtain ⟨r1, r2, r3⟩ := goodR_out gr
    have fo := fewS_ok gr hx
    have H1 := Lib.hid h1
    have HX := Lib.hid hx
    have FO := Lib.hid fo
    clear gl gr hx fo
    go_enter Try.func39, Try.ntmps39
    go_wp2_with fail
    refine (canZone_c _ _ _ _ _ _ (h.alloc (Nat.le_refl _) _) (by simp) hm).mono ?_
    rintro e w1 ⟨rfl, hb1⟩
    have B1 : Below w.heap.size w w1 := ((Below.refl _ _).alloc (Nat.le_refl _) _).trans (hb1.mono (by simp))
    have c0 : w1.cell? ⟨w.heap.size, 0, none⟩ = some (.int .i64 L) := (hb1.cell (p := ⟨w.heap.size, 0, none⟩) (by simp)).trans (by simp [go_sem])
    have c1 : w1.cell? ⟨w.heap.size, 1, none⟩ = some (.int .i64 M) := (hb1.cell (p := ⟨w.heap.size, 1, none⟩) (by simp)).trans (by simp [go_sem])
    have R1 := (h.below B1).more B1.size
    have hw1 : w.heap.size + 1 ≤ w1.heap.size := lt_of_cell (w := w1) (a := ⟨w.heap.size, 0, none⟩) (by rw [c0]; rfl)
    clear hb1
    go_wp2_with fail
    clear h1
    refine (implFewS_c A c xs L M w1 R1 hnil H1.out).mono ?_
    rintro e w2 ⟨A2, c2, rfl, o2, hb2⟩
    have B2 := B1.trans (hb2.mono B1.size)
    have z12 := hb2.size
    go_upto_region 4 with (fail)
    obtain ⟨w3, hW⟩ : ∃ W, W = w2.alloc (.cells #[] 3) := ⟨_, rfl⟩
    rw [← hW]
    have hb3 : Below w2.heap.size w2 w3 := by rw [hW]; exact (Below.refl _ _).alloc (Nat.le_refl _) _
    have B3 := B2.trans (hb3.mono B2.size)
    have L0 : LevW w3 w.heap.size w.heap.size A L M xs (.slice (some ⟨w2.heap.size, 0, none⟩) 0 0) [] := by
      refine ⟨by rw [hW]; exact own_empty w2 _ (by omega), h.below B3, ?_, ?_, Nat.le_refl _⟩
      · exact (hb3.cell (lt_of_cell (by rw [(hb2.cell (lt_of_cell (by rw [c0]; rfl))).trans c0]; rfl))).trans ((hb2.cell (lt_of_cell (by rw [c0]; rfl))).trans c0)
      · exact (hb3.cell (lt_of_cell (by rw [(hb2.cell (lt_of_cell (by rw [c1]; rfl))).trans c1]; rfl))).trans ((hb2.cell (lt_of_cell (by rw [c1]; rfl))).trans c1)
    have ap : Apart (.slice (some ⟨w2.heap.size, 0, none⟩) 0 0) (.slice A2 (fewS L M xs).length c2) := fun g hg e => by
      have := (o2.lt g e).2
      simp only [Value.ownBlock, Option.some.injEq] at hg
      omega
    have ow := (o2.below hb3).weak (base' := w.heap.size + 1) (by omega)
    clear c0 c1 o2 hb2 R1 B1 h hb3 B2 hW hnil
    generalize hlv : fewS L M xs = lv at *
    have zn := fun (k : Nat) (x : Int) (hk : k < xs.length) (hx : x = xs.getD k 0) => zone_next (L := L) (M := M) hk hx
    rw [hlv] at zn
    have ZN := Lib.hid zn
    have zl := zone_len L M xs
    have z0 : (zoneS L M xs).take 0 = [] := rfl
    have l12 : lv.length ≤ 12 := by have := FO.out.1; omega
    have ZL := Lib.hid zl
    clear hlv zn H1 zl
    generalize hzs : zoneS L M xs = zs at *
    have ZS := Lib.hid hzs
    have ST := Lib.hid (And.intro L0 (And.intro ow (And.intro ap B3)))
    clear L0 ow ap B3 hzs
    go_wp2
    go_loopw [7, 9, 20] (fun ov _ iv wr => ∃ (k : Nat) (v : Value), k ≤ xs.length ∧ iv = .int .i64 k ∧ v = ov ∧ LevW wr w.heap.size w.heap.size A L M xs v (zs.take k) ∧ OwnI wr (w.heap.size + 1) (.slice A2 lv.length c2) lv ∧ Apart v (.slice A2 lv.length c2) ∧ Below w.heap.size w wr) (fun _ _ iv _ => xs.length - (intOf iv).toNat)
    case atStart => exact ⟨0, _, by omega, rfl, rfl, by rw [z0]; exact ST.out.1, ST.out.2.1, ST.out.2.2.1, ST.out.2.2.2⟩
    case round =>
      clear ST
      obtain ⟨k, v, hk, rfl, rfl, V, ow, ap, B⟩ := hrel
      by_cases hlt : k < xs.length
      · have hi : (k : Int) < (xs.length : Int) := by omega
        have Wk : IntKind.i64.wrap ((k : Int) + 1) = (k : Int) + 1 := IntWalk.i64_in _ (by omega)
        have xb := HX.out k hlt
        obtain ⟨b, off, x, hA, hx, hb, hc⟩ := V.rd.at_ hlt
        subst hA
        have zn := ZN.out k x hlt hx
        rw [← hx] at xb
        have ZNK := Lib.hid zn
        have AP := Lib.hid ap
        have VB := Lib.hid (And.intro V (And.intro ow B))
        clear V ow B zn ap hx
        go_upto_region 7 with (fail)
        obtain ⟨w4, hW⟩ : ∃ W, W = wr.alloc (.cells #[.int .i64 x] 3) := ⟨_, rfl⟩
        rw [← hW]
        have hb4 : Below wr.heap.size wr w4 := by rw [hW]; exact (Below.refl _ _).alloc (Nat.le_refl _) _
        have c4 : w4.cell? ⟨wr.heap.size, 0, none⟩ = some (.int .i64 x) := by rw [hW]; exact World.cell?_alloc_new wr _ _ 0
        have V4 := VB.out.1.below hb4
        have O4 := VB.out.2.1.below hb4
        have B4 := VB.out.2.2.trans (hb4.mono VB.out.2.2.size)
        have CB : CloB w4 w.heap.size wr.heap.size L M x := ⟨V4.c0, V4.c1, c4⟩
        have IX := Lib.hid (zidx_c w.heap.size wr.heap.size L M x A2 c2 lv w4 O4.rd (Nat.le_refl _) CB (by omega) xb.1 (by omega) (fun j hj => by have := FO.out.2.1 j hj; omega))
        clear VB hb4 c4 CB hc hW
        go_wp2_with fail
        refine IX.out.mono ?_
        rintro e w5 ⟨rfl, hb5⟩
        have V5 := V4.below hb5
        have O5 := O4.below hb5
        have B5 := B4.trans (hb5.mono B4.size)
        have hbase : w.heap.size + 1 ≤ w5.heap.size := lt_of_cell (w := w5) (a := ⟨w.heap.size, 0, none⟩) (by rw [V5.c0]; rfl)
        have lk : (zs.take k).length ≤ 12 := by rw [List.length_take]; omega
        clear V4 O4 B4 hb5 IX
        go_wp2_with (at_builtin; (refine wpList_appK (wr := w5) rfl (.tmp 24) (.tmp 28) rfl (w.heap.size + 1) _ _ _ _ rfl V5.oo rfl (by omega) (by omega) (by omega) ?_; intro v4 w6 q4 g4 l4))
        have V6 := V5.app q4 g4
        have O6 := O5.kept g4 AP.out.or
        have A6 := apart_new AP.out O5 l4 (by omega)
        have B6 := B5.trans ((below_row V5.oo g4 (by omega)).mono (by omega))
        rw [← ZNK.out] at V6
        clear V5 O5 q4 g4 l4 B5
        go_roundw
        case rel => exact ⟨k + 1, _, by omega, by go_num, rfl, V6, O6, A6, B6⟩
        case measure => simp [intOf]; omega
      · obtain rfl : k = xs.length := by omega
        have e : zs.take xs.length = zs := by rw [← ZL.out, List.take_length]
        rw [e] at V
        obtain ⟨A5, c5, hv⟩ := V.oo.shape
        subst hv
        have VH := Lib.hid V
        clear V e ow ap
        go_wp2
        go_ret2
        exact ⟨A5, c5, by rw [ZS.out, ZL.out]; rfl, by rw [ZS.out]; exact VH.out.oo.weak (base' := w.heap.size) (by omega), B⟩
end Go.Proofs.Ytakpoalcfjedlaa
