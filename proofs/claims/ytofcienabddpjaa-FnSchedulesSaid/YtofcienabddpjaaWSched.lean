/- Contracts: schedules drawn. -/
import Derived.Test.YtofcienabddpjaaVDraw
import Derived.Test.YtofcienabddpjaaQRef
import Derived.Test.YtofcienabddpjaaESpec
namespace Go.Proofs.Ytofcienabddpjaa
open Go.RowKit

theorem own_farS {w w' : World} {base b : Nat} {v : Value} {xs : List Int} (h : OwnI w base v xs) (g : w.grownBy w' (some b)) (hb : b < base) : OwnI w' base v xs := h.kept g (.inr (fun q => by have := (h.lt b q).1; omega))
set_option maxRecDepth 100000 in
set_option maxHeartbeats 8000000 in
theorem schedule_c (b : Nat) (A : Option Addr) (n c m : Nat) (L E M P : Int) (A1 A2 : Option Addr) (c1 c2 : Nat) (xs ys : List Int) (w : World) (h : Cur w b A n c m) (r1 : RdI w w.heap.size A1 xs) (r2 : RdI w w.heap.size A2 ys) (hx : xs.length ≤ 14) (hy : ys.length ≤ 14) (hm : m ≤ 1000000) :
    Calls Try.prog 81 #[.pointer (some ⟨b, 0, none⟩), .agg #[.int .i64 L, .int .i64 E, .int .i64 M, .int .i64 P, .slice A1 xs.length c1, .slice A2 ys.length c2]] w fun e w' => ∃ (B : Option Addr) (d : Nat) (zs : List Int), e = .returned (.slice B zs.length d) ∧ Cur w' b A n c (m + 100) ∧ w.grownBy w' (some b) ∧ OwnI w' w.heap.size (.slice B zs.length d) zs ∧ zs.length ≤ 30 := by
  have hlt := h.lt
  go_enter Try.func81, Try.ntmps81
  go_upto_region 1 with (fail)
  obtain ⟨W, hW⟩ : ∃ W, W = w.alloc (.cells #[.int .i64 L, .int .i64 E, .int .i64 M, .int .i64 P, .slice A1 xs.length c1, .slice A2 ys.length c2] 28) := ⟨_, rfl⟩
  rw [← hW]
  have C0 : Cur W b A n c m := by rw [hW]; exact h.alloc _
  have G0 : w.grownBy W (some b) := by rw [hW]; exact World.grownBy_alloc _ _ _
  have P0 : PB W w.heap.size L E M P (.slice A1 xs.length c1) (.slice A2 ys.length c2) := by rw [hW]; exact PB.new _ _ _ _ _ _ _
  have R1 : RdI W W.heap.size A1 xs := by rw [hW]; exact (r1.alloc (Nat.le_refl _) _).more (by simp)
  have R2 : RdI W W.heap.size A2 ys := by rw [hW]; exact (r2.alloc (Nat.le_refl _) _).more (by simp)
  have Z0 : w.heap.size + 1 ≤ W.heap.size := by rw [hW]; simp
  clear hW h r1 r2
  obtain ⟨p, hp⟩ : ∃ p, p = w.heap.size := ⟨_, rfl⟩
  rw [← hp] at P0 Z0 hlt ⊢
  have wp : w.heap.size ≤ p := Nat.le_of_eq hp.symm
  have pw : p ≤ w.heap.size := Nat.le_of_eq hp
  clear hp
  obtain ⟨p0, p1, p2, p3, p4, p5⟩ := id P0
  go_wp2_with fail
  refine (specEager_c L E M P A1 A2 c1 c2 xs ys W R1 R2 (Nat.le_refl _) (Nat.le_refl _) (by omega) (by omega)).mono ?_
  rintro e w1 ⟨A3, c3, rfl, O1, hb1⟩
  clear p0 p1 p2 p3 p4 p5
  have l1 := eagerT_len (L := L) (E := E) (M := M) (P := P) (xs := xs) (ys := ys)
  generalize eagerT L E M P xs ys = eg at *
  obtain ⟨zs1, ok1⟩ := eg
  dsimp only at l1 O1 ⊢
  have C1 := C0.below hb1
  have P1 := P0.below hb1
  have G1 := grown_trans G0 (grown_below (row := some b) hb1)
  have R1' := (R1.below hb1).more hb1.size
  have R2' := (R2.below hb1).more hb1.size
  have O1' := O1.weak (base' := p + 1) Z0
  have Z1 := Nat.le_trans Z0 hb1.size
  clear C0 P0 G0 R1 R2 O1 hb1 Z0
  obtain ⟨p0, p1, p2, p3, p4, p5⟩ := id P1
  go_wp2_with fail
  refine (specLazy_c L E M P A1 A2 c1 c2 xs ys w1 R1' R2' (Nat.le_refl _) (Nat.le_refl _) (by omega) (by omega)).mono ?_
  rintro e w2 ⟨A4, c4, rfl, O2, hb2⟩
  clear p0 p1 p2 p3 p4 p5
  have l2 := lazyT_len E M P L xs ys
  generalize lazyT E M P L xs ys = eg at *
  obtain ⟨zs2, ok2⟩ := eg
  dsimp only at l2 O2 ⊢
  have C2 := C1.below hb2
  have P2 := P1.below hb2
  have G2 := grown_trans G1 (grown_below (row := some b) hb2)
  have O2' := O2.weak (base' := p + 1) Z1
  have O1 := O1'.below hb2
  have Z2 := Nat.le_trans Z1 hb2.size
  clear C1 P1 G1 R1' R2' O2 O1' hb2 Z1
  go_upto_region 3 with (fail)
  go_cut [29] (fun tv wx => ∃ t : Bool, tv = .bool t ∧ Cur wx b A n c (m + 2) ∧ w.grownBy wx (some b) ∧ PB wx p L E M P (.slice A1 xs.length c1) (.slice A2 ys.length c2) ∧ OwnI wx (p + 1) (.slice A3 zs1.length c3) zs1 ∧ OwnI wx (p + 1) (.slice A4 zs2.length c4) zs2 ∧ p + 1 ≤ wx.heap.size)
  case first =>
    cases ok2
    · go_wp2_with fail
      go_meet
      exact ⟨_, rfl, C2.weak (by omega), G2, P2, O1, O2', Z2⟩
    · cases ok1
      · go_wp2_with fail
        go_meet
        exact ⟨_, rfl, C2.weak (by omega), G2, P2, O1, O2', Z2⟩
      · go_wp2_with fail
        refine (one_c b A n c m 2 w2 C2 (by omega) (by omega)).mono ?_
        rintro e w3 ⟨t, rfl, C3, g3⟩
        go_wp2_with fail
        go_meet
        exact ⟨_, rfl, C3, grown_trans G2 g3, P2.kept g3 (fun e => by have := Option.some.inj e; omega), own_farS O1 g3 (by omega), own_farS O2' g3 (by omega), Nat.le_trans Z2 g3.size⟩
  case rest =>
    clear C2 G2 P2 O1 O2' Z2
    obtain ⟨t, rfl, C3, G3, P3, O1, O2, Z3⟩ := hcut
    go_upto_if 29 with (fail)
    go_cut [5, 6] (fun ov tv wx => ∃ (v : Value) (zs : List Int) (t : Bool), ov = v ∧ tv = .bool t ∧ zs.length ≤ 14 ∧ Cur wx b A n c (m + 2) ∧ w.grownBy wx (some b) ∧ PB wx p L E M P (.slice A1 xs.length c1) (.slice A2 ys.length c2) ∧ OwnI wx (p + 1) v zs ∧ p + 1 ≤ wx.heap.size)
    case first =>
      cases t
      · go_wp2_with fail
        go_meet
        exact ⟨_, zs1, _, rfl, rfl, by omega, C3, G3, P3, O1, Z3⟩
      · go_wp2_with fail
        go_meet
        exact ⟨_, zs2, _, rfl, rfl, by omega, C3, G3, P3, O2, Z3⟩
    case rest =>
      clear C3 G3 P3 O1 O2 Z3 l1 l2
      obtain ⟨v, zs, t, rfl, rfl, hz, C4, G4, P4, O4, Z4⟩ := hcut
      go_upto_if 32 with (fail)
      go_cut [5] (fun ov wx => ∃ (v : Value) (zs : List Int), ov = v ∧ zs.length ≤ 28 ∧ Cur wx b A n c (m + 40) ∧ w.grownBy wx (some b) ∧ PB wx p L E M P (.slice A1 xs.length c1) (.slice A2 ys.length c2) ∧ OwnI wx (p + 1) v zs ∧ p + 1 ≤ wx.heap.size)
      case first =>
        cases t
        · go_wp2
          go_loopw [5, 9] (fun ov iv wr => ∃ (k : Nat) (v : Value) (zs : List Int), k ≤ xs.length ∧ iv = .int .i64 k ∧ ov = v ∧ zs.length ≤ 14 + k ∧ Cur wr b A n c (m + 2 + 2 * k) ∧ w.grownBy wr (some b) ∧ PB wr p L E M P (.slice A1 xs.length c1) (.slice A2 ys.length c2) ∧ OwnI wr (p + 1) v zs ∧ p + 1 ≤ wr.heap.size) (fun _ iv _ => xs.length - (intOf iv).toNat)
          case atStart => exact ⟨0, _, zs, by omega, rfl, rfl, by omega, C4, G4, P4, O4, Z4⟩
          case round =>
            clear C4 G4 P4 O4 Z4
            obtain ⟨k, v, zs, hk, rfl, rfl, hz, CC, GG, PP, OO, ZZ⟩ := hrel
            obtain ⟨Av, cv, rfl⟩ := OO.shape
            obtain ⟨p0, p1, p2, p3, p4, p5⟩ := id PP
            by_cases hlt' : k < xs.length
            · have hi : (k : Int) < (xs.length : Int) := by omega
              have Wk : IntKind.i64.wrap ((k : Int) + 1) = (k : Int) + 1 := IntWalk.i64_in _ (by omega)
              go_wp2_with fail
              clear p0 p1 p2 p3 p4 p5
              refine (pick_c b A n c (m + 2 + 2 * k) 5 wr CC (by omega) (by omega)).mono ?_
              rintro e wx ⟨y, y0, y1, rfl, CX, gX⟩
              have PX := PP.kept gX (fun e => by have := Option.some.inj e; omega)
              have GX := grown_trans GG gX
              have OX := own_farS OO gX (by omega)
              have ZX := Nat.le_trans ZZ gX.size
              clear CC GG PP OO ZZ gX y0 y1
              go_wp2_with (at_builtin; refine wpList_appK (wr := wx) rfl (.tmp 40) (.tmp 43) rfl (p + 1) _ _ _ _ rfl OX rfl rfl (by omega) ZX ?_; intro nv w9 q g l; obtain ⟨Aq, cq, eqv⟩ := q.shape; simp only [List.length_append, List.length_cons, List.length_nil, Nat.zero_add] at eqv; subst eqv; have q8 := own_ge OX; have pB9 := PX.kept g (fun e => by have := q8 _ e.symm; omega); have C9 := CX.kept g (fun k hk => by have := q8 _ hk; omega); have G9 := grown_own GX g (fun k hk => by have := q8 _ hk; omega); have Z9 := Nat.le_trans ZX g.size)
              go_roundw
              case rel => first | exact ⟨k + 1, _, zs ++ [y], by omega, by go_num, rfl, by simp; omega, C9.weak (by omega), G9, pB9, q, Z9⟩ | ((repeat apply Exists.intro); exact ⟨⟨k + 1, _, zs ++ [y], by omega, by go_num, rfl, by simp; omega, C9.weak (by omega), G9, pB9, q, Z9⟩, rfl⟩)
              case measure => simp [intOf]; omega
            · obtain rfl : k = xs.length := by omega
              go_wp2_with fail
              go_meet
              exact ⟨_, zs, rfl, by omega, CC.weak (by omega), GG, PP, OO, ZZ⟩
        · go_wp2_with fail
          go_meet
          exact ⟨_, zs, rfl, by omega, C4.weak (by omega), G4, P4, O4, Z4⟩
      case rest =>
        clear C4 G4 P4 O4 Z4 hz
        obtain ⟨v, zs, rfl, hz, C5, G5, P5, O5, Z5⟩ := hcut
        obtain ⟨Av, cv, rfl⟩ := O5.shape
        go_upto_region 11 with (fail)
        go_cut [51] (fun tv wx => ∃ t : Bool, tv = .bool (decide (0 < zs.length) && t) ∧ Cur wx b A n c (m + 42) ∧ w.grownBy wx (some b) ∧ PB wx p L E M P (.slice A1 xs.length c1) (.slice A2 ys.length c2) ∧ OwnI wx (p + 1) (.slice Av zs.length cv) zs ∧ p + 1 ≤ wx.heap.size)
        case first =>
          by_cases h0 : 0 < zs.length
          · have hi : (0 : Int) < (zs.length : Int) := by omega
            have hd : decide ((0 : Int) < (zs.length : Int)) = true := decide_eq_true hi
            go_wp2_with fail
            refine (one_c b A n c (m + 40) 4 wc C5 (by omega) (by omega)).mono ?_
            rintro e w3 ⟨t, rfl, C6, g6⟩
            go_wp2_with fail
            go_meet
            exact ⟨t, by simp [h0], C6, grown_trans G5 g6, P5.kept g6 (fun e => by have := Option.some.inj e; omega), own_farS O5 g6 (by omega), Nat.le_trans Z5 g6.size⟩
          · have hd : decide ((0 : Int) < (zs.length : Int)) = false := decide_eq_false (by omega)
            go_wp2_with fail
            go_meet
            exact ⟨true, by simp [h0], C5.weak (by omega), G5, P5, O5, Z5⟩
        case rest =>
          clear C5 G5 P5 O5 Z5
          obtain ⟨t, rfl, C6, G6, P6, O6, Z6⟩ := hcut
          go_upto_if 51 with (fail)
          go_cut [51] (fun _ wx => ∃ zs' : List Int, (zs'.length ≤ zs.length ∧ zs.length ≤ zs'.length) ∧ Cur wx b A n c (m + 46) ∧ w.grownBy wx (some b) ∧ PB wx p L E M P (.slice A1 xs.length c1) (.slice A2 ys.length c2) ∧ OwnI wx (p + 1) (.slice Av zs.length cv) zs' ∧ p + 1 ≤ wx.heap.size)
          case first =>
            by_cases h0 : 0 < zs.length ∧ t = true
            · obtain ⟨h0, rfl⟩ := h0
              have hd : (decide (0 < zs.length) && true) = true := by simp [h0]
              rw [hd]
              obtain ⟨gb, cc, hv, hg1, hg2⟩ := O6.head h0
              simp only [Value.slice.injEq, true_and] at hv
              obtain ⟨rfl, rfl⟩ := hv
              go_wp2_with fail
              refine (pick_c b A n c (m + 42) zs.length wc C6 (by omega) (by omega)).mono ?_
              rintro e w7 ⟨i, i0, i1, rfl, C7, g7⟩
              obtain ⟨j, rfl⟩ := Int.eq_ofNat_of_zero_le i0
              have hj : j < zs.length := by omega
              have hj2 : (j : Int) < (zs.length : Int) := by omega
              have G7 := grown_trans G6 g7
              have P7 := P6.kept g7 (fun e => by have := Option.some.inj e; omega)
              have O7 := own_farS O6 g7 (by omega)
              have Z7 := Nat.le_trans Z6 g7.size
              have rc := O7.cellAt hj
              have rf := O7.frozenAt j
              clear C6 G6 P6 O6 Z6 g7 i1 i0
              go_upto_region 13 with (fail)
              go_region_law (first | (refine step_callr rfl 44 #[.pointer (some ⟨b, 0, none⟩), .int .i64 3] ?hrun (pick_r b A n c (m + 44) 3 w7 C7 (by omega) (by omega)) ?_; (case hrun => (go_simp; done)); rintro e w8 ⟨y, rfl, C8, g8⟩; have G8 := grown_trans G7 g8; have P8 := P7.kept g8 (fun e => by have := Option.some.inj e; omega); have O8 := own_farS O7 g8 (by omega); have Z8 := Nat.le_trans Z7 g8.size; have rc8 := O8.cellAt hj; have rf8 := O8.frozenAt j))
              all_goals
                clear rc rf rc8 rf8
                go_wp2_with fail
                go_meet
                exact ⟨zs.set j _, by simp, C8.setOther (a := ⟨gb, j, none⟩) (by show b < gb; omega) _, grown_set G8 (a := ⟨gb, j, none⟩) (by show w.heap.size ≤ gb; omega) _, P8.set (a := ⟨gb, j, none⟩) (by show ¬ p = gb; omega) _, (O8.stored j _).1, by rw [World.size_setCell]; exact Z8⟩
            · have hd : (decide (0 < zs.length) && t) = false := by
                cases t
                · simp
                · rw [decide_eq_false (fun q => h0 ⟨q, rfl⟩)]; rfl
              rw [hd]
              clear h0
              go_wp2_with fail
              go_meet
              exact ⟨zs, by omega, C6.weak (by omega), G6, P6, O6, Z6⟩
          case rest =>
            clear C6 G6 P6 O6 Z6
            obtain ⟨zs', hl, C7, G7, P7, O7, Z7⟩ := hcut
            go_wp2_with fail
            refine (one_c b A n c (m + 46) 24 wc C7 (by omega) (by omega)).mono ?_
            rintro e w8 ⟨t2, rfl, C8, g8⟩
            have G8 := grown_trans G7 g8
            have P8 := P7.kept g8 (fun e => by have := Option.some.inj e; omega)
            have O8 := own_farS O7 g8 (by omega)
            have Z8 := Nat.le_trans Z7 g8.size
            obtain ⟨Bz, dz, hsh⟩ := O8.shape
            simp only [Value.slice.injEq] at hsh
            obtain ⟨rfl, hl2, rfl⟩ := hsh
            have hz2 : zs'.length ≤ 28 := by omega
            clear C7 G7 P7 O7 Z7 g8 hl
            rw [hl2] at O8 ⊢
            clear hl2
            cases t2
            · have OW := O8.weak (base' := w.heap.size) (by omega)
              clear O8 P8
              go_wp2
              go_ret
              exact ⟨_, _, zs', rfl, C8.weak (by omega), G8, OW, by omega⟩
            · go_wp2_with (at_builtin; refine wpList_appK (wr := w8) rfl (.tmp 69) (.tmp 70) rfl (p + 1) _ _ _ _ rfl O8 rfl rfl (by omega) Z8 ?_; intro nv w9 q g l; obtain ⟨Aq, cq, eqv⟩ := q.shape; simp only [List.length_append, List.length_cons, List.length_nil, Nat.zero_add] at eqv; subst eqv; have q8 := own_ge O8; have pB9 := P8.kept g (fun e => by have := q8 _ e.symm; omega); have C9 := C8.kept g (fun k hk => by have := q8 _ hk; omega); have G9 := grown_own G8 g (fun k hk => by have := q8 _ hk; omega); have Z9 := Nat.le_trans Z8 g.size)
              have OW := q.weak (base' := w.heap.size) (by omega)
              clear O8 P8 pB9 q
              go_wp2
              go_ret
              exact ⟨Aq, cq, zs' ++ [0], by simp, C9.weak (by omega), G9, by simpa using OW, by simp; omega⟩
end Go.Proofs.Ytofcienabddpjaa
