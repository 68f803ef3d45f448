/- Contracts: FewestLevels of the program. -/
import Derived.Test.YtakpoalcfjedlaaZFew
import Derived.Test.YtakpoalcfjedlaaAppS
namespace Go.Proofs.Ytakpoalcfjedlaa
open Go.RowKit

def lenOf : Value → Nat
  | .slice _ n _ => n
  | _ => 0
/-- The state between two levels. -/
structure FewW (wr : World) (R g cap : Nat) (L M : Int) (ls : List Int) (ov : Value) (out : List Int) : Prop where
  ol : OwnI wr (R + 1) (.slice (some ⟨g, 0, none⟩) ls.length cap) ls
  oo : OwnI wr (R + 1) ov out
  ne : ov.ownBlock ≠ some g
  c0 : wr.cell? ⟨R, 0, none⟩ = some (.int .i64 L)
  c1 : wr.cell? ⟨R, 1, none⟩ = some (.int .i64 M)
theorem FewW.below {wr w' : World} {R g cap : Nat} {L M : Int} {ls : List Int} {ov : Value} {out : List Int} (h : FewW wr R g cap L M ls ov out) (hb : Below wr.heap.size wr w') : FewW w' R g cap L M ls ov out :=
  ⟨h.ol.below hb, h.oo.below hb, h.ne, (hb.cell (lt_of_cell (by rw [h.c0]; rfl))).trans h.c0, (hb.cell (lt_of_cell (by rw [h.c1]; rfl))).trans h.c1⟩
theorem few_cell {w w' : World} {R : Nat} {row : Option Nat} {k : Nat} {u : Value} (hg : w.grownBy w' row) (hr : ∀ q, row = some q → R < q) (h : w.cell? ⟨R, k, none⟩ = some u) : w'.cell? ⟨R, k, none⟩ = some u :=
  (World.cell?_of_block (hg.block R (lt_of_cell (a := ⟨R, k, none⟩) (by rw [h]; rfl)) (fun e => by have := hr _ e.symm; omega))).trans h
theorem FewW.app {wr w' : World} {R g cap H : Nat} {L M : Int} {ls : List Int} {ov ov' : Value} {out out' : List Int} (h : FewW wr R g cap L M ls ov out) (o : OwnI w' (R + 1) ov' out') (hg : wr.grownBy w' ov.ownBlock) (hl : ov'.ownBlock = ov.ownBlock ∨ ov'.ownBlock = some H) (hH : wr.heap.size ≤ H) : FewW w' R g cap L M ls ov' out' := by
  have gl := (h.ol.lt g rfl).2
  have r : ∀ q, ov.ownBlock = some q → R < q := fun q hq => by have := (h.oo.lt q hq).1; omega
  refine ⟨h.ol.kept hg (.inr (fun e => h.ne e.symm)), o, ?_, few_cell hg r h.c0, few_cell hg r h.c1⟩
  rcases hl with e | e
  · rw [e]; exact h.ne
  · rw [e]; intro q; have := Option.some.inj q; omega
theorem FewW.del {wr w' : World} {R g cap : Nat} {L M : Int} {ls ls' : List Int} {ov : Value} {out : List Int} (h : FewW wr R g cap L M ls ov out) (o : OwnI w' (R + 1) (.slice (some ⟨g, 0, none⟩) ls'.length cap) ls') (hg : wr.grownBy w' (some g)) : FewW w' R g cap L M ls' ov out := by
  have gl := (h.ol.lt g rfl).1
  have r : ∀ q, some g = some q → R < q := fun q hq => by have := Option.some.inj hq; omega
  exact ⟨o, h.oo.kept hg (by cases e : ov.ownBlock with | none => exact .inl rfl | some k => exact .inr (fun q => h.ne (e.trans q))), h.ne, few_cell hg r h.c0, few_cell hg r h.c1⟩
theorem insort0_c (A : Option Addr) (c : Nat) (w : World) : Calls Try.prog 79 #[.slice A 0 c, .int .i64 0, .int .i64 0] w fun e w' => e = .returned (.tuple #[]) ∧ w = w' := by
  go_enter Try.func79, Try.ntmps79
  go_wp2
  go_loop [6, 7] (fun iv _ => iv = .int .i64 1) (fun _ _ => 0)
  case atStart => rfl
  case round =>
    obtain rfl := hrel
    go_wp2
    go_returns
    exact ⟨rfl, rfl⟩
theorem pdq0_c (A : Option Addr) (c : Nat) (l : Int) (w : World) : Calls Try.prog 77 #[.slice A 0 c, .int .i64 0, .int .i64 0, .int .i64 l] w fun e w' => e = .returned (.tuple #[]) ∧ w = w' := by
  go_enter Try.func77, Try.ntmps77
  go_wp2_with fail
  go_loopw [1, 2] (fun av bv wr => av = .int .i64 0 ∧ bv = .int .i64 0 ∧ wr = w) (fun _ _ _ => 0)
  case atStart => exact ⟨rfl, rfl, rfl⟩
  case round =>
    obtain ⟨rfl, rfl, rfl⟩ := hrel
    go_wp2_with (go_at_call 79; refine (insort0_c _ _ _).mono ?_; rintro e w' ⟨rfl, rfl⟩)
    go_returns
    exact ⟨rfl, rfl⟩
theorem sort0_c (A : Option Addr) (c : Nat) (w : World) : Calls Try.prog 74 #[.slice A 0 c] w fun e w' => e = .returned (.tuple #[]) ∧ w = w' := by
  go_enter Try.func74, Try.ntmps74
  go_wp2_with fail
  go_at_call 78
  refine (len_c 0 w (by omega)).mono ?_
  rintro e w' ⟨⟨z, rfl⟩, rfl⟩
  go_wp2_with (go_at_call 77; refine (pdq0_c _ _ _ _).mono ?_; rintro e w' ⟨rfl, rfl⟩)
  go_returns
  exact ⟨rfl, rfl⟩
set_option maxHeartbeats 2000000 in
theorem implFewS_c (A : Option Addr) (c : Nat) (xs : List Int) (L M : Int) (w : World) (h : RdI w w.heap.size A xs) (hnil : A = none → c = 0) (hg : goodZ xs L M = true) :
    Calls Try.prog 64 #[.slice A xs.length c, .agg #[.int .i64 L, .int .i64 M]] w (RetI w (fewS L M xs) id) := by
  have hgz : goodL xs = true ∧ goodR L M = true := by unfold goodZ at hg; simpa using hg
  obtain ⟨gl, gr⟩ := hgz
  obtain ⟨n12, hx⟩ := goodL_out gl
  obtain ⟨r1, r2, r3⟩ := goodR_out gr
  have cp := copyInts_c A c xs _ (h.alloc (Nat.le_refl _) (.cells #[.int .i64 L, .int .i64 M] 33)) (by simp) hnil (by omega)
  have CP := Lib.hid cp
  have HX := Lib.hid hx
  have GR := Lib.hid gr
  clear cp h hnil hg gl gr hx
  by_cases n0 : xs.length = 0
  · obtain rfl := List.eq_nil_of_length_eq_zero n0
    clear HX n12 n0
    rw [show fewS L M [] = [] from rfl]
    go_enter Try.func64, Try.ntmps64
    go_wp2_with fail
    refine CP.out.mono ?_
    rintro e w1 ⟨A1, c1, rfl, o1, hb1⟩
    have B1 : Below w.heap.size w w1 := ((Below.refl _ _).alloc (Nat.le_refl _) _).trans (hb1.mono (by simp))
    have z1 := B1.size
    clear CP hb1 o1
    simp only [List.length_nil]
    go_upto_region 2 with (fail)
    have B2 : Below w.heap.size w (w1.alloc (.cells #[] 3)) := B1.alloc z1 _
    have oo : OwnI (w1.alloc (.cells #[] 3)) w.heap.size (.slice (some ⟨w1.heap.size, 0, none⟩) 0 0) [] := own_empty w1 _ z1
    go_wp2_with fail
    refine (sort0_c _ _ _).mono ?_
    rintro e w2 ⟨rfl, rfl⟩
    go_wp2
    go_loopw [5, 6, 7] (fun lv ov _ wr => lv = .slice A1 0 c1 ∧ ov = .slice (some ⟨w1.heap.size, 0, none⟩) 0 0 ∧ wr = w1.alloc (.cells #[] 3)) (fun _ _ _ _ => 0)
    case atStart => exact ⟨rfl, rfl, rfl⟩
    case round =>
      obtain ⟨rfl, rfl, rfl⟩ := hrel
      go_wp2
      go_returns
      exact ⟨_, _, rfl, oo, B2⟩
  go_enter Try.func64, Try.ntmps64
  go_wp2_with fail
  refine CP.out.mono ?_
  rintro e w1 ⟨A1, c1, rfl, o1, hb1⟩
  obtain ⟨g, cc, hv, hg1, hg2⟩ := o1.head (by omega)
  simp only [Value.slice.injEq, true_and] at hv
  obtain ⟨rfl, rfl⟩ := hv
  rw [World.size_alloc] at o1 hg1
  have B1 : Below w.heap.size w w1 := ((Below.refl _ _).alloc (Nat.le_refl _) _).trans (hb1.mono (by simp))
  have c0 : w1.cell? ⟨w.heap.size, 0, none⟩ = some (.int .i64 L) := (hb1.cell (p := ⟨w.heap.size, 0, none⟩) (by simp)).trans (by simp [go_sem])
  have c1' : w1.cell? ⟨w.heap.size, 1, none⟩ = some (.int .i64 M) := (hb1.cell (p := ⟨w.heap.size, 1, none⟩) (by simp)).trans (by simp [go_sem])
  have z1 : w.heap.size + 1 ≤ w1.heap.size := by have := hb1.size; rw [World.size_alloc] at this; exact this
  clear CP hb1
  go_upto_region 2 with (fail)
  obtain ⟨w2, hW⟩ : ∃ W, W = w1.alloc (.cells #[] 3) := ⟨_, rfl⟩
  rw [← hW]
  have B2 : Below w.heap.size w w2 := by rw [hW]; exact B1.alloc (by omega) _
  have o2 : OwnI w2 (w.heap.size + 1) (.slice (some ⟨g, 0, none⟩) xs.length c1) xs := by rw [hW]; exact o1.alloc _
  have oo : OwnI w2 (w.heap.size + 1) (.slice (some ⟨w1.heap.size, 0, none⟩) 0 0) [] := by rw [hW]; exact own_empty w1 _ z1
  have q0 : w2.cell? ⟨w.heap.size, 0, none⟩ = some (.int .i64 L) := by rw [hW]; exact (World.cell?_alloc_lt w1 _ ⟨w.heap.size, 0, none⟩ (show w.heap.size < _ by omega)).trans c0
  have q1 : w2.cell? ⟨w.heap.size, 1, none⟩ = some (.int .i64 M) := by rw [hW]; exact (World.cell?_alloc_lt w1 _ ⟨w.heap.size, 1, none⟩ (show w.heap.size < _ by omega)).trans c1'
  have ng : ¬ w1.heap.size = g := by omega
  clear hW B1 o1 c0 c1'
  go_wp2_with fail
  refine (sort_c g (w.heap.size + 1) xs.length c1 xs w2 rfl n12 o2).mono ?_
  rintro e w3 ⟨zs, rfl, pm, so, o3, g3⟩
  have zl := pm.length_eq
  have rr : ∀ q, some g = some q → w.heap.size < q := fun q hq => by have := Option.some.inj hq; omega
  have B3 : Below w.heap.size w w3 := B2.grown g3 (by have := B2.size; omega) (fun k hk => by have := rr k hk; omega)
  have F3 : FewW w3 w.heap.size g c1 L M (zs.filter (unS L M [])) (.slice (some ⟨w1.heap.size, 0, none⟩) 0 0) [] := by
    have e : zs.filter (unS L M []) = zs := by rw [List.filter_eq_self]; intro a _; rfl
    rw [e]
    exact ⟨by rw [zl]; exact o3, oo.kept g3 (.inr (fun q => ng (Option.some.inj q))), fun q => ng (Option.some.inj q), few_cell g3 rr q0, few_cell g3 rr q1⟩
  have P := Lib.hid pm
  have S := Lib.hid so
  have ZL := Lib.hid (show zs.filter (unS L M []) = zs by rw [List.filter_eq_self]; intro a _; rfl)
  clear o2 oo q0 q1 g3 o3 B2 pm so ng hg1 hg2 z1
  rw [show xs.length = (zs.filter (unS L M [])).length by rw [ZL.out, zl]]
  clear zl n0
  go_wp2
  go_loopw [5, 6, 7] (fun lv ov _ wr => ∃ (m : Nat) (out : List Int) (v : Value), FewI L M xs m out ∧ lv = .slice (some ⟨g, 0, none⟩) (zs.filter (unS L M out)).length c1 ∧ v = ov ∧ FewW wr w.heap.size g c1 L M (zs.filter (unS L M out)) v out ∧ Below w.heap.size w wr) (fun lv _ _ _ => lenOf lv)
  case atStart => exact ⟨xs.length, [], _, FewI.start L M xs, rfl, rfl, F3, B3⟩
  case round =>
    clear F3 B3
    obtain ⟨m, out, v, I, rfl, rfl, F, B⟩ := hrel
    have PF := Lib.hid ((P.out.filter (unS L M out)).length_eq)
    cases hq : zs.filter (unS L M out) with
    | nil =>
      have er := I.stop (low_nil P.out hq)
      obtain ⟨A2, c2, rfl⟩ := F.oo.shape
      have O := Lib.hid F.oo
      have ER := Lib.hid er
      clear er F I hq PF
      go_wp2
      go_returns
      exact ⟨A2, c2, by rw [← ER.out]; rfl, by rw [← ER.out]; exact O.out.weak (by omega), B⟩
    | cons y ys =>
      have lh := low_head HX.out P.out S.out hq
      have ym : y ∈ zs := (List.mem_filter.1 (by rw [hq]; simp : y ∈ zs.filter (unS L M out))).1
      obtain ⟨j, hj, ej⟩ := mem_getD (P.out.mem_iff.1 ym)
      have yb := HX.out j hj
      rw [ej] at yb
      obtain ⟨k, hm, I2⟩ := I.next GR.out HX.out (by rw [lh]; exact yb.1)
      have cs := cnt_step (L := L) (M := M) (out := out) (xs := xs) GR.out (by rw [lh]; exact yb.1)
      rw [lh] at I2 cs
      have ol := I.len
      rw [hq] at F
      have IH := Lib.hid I2
      have CS := Lib.hid cs
      have HQ := Lib.hid hq
      clear lh ym hj ej I2 I cs hq
      have cg := F.ol.cellN rfl (k := 0) (by simp)
      rw [show (y :: ys).getD 0 0 = y from rfl] at cg
      have c0 := F.c0
      have c1' := F.c1
      have Wy : IntKind.i64.wrap (y + M) = y + M := IntWalk.i64_in _ (by omega)
      have hl0 : (0 : Int) < ((y :: ys).length : Int) := by simp only [List.length_cons]; omega
      have OL := Lib.hid ol
      clear ol
      go_upto_region 4 with (fail)
      go_cut [7] (fun lv wx => lv = .pointer (some ⟨wr.heap.size, 0, none⟩) ∧ wx.cell? ⟨wr.heap.size, 0, none⟩ = some (.int .i64 (y + M)) ∧ Below wr.heap.size wr wx ∧ wx.heap.size = wr.heap.size + 1)
      case first =>
        go_big_region
        all_goals
          go_wp2
          go_meet
          exact ⟨rfl, by simp [go_sem], by (repeat' (first | (with_reducible exact Below.refl _ _) | (with_reducible assumption) | (with_reducible refine below_drewN ?_ _) | (with_reducible refine Below.alloc ?_ ?_ _) | (with_reducible refine Below.drew ?_) | (with_reducible refine Below.setCell ?_ ?_ _) | go_size)), by simp⟩
      case rest =>
        clear cg c0 c1'
        obtain ⟨rfl, cv, Bx, sx⟩ := hcut
        have gl := F.ol.lt g rfl
        have ok : ∀ q, v.ownBlock = some q → q < wr.heap.size := fun q hq => (F.oo.lt q hq).2
        have F2 := F.below Bx
        have B2 := B.trans (Bx.mono B.size)
        have zb := B2.size
        have zr := B.size
        have okl := OL.out
        have lvR : ¬ wr.heap.size = g := by omega
        clear F B Bx
        generalize wr.heap.size = lb at *
        go_wp2_with (at_builtin; (refine wpList_appK (wr := wc) rfl (.tmp 22) (.tmp 24) rfl (w.heap.size + 1) _ _ _ _ rfl F2.oo rfl (by omega) (by omega) (by omega) ?_; intro v3 w3 q3 g3 l3))
        have cv3 : w3.cell? ⟨lb, 0, none⟩ = some (.int .i64 (y + M)) := (World.cell?_of_block (g3.block lb (by omega) (fun e => by have := ok _ e.symm; omega))).trans cv
        have F3 := F2.app q3 g3 l3 (by omega)
        have B3 := B2.trans ((below_row F2.oo g3 (by omega)).mono (by omega))
        have CB : CloB w3 w.heap.size lb L M (y + M) := ⟨F3.c0, F3.c1, cv3⟩
        have HB : ∀ j, j < (y :: ys).length → 0 ≤ (y :: ys).getD j 0 ∧ (y :: ys).getD j 0 ≤ 2000 := fun j hj => by
          have m1 := getD_mem hj
          rw [← HQ.out] at m1
          obtain ⟨i, hi, ei⟩ := mem_getD (P.out.mem_iff.1 (List.mem_filter.1 m1).1)
          have := HX.out i hi
          rw [ei, HQ.out] at this
          omega
        have DC := Lib.hid (delete_c w.heap.size lb L M (y + M) g (w.heap.size + 1) (y :: ys).length c1 (y :: ys) w3 rfl (by have a := P.out.length_eq; have b := List.length_filter_le (unS L M out) zs; rw [HQ.out] at b; omega) F3.ol CB (by omega) (by omega) (by omega) (by omega) HB)
        have e2 : (y :: ys).filter (fun e => !suitP L M (y + M) e) = zs.filter (unS L M (out ++ [y + M])) := by rw [← HQ.out, filter_snoc]
        have lt2 : (zs.filter (unS L M (out ++ [y + M]))).length < (y :: ys).length := by
          have a := (P.out.filter (unS L M (out ++ [y + M]))).length_eq
          have b := PF.out
          have d := CS.out
          rw [HQ.out] at b
          unfold cntU at d
          omega
        rw [e2] at DC
        have LT := Lib.hid lt2
        clear cv cv3 F2 q3 g3 l3 CB HB e2 lt2 B2 ok
        go_wp2_with fail
        refine DC.out.mono ?_
        rintro e w4 ⟨rfl, o4, g4⟩
        have F4 := F3.del o4 g4
        have B4 := B3.grown g4 (by have := B3.size; omega) (fun q hq => by have := Option.some.inj hq; omega)
        clear F3 o4 g4 DC B3
        go_wp2
        go_roundw
        case rel => exact ⟨k, out ++ [y + M], _, IH.out, rfl, rfl, F4, B4⟩
        case measure => exact LT.out
set_option maxHeartbeats 1000000 in
theorem implFew_c (A : Option Addr) (c : Nat) (xs : List Int) (L M : Int) (w : World) (h : RdI w w.heap.size A xs) (hnil : A = none → c = 0) (hm0 : xs.length ≤ 1048576) :
    Calls Try.prog 37 #[.slice A xs.length c, .agg #[.int .i64 L, .int .i64 M]] w (RetI w (fewL xs L M).1 (fun v => .tuple #[v, .bool (fewL xs L M).2])) := by
  have hm : xs.length ≤ 4611686018427387904 := by omega
  cases h1 : goodZ xs L M
  · rw [fewL_no h1]
    go_enter Try.func37, Try.ntmps37
    go_wp2_with (go_at_call 50; refine (canZone_c _ _ _ _ _ _ (h.alloc (Nat.le_refl _) _) (by simp) hm).mono ?_; rintro e w1 ⟨rfl, hb1⟩; have hz1 := hb1.size; (repeat (first | rw [World.size_alloc] at hz1 | rw [World.size_drew] at hz1 | rw [World.heap_drewN] at hz1 | rw [World.size_setCell] at hz1)); have hB : Below w.heap.size w w1 := Below.trans (by (repeat' (first | (with_reducible exact Below.refl _ _) | (with_reducible assumption) | (with_reducible refine below_drewN ?_ _) | (with_reducible refine Below.alloc ?_ ?_ _) | (with_reducible refine Below.drew ?_) | (with_reducible refine Below.setCell ?_ ?_ _) | go_size))) (hb1.mono (by go_size)); have hL1 := hb1; clear hb1; obtain ⟨hc1, hf1⟩ := bcell hL1)
    go_ret2
    exact ⟨none, 0, rfl, OwnI.nil _ _, by (repeat' (first | (with_reducible exact Below.refl _ _) | (with_reducible assumption) | (with_reducible refine below_drewN ?_ _) | (with_reducible refine Below.alloc ?_ ?_ _) | (with_reducible refine Below.drew ?_) | (with_reducible refine Below.setCell ?_ ?_ _) | go_size))⟩
  · rw [fewL_yes h1]
    have H1 := Lib.hid h1
    go_enter Try.func37, Try.ntmps37
    go_wp2_with fail
    refine (canZone_c _ _ _ _ _ _ (h.alloc (Nat.le_refl _) _) (by simp) hm).mono ?_
    rintro e w1 ⟨rfl, hb1⟩
    have B1 : Below w.heap.size w w1 := ((Below.refl _ _).alloc (Nat.le_refl _) _).trans (hb1.mono (by simp))
    have c0 : w1.cell? ⟨w.heap.size, 0, none⟩ = some (.int .i64 L) := (hb1.cell (p := ⟨w.heap.size, 0, none⟩) (by simp)).trans (by simp [go_sem])
    have c1 : w1.cell? ⟨w.heap.size, 1, none⟩ = some (.int .i64 M) := (hb1.cell (p := ⟨w.heap.size, 1, none⟩) (by simp)).trans (by simp [go_sem])
    have r1 := (h.below B1).more B1.size
    clear hb1
    go_wp2_with fail
    refine (implFewS_c A c xs L M w1 r1 hnil H1.out).mono ?_
    rintro e w2 ⟨A2, c2, rfl, o2, hb2⟩
    have B2 := B1.trans (hb2.mono B1.size)
    have O2 := Lib.hid (o2.weak B1.size)
    clear o2 hb2 r1 h
    go_wp2
    go_ret2
    exact ⟨A2, c2, rfl, O2.out, B2⟩
end Go.Proofs.Ytakpoalcfjedlaa
