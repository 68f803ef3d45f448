/- Contracts: FewestLevels of the reference. -/
import Derived.Test.YtakpoalcfjedlaaZFewI
import Derived.Test.YtakpoalcfjedlaaAfter
namespace Go.Proofs.Ytakpoalcfjedlaa
open Go.RowKit

/-- The reference's state. -/
structure LevW (wr : World) (R B : Nat) (A : Option Addr) (L M : Int) (xs : List Int) (ov : Value) (out : List Int) : Prop where
  oo : OwnI wr (R + 1) ov out
  rd : RdI wr B A xs
  c0 : wr.cell? ⟨R, 0, none⟩ = some (.int .i64 L)
  c1 : wr.cell? ⟨R, 1, none⟩ = some (.int .i64 M)
  hB : B ≤ R
theorem LevW.below {wr w' : World} {R B : Nat} {A : Option Addr} {L M : Int} {xs : List Int} {ov : Value} {out : List Int} (h : LevW wr R B A L M xs ov out) (hb : Below wr.heap.size wr w') : LevW w' R B A L M xs ov out :=
  ⟨h.oo.below hb, h.rd.below (hb.mono (by have l : R < wr.heap.size := lt_of_cell (w := wr) (a := ⟨R, 0, none⟩) (by rw [h.c0]; rfl); have := h.hB; show B ≤ wr.heap.size; omega)), (hb.cell (lt_of_cell (by rw [h.c0]; rfl))).trans h.c0, (hb.cell (lt_of_cell (by rw [h.c1]; rfl))).trans h.c1, h.hB⟩
theorem LevW.app {wr w' : World} {R B : Nat} {A : Option Addr} {L M : Int} {xs : List Int} {ov ov' : Value} {out out' : List Int} (h : LevW wr R B A L M xs ov out) (o : OwnI w' (R + 1) ov' out') (hg : wr.grownBy w' ov.ownBlock) : LevW w' R B A L M xs ov' out' := by
  have r : ∀ q, ov.ownBlock = some q → R < q := fun q hq => by have := (h.oo.lt q hq).1; omega
  have hB := h.hB
  have lt := lt_of_cell (w := wr) (a := ⟨R, 0, none⟩) (by rw [h.c0]; rfl)
  exact ⟨o, h.rd.keep (fun p hp => World.cell?_of_block (hg.block p.block (by have : R < wr.heap.size := lt; omega) (fun e => by have := r _ e.symm; omega))), few_cell hg r h.c0, few_cell hg r h.c1, hB⟩
set_option maxRecDepth 100000 in
set_option maxHeartbeats 4000000 in
theorem l12Levels_c (A : Option Addr) (c : Nat) (xs : List Int) (L M : Int) (w : World) (h : RdI w w.heap.size A xs) (hg : goodZ xs L M = true) :
    Calls Try.prog 63 #[.slice A xs.length c, .agg #[.int .i64 L, .int .i64 M]] w (RetI w (fewS L M xs) id) := by
  have hgz : goodL xs = true ∧ goodR L M = true := by unfold goodZ at hg; simpa using hg
  obtain ⟨gl, gr⟩ := hgz
  obtain ⟨n12, hx⟩ := goodL_out gl
  obtain ⟨r1, r2, r3⟩ := goodR_out gr
  have HX := Lib.hid hx
  have GR := Lib.hid gr
  have H := Lib.hid h
  clear h hg gl gr hx
  go_enter Try.func63, Try.ntmps63
  go_upto_region 2 with (fail)
  obtain ⟨w0, hW⟩ : ∃ W, W = (w.alloc (.cells #[.int .i64 L, .int .i64 M] 33)).alloc (.cells #[] 3) := ⟨_, rfl⟩
  rw [← hW]
  have B0 : Below w.heap.size w w0 := by rw [hW]; exact ((Below.refl _ _).alloc (Nat.le_refl _) _).alloc (by simp) _
  have L0 : LevW w0 w.heap.size w.heap.size A L M xs (.slice (some ⟨w.heap.size + 1, 0, none⟩) 0 0) [] := by
    refine ⟨?_, H.out.below B0, ?_, ?_, Nat.le_refl _⟩
    · rw [hW]; exact own_empty2 w _ _ (Nat.le_refl _)
    · rw [hW]; simp [go_sem]
    · rw [hW]; simp [go_sem]
  clear hW H
  go_wp2
  go_loopw [5, 6, 7, 8, 9] (fun ov _ _ _ _ wr => ∃ (m : Nat) (out : List Int) (v : Value), FewI L M xs m out ∧ v = ov ∧ LevW wr w.heap.size w.heap.size A L M xs v out ∧ Below w.heap.size w wr) (fun ov _ _ _ _ _ => xs.length + 1 - lenOf ov)
  case atStart => exact ⟨xs.length, [], _, FewI.start L M xs, rfl, L0, B0⟩
  case round =>
    clear L0 B0
    obtain ⟨m, out, v, I, rfl, V, B⟩ := hrel
    obtain ⟨Ao, co, rfl⟩ := V.oo.shape
    have ol := I.len
    have IB := Lib.hid (fun k (hk : k < out.length) => I.at_ hk)
    have IH := Lib.hid I
    clear I
    have VB := Lib.hid (And.intro V B)
    clear V B
    go_wp2
    go_loopw [6, 7, 8, 9] (fun lo iv _ _ wr => ∃ k : Nat, k ≤ xs.length ∧ iv = .int .i64 k ∧ lo = .int .i64 (lowU L M out xs k) ∧ LevW wr w.heap.size w.heap.size A L M xs (.slice Ao out.length co) out ∧ Below w.heap.size w wr) (fun _ iv _ _ _ => xs.length - (intOf iv).toNat)
    case atStart => exact ⟨0, by omega, rfl, rfl, VB.out.1, VB.out.2⟩
    case round =>
      clear VB
      obtain ⟨k, hk, rfl, rfl, V, B⟩ := hrel
      have lb := lowU_b (L := L) (M := M) (out := out) HX.out k hk
      by_cases hlt : k < xs.length
      · have hi : (k : Int) < (xs.length : Int) := by omega
        have Wk : IntKind.i64.wrap ((k : Int) + 1) = (k : Int) + 1 := IntWalk.i64_in _ (by omega)
        have xb := HX.out k hlt
        obtain ⟨x, hx⟩ : ∃ x, x = xs.getD k 0 := ⟨_, rfl⟩
        rw [← hx] at xb
        have XH := Lib.hid hx
        have VB := Lib.hid (And.intro V B)
        clear V B hx
        go_wp2
        go_loopw [8, 9] (fun sv qv wr => ∃ q : Nat, q ≤ out.length ∧ qv = .int .i64 q ∧ sv = .bool (sK L M out x q) ∧ LevW wr w.heap.size w.heap.size A L M xs (.slice Ao out.length co) out ∧ Below w.heap.size w wr) (fun _ qv _ => out.length - (intOf qv).toNat)
        case atStart => exact ⟨0, by omega, rfl, rfl, VB.out.1, VB.out.2⟩
        case round =>
          clear VB
          obtain ⟨q, hq, rfl, rfl, V, B⟩ := hrel
          by_cases hql : q < out.length
          · have hqi : (q : Int) < (out.length : Int) := by omega
            have Wq : IntKind.i64.wrap ((q : Int) + 1) = (q : Int) + 1 := IntWalk.i64_in _ (by omega)
            cases sk : sK L M out x q
            · obtain ⟨b, off, x', hA, hx', hb, hc⟩ := V.rd.at_ hlt
              subst hA
              obtain rfl : x' = x := hx'.trans XH.out.symm
              obtain ⟨b2, off2, l, hA, hl, hb2, hc2⟩ := V.oo.rd.at_ hql
              subst hA
              have lb2 := IB.out q hql
              rw [← hl] at lb2
              have sn := sK_next sk hl
              have SN := Lib.hid sn
              have LC := Lib.hid (fun s : World => l12Suits_c L M l x' s (by omega) (by omega) (by omega) (by omega))
              have c0 := V.c0
              have c1 := V.c1
              have VH := Lib.hid V
              clear V hx' hl sn
              go_upto_region 10 with (fail)
              (refine wp_region_after (by kernel_rfl) (by kernel_rfl) (fun hAf => ?_); (repeat (go_big_quiet_step (first | (go_at_call 65; exact callsAfter (LC.out _))))); refine wpQuiet_nil ?_; intro w1 hw'; have hb1 := after_out hw'; clear hw' hAf)
              have V1 := VH.out.below hb1
              have B1 := B.trans (hb1.mono B.size)
              clear B c0 c1 hb1 hc hc2
              go_wp2
              go_roundw
              case rel => exact ⟨q + 1, by omega, by go_num, by rw [SN.out], V1, B1⟩
              case measure => simp [intOf]; omega
            · have sn := sK_yes sk
              have SN := Lib.hid sn
              have VH := Lib.hid V
              clear V sn
              go_upto_region 10 with (fail)
              (refine wp_region_after (by kernel_rfl) (by kernel_rfl) (fun hAf => ?_); (repeat (go_big_quiet_step (first | (fail)))); refine wpQuiet_nil ?_; intro w1 hw'; have hb1 := after_out hw'; clear hw' hAf)
              have V1 := VH.out.below hb1
              have B1 := B.trans (hb1.mono B.size)
              clear B hb1
              go_wp2
              go_roundw
              case rel => exact ⟨q + 1, by omega, by go_num, by rw [SN.out], V1, B1⟩
              case measure => simp [intOf]; omega
          · obtain rfl : q = out.length := by omega
            have un := sK_all L M out x
            obtain ⟨b, off, x', hA, hx', hb, hc⟩ := V.rd.at_ hlt
            subst hA
            obtain rfl : x' = x := hx'.trans XH.out.symm
            have low : lowU L M out xs (k + 1) = if unS L M out (xs.getD k 0) = true ∧ (lowU L M out xs k < 0 ∨ xs.getD k 0 < lowU L M out xs k) then xs.getD k 0 else lowU L M out xs k := rfl
            rw [← XH.out, ← un] at low
            have LOW := Lib.hid low
            have VH := Lib.hid V
            clear V low un hx'
            generalize lowU L M out xs k = lo at *
            cases su : sK L M out x' out.length
            · rw [su] at LOW
              by_cases l0 : lo < 0
              · have L2 := Lib.hid (LOW.out.trans (if_pos ⟨rfl, .inl l0⟩))
                have d0 : decide (lo < 0) = true := decide_eq_true l0
                clear LOW
                go_wp2
                go_roundw
                case rel => exact ⟨k + 1, by omega, by go_num, by rw [L2.out], VH.out, B⟩
                case measure => simp [intOf]; omega
              · have d0 : decide (lo < 0) = false := decide_eq_false l0
                by_cases l1 : x' < lo
                · have L2 := Lib.hid (LOW.out.trans (if_pos ⟨rfl, .inr l1⟩))
                  have d1 : decide (x' < lo) = true := decide_eq_true l1
                  clear LOW
                  go_wp2
                  go_roundw
                  case rel => exact ⟨k + 1, by omega, by go_num, by rw [L2.out], VH.out, B⟩
                  case measure => simp [intOf]; omega
                · have L2 := Lib.hid (LOW.out.trans (if_neg (fun h => h.2.elim l0 l1)))
                  have d1 : decide (x' < lo) = false := decide_eq_false l1
                  clear LOW
                  go_wp2
                  go_roundw
                  case rel => exact ⟨k + 1, by omega, by go_num, by rw [L2.out], VH.out, B⟩
                  case measure => simp [intOf]; omega
            · rw [su] at LOW
              have L2 := Lib.hid (LOW.out.trans (if_neg (fun h => by cases h.1)))
              clear LOW
              go_wp2
              go_roundw
              case rel => exact ⟨k + 1, by omega, by go_num, by rw [L2.out], VH.out, B⟩
              case measure => simp [intOf]; omega
      · obtain rfl : k = xs.length := by omega
        by_cases l0 : lowU L M out xs xs.length < 0
        · have er := IH.out.stop l0
          have ER := Lib.hid er
          have VH := Lib.hid V
          clear er V
          go_wp2
          go_returns
          exact ⟨Ao, co, by rw [← ER.out]; rfl, by rw [← ER.out]; exact VH.out.oo.weak (by omega), B⟩
        · obtain ⟨k2, hm, I2⟩ := IH.out.next GR.out HX.out (by omega)
          have l2 := I2.len
          rw [List.length_append] at l2
          have IH2 := Lib.hid I2
          have zr := B.size
          have lt : w.heap.size < wr.heap.size := lt_of_cell (w := wr) (a := ⟨w.heap.size, 0, none⟩) (by rw [V.c0]; rfl)
          have c0 := V.c0
          have c1 := V.c1
          have l3 := (lowU_b (L := L) (M := M) (out := out) HX.out xs.length (Nat.le_refl _)).2
          clear I2 IH lb
          generalize lowU L M out xs xs.length = lo at *
          have Wl : IntKind.i64.wrap (lo + M) = lo + M := IntWalk.i64_in _ (by omega)
          go_wp2_with (at_builtin; (refine wpList_appK (wr := wr) rfl (.tmp 57) (.tmp 62) rfl (w.heap.size + 1) _ _ _ _ rfl V.oo rfl rfl (by omega) (by omega) ?_; intro v3 w3 q3 g3 l3'))
          have V3 := V.app q3 g3
          have B3 := B.trans ((below_row V.oo g3 (by omega)).mono (by omega))
          obtain ⟨Aq, cq, hv⟩ := q3.shape
          subst hv
          clear V q3 g3 l3' B
          go_roundw
          case rel => exact ⟨k2, out ++ [lo + M], _, IH2.out, rfl, V3, B3⟩
          case measure => simp [lenOf]; omega
set_option maxHeartbeats 1000000 in
theorem specFew_c (A : Option Addr) (c : Nat) (xs : List Int) (L M : Int) (w : World) (h : RdI w w.heap.size A xs) (hm0 : xs.length ≤ 1048576) :
    Calls Try.prog 36 #[.slice A xs.length c, .agg #[.int .i64 L, .int .i64 M]] w (RetI w (fewL xs L M).1 (fun v => .tuple #[v, .bool (fewL xs L M).2])) := by
  have hm : xs.length ≤ 4611686018427387904 := by omega
  cases h1 : goodZ xs L M
  · rw [fewL_no h1]
    go_enter Try.func36, Try.ntmps36
    go_wp2_with fail
    refine (l12Asked_c _ _ _ _ _ _ (h.alloc (Nat.le_refl _) _) (by simp) hm).mono ?_
    rintro e w1 ⟨rfl, hb1⟩
    have B1 : Below w.heap.size w w1 := ((Below.refl _ _).alloc (Nat.le_refl _) _).trans (hb1.mono (by simp))
    have z1 := B1.size
    clear hb1 h
    go_wp2
    go_ret2
    exact ⟨some ⟨w1.heap.size, 0, none⟩, 0, rfl, own_empty w1 _ z1, B1.alloc z1 _⟩
  · rw [fewL_yes h1]
    have H1 := Lib.hid h1
    go_enter Try.func36, Try.ntmps36
    go_wp2_with fail
    refine (l12Asked_c _ _ _ _ _ _ (h.alloc (Nat.le_refl _) _) (by simp) hm).mono ?_
    rintro e w1 ⟨rfl, hb1⟩
    have B1 : Below w.heap.size w w1 := ((Below.refl _ _).alloc (Nat.le_refl _) _).trans (hb1.mono (by simp))
    have c0 : w1.cell? ⟨w.heap.size, 0, none⟩ = some (.int .i64 L) := (hb1.cell (p := ⟨w.heap.size, 0, none⟩) (by simp)).trans (by simp [go_sem])
    have c1 : w1.cell? ⟨w.heap.size, 1, none⟩ = some (.int .i64 M) := (hb1.cell (p := ⟨w.heap.size, 1, none⟩) (by simp)).trans (by simp [go_sem])
    have r1 := (h.below B1).more B1.size
    clear hb1
    go_wp2_with fail
    refine (l12Levels_c A c xs L M w1 r1 H1.out).mono ?_
    rintro e w2 ⟨A2, c2, rfl, o2, hb2⟩
    have B2 := B1.trans (hb2.mono B1.size)
    have O2 := Lib.hid (o2.weak B1.size)
    clear o2 hb2 r1 h
    go_wp2
    go_ret2
    exact ⟨A2, c2, rfl, O2.out, B2⟩
end Go.Proofs.Ytakpoalcfjedlaa
