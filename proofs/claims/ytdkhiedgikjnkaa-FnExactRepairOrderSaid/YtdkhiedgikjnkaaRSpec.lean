/- Contracts: the order of repairs, the reference. -/
import Derived.Test.YtdkhiedgikjnkaaRSort
import Derived.Maps.AppendAt
namespace Go.Proofs.Ytdkhiedgikjnkaa
open Go.RowKit

theorem wp_appIs {wr : World} {B : Nat} {o : Oper} {a : Act} {K : Act → World → Prop} {Q : Exit → Act → World → Prop} (s x : Operand)
    (ho : o.op = .call { callee := .builtin .append, args := #[s, x], argTypes := #[22, 22] }) (base : Nat) (v : Value) (ad : Addr) (c : Nat) (xs ys : List Int)
    (hs : a.eval s = v) (hown : OwnI wr base v xs) (hx : a.eval x = .slice (some ad) ys.length c) (hrd : RdI wr B (some ad) ys) (hlen : xs.length ≤ 65536) (hlen2 : ys.length ≤ 1048576) (hbase : base ≤ wr.heap.size)
    (h : ∀ v' w', OwnI w' base v' (xs ++ ys) → wr.grownBy w' v.ownBlock → (v'.ownBlock = v.ownBlock ∨ v'.ownBlock = some wr.heap.size) → K (a.put o.dst v') w') : o.wp Try.prog a wr K Q := by
  obtain ⟨i0, hi, hz0, hz1, hz2⟩ := info_parts Try.infoInt
  obtain ⟨v', w', hr, h2, h3, _, h5⟩ := run_append_own_at (P := Try.prog) wr base 22 o.type 3 i0 (.int .i64 0) 1 8 Try.underlying22 hi hz0 hz1 hz2 rfl (by decide) v xs.length (xs.map (Value.int .i64)) hown ad ys.length c (ys.map (Value.int .i64)) (by simp) (by
    intro j u hj
    have hj2 : j < ys.length := by
      have := (List.getElem?_eq_some_iff.1 hj).1
      simpa using this
    obtain ⟨b, off, hA', _, hc⟩ := hrd (by omega)
    simp only [Option.some.injEq] at hA'
    subst hA'
    have hadd : (⟨b, off, none⟩ : Addr).add j = ⟨b, off + j, none⟩ := by unfold Addr.add; split <;> simp_all
    rw [hadd, hc j hj2]
    simp [hj2] at hj
    rw [← hj]
    simp [List.getD_eq_getElem?_getD, hj2]) (fun u hu => by
    obtain ⟨z, _, rfl⟩ := List.mem_map.1 hu
    rfl) (by unfold maxLen; omega) (by omega) hbase
  unfold Oper.wp execOp
  simp only [ho, resolve, invoke, builtin, Sem.run_bind, Sem.run_pure, Result.andThen_ok, List.map_toArray, List.map_cons, List.map_nil, hs, hx, hr]
  refine h v' w' ?_ h3 h5
  unfold OwnI
  rw [List.map_append, List.length_append]
  exact h2
theorem RdI.drop {w : World} {B b off : Nat} {xs : List Int} (h : RdI w B (some ⟨b, off, none⟩) xs) (k : Nat) : RdI w B (some ⟨b, off + k, none⟩) (xs.drop k) := fun hp => by
  rw [List.length_drop] at hp
  obtain ⟨b', off', e, hb, hc⟩ := h (by omega)
  simp only [Option.some.injEq, Addr.mk.injEq, and_true] at e
  obtain ⟨rfl, rfl⟩ := e
  refine ⟨b, off + k, rfl, hb, fun j hj => ?_⟩
  rw [List.length_drop] at hj
  rw [Nat.add_assoc, hc (k + j) (by omega)]
  simp [List.getD_eq_getElem?_getD]
theorem RdI.lone {w : World} {L : Nat} {y : Int} (c : w.cell? ⟨L, 0, none⟩ = some (.int .i64 y)) : RdI w (L + 1) (some ⟨L, 0, none⟩) [y] := fun _ => by
  refine ⟨L, 0, rfl, by omega, fun j hj => ?_⟩
  match j, hj with
  | 0, _ => exact c
theorem step_appIs {wr : World} {B : Nat} {ops : Array Oper} {o : Oper} {a : Act} {K : Act → World → Prop} {Q : Exit → Act → World → Prop} {E : Prop} (hgd : o.guard = none) (s x : Operand)
    (ho : o.op = .call { callee := .builtin .append, args := #[s, x], argTypes := #[22, 22] }) (base : Nat) (v : Value) (ad : Addr) (c : Nat) (xs ys : List Int)
    (hs : a.eval s = v) (hown : OwnI wr base v xs) (hx : a.eval x = .slice (some ad) ys.length c) (hrd : RdI wr B (some ad) ys) (hlen : xs.length ≤ 65536) (hlen2 : ys.length ≤ 1048576) (hbase : base ≤ wr.heap.size)
    (h : ∀ v' w', OwnI w' base v' (xs ++ ys) → wr.grownBy w' v.ownBlock → (v'.ownBlock = v.ownBlock ∨ v'.ownBlock = some wr.heap.size) → OwnI wr base v xs → K (a.put o.dst v') w') :
    if Region.wanted o (yielded ops a.tmps) = true then Oper.wp Try.prog o a wr K Q else E := by
  have hw : Region.wanted o (yielded ops a.tmps) = true := by simp [Region.wanted, hgd]
  rw [if_pos hw]
  exact wp_appIs s x ho base v ad c xs ys hs hown hx hrd hlen hlen2 hbase fun v' w' h1 h2 h3 => h v' w' h1 h2 h3 hown
theorem OwnI.rdN {w : World} {base g n cap : Nat} {xs : List Int} (h : OwnI w base (.slice (some ⟨g, 0, none⟩) n cap) xs) (hn : xs.length = n) : RdI w w.heap.size (some ⟨g, 0, none⟩) xs := by subst hn; exact h.rd
theorem OwnI.capN {w : World} {base n cap : Nat} {A : Option Addr} {xs : List Int} (h : OwnI w base (.slice A n cap) xs) (hn : xs.length = n) : n ≤ cap := by
  subst hn
  rcases h.2 with ⟨hv, h0⟩ | ⟨g, cap', cur, hv, _, _, hc, _⟩
  · omega
  · simp only [Value.slice.injEq] at hv
    omega
theorem below_app {w0 w w' : World} {base : Nat} {v : Value} {xs : List Int} (h : Below w0.heap.size w0 w) (g : w.grownBy w' v.ownBlock) (o : OwnI w base v xs) (hb : w0.heap.size ≤ base) : Below w0.heap.size w0 w' :=
  h.trans ⟨g.os, g.tape, g.output, g.size, fun k hk => g.block k (Nat.lt_of_lt_of_le hk h.size) (fun e => by have := (o.lt k e.symm).1; omega)⟩
theorem cell_kept {w w' : World} {row : Option Nat} {L : Nat} {u : Value} (g : w.grownBy w' row) (c : w.cell? ⟨L, 0, none⟩ = some u) (n : some L ≠ row) : w'.cell? ⟨L, 0, none⟩ = some u :=
  (World.cell?_of_block (g.block L (lt_of_cell (a := ⟨L, 0, none⟩) (by rw [c]; rfl)) n)).trans c
set_option maxHeartbeats 2000000 in
theorem specOrder_c {B B' : Nat} (A A' : Option Addr) (c c' : Nat) (ls hs : List Int) (w : World) (h : RdI w B A ls) (h' : RdI w B' A' hs) (hS1 : B ≤ w.heap.size) (hS2 : B' ≤ w.heap.size) (hm : ls.length ≤ 4611686018427387904) :
    Calls Try.prog 36 #[.slice A ls.length c, .slice A' hs.length c'] w (RetI w (repO ls hs).1 (fun v => .tuple #[v, .bool (repO ls hs).2])) := by
  have rep := fun s (q1 : RdI s s.heap.size A ls) (q2 : RdI s s.heap.size A' hs) => l17Repairs_c A A' c c' ls hs s q1 q2 hm
  have R1 := h.more hS1
  have R2 := h'.more hS2
  have E1 : RdI (w.alloc (.cells #[] 3)) (w.alloc (.cells #[] 3)).heap.size A ls := (R1.alloc (Nat.le_refl _) _).more (by simp)
  have E2 : RdI (w.alloc (.cells #[] 3)) (w.alloc (.cells #[] 3)).heap.size A' hs := (R2.alloc (Nat.le_refl _) _).more (by simp)
  have O0 := own_empty w w.heap.size (Nat.le_refl _)
  clear h h' hS1 hS2
  cases g : repG ls hs
  · simp only [g] at rep
    rw [repO_no g]
    have REP := Lib.hid rep
    have OO := Lib.hid O0
    clear rep g O0
    go_enter Try.func36, Try.ntmps36
    go_wp2_with (go_at_call 49; refine (REP.out _ E1 E2).mono ?_; rintro e w' ⟨rfl, rfl⟩)
    go_returns
    exact ⟨_, _, rfl, OO.out, by (repeat' (first | (with_reducible exact Below.refl _ _) | (with_reducible assumption) | (with_reducible refine below_drewN ?_ _) | (with_reducible refine Below.alloc ?_ ?_ _) | (with_reducible refine Below.drew ?_) | (with_reducible refine Below.setCell ?_ ?_ _) | go_size))⟩
  · simp only [g] at rep
    rw [repO_yes g]
    have REP := Lib.hid rep
    have OO := Lib.hid O0
    obtain ⟨n10, nq, hb⟩ := repG_out g
    have NQ := Lib.hid nq
    have HB := Lib.hid hb
    have r1 := Lib.hid R1
    have r2 := Lib.hid R2
    clear rep g O0 nq hb R1 R2
    go_enter Try.func36, Try.ntmps36
    go_wp2_with (go_at_call 49; refine (REP.out _ E1 E2).mono ?_; rintro e w' ⟨rfl, rfl⟩)
    clear E1 E2 REP
    have B0 : Below w.heap.size w (w.alloc (.cells #[] 3)) := by (repeat' (first | (with_reducible exact Below.refl _ _) | (with_reducible assumption) | (with_reducible refine below_drewN ?_ _) | (with_reducible refine Below.alloc ?_ ?_ _) | (with_reducible refine Below.drew ?_) | (with_reducible refine Below.setCell ?_ ?_ _) | go_size))
    go_loopw [6, 7, 8] (fun o iv _ wr => ∃ (i gb cap : Nat), i ≤ ls.length ∧ iv = .int .i64 i ∧ o = .slice (some ⟨gb, 0, none⟩) i cap ∧ OwnI wr w.heap.size (.slice (some ⟨gb, 0, none⟩) i cap) (rowR (ordR ls hs i) i) ∧ Below w.heap.size w wr) (fun _ iv _ _ => ls.length - (intOf iv).toNat)
    case atStart => exact ⟨0, _, _, by omega, rfl, rfl, OO.out, B0⟩
    case round =>
      clear OO B0
      obtain ⟨i, gb, cap, hin, rfl, rfl, own, BX⟩ := hrel
      by_cases hlt : i < ls.length
      · have hi : (i : Int) < (ls.length : Int) := by omega
        have hi2 : (i : Int) < (hs.length : Int) := by have := NQ.out; omega
        have i0 : (0 : Int) ≤ i := by omega
        have W1 : IntKind.i64.wrap ((i : Int) + 1) = (i : Int) + 1 := IntWalk.i64_in _ (by omega)
        have ob := ordR_b ls hs (n := ls.length) i (by omega)
        have os : ordR ls hs (i + 1) = putR (ordR ls hs i) i (posR ls hs (ordR ls hs i) i i) := rfl
        have OB := Lib.hid ob
        have OS := Lib.hid os
        have OW := Lib.hid own
        clear own ob os
        generalize ordR ls hs i = f at *
        go_wp2
        go_loopw [8] (fun kv wx => ∃ j : Nat, j ≤ i ∧ kv = .int .i64 j ∧ posR ls hs f i i = posR ls hs f i j ∧ Below wr.heap.size wr wx) (fun kv _ => (intOf kv).toNat)
        case atStart => exact ⟨i, by omega, rfl, rfl, Below.refl _ _⟩
        case round =>
          obtain ⟨j, hj, rfl, hp, bx⟩ := hrel
          by_cases hj0 : j = 0
          · subst hj0
            rw [posR] at hp
            have HP := Lib.hid hp
            clear hp
            go_wp2_with fail
            go_quiet (fail)
            obtain ⟨p, hpe⟩ : ∃ p, p = 0 := ⟨_, rfl⟩
            have hpi : p ≤ i := by omega
            have HQQ : posR ls hs f i i = p := by rw [hpe]; exact HP.out
            have ow3 := OW.out.below bx
            have ow4 : OwnI (wr.drewN nq) w.heap.size (.slice (some ⟨gb, 0, none⟩) i cap) (rowR f i) := ow3
            have BW4 : Below w.heap.size w (wr.drewN nq) := below_drewN (BX.trans (bx.mono BX.size)) nq
            have hcap : i ≤ cap := ow4.capN (rowR_len _ _)
            have RT : RdI (wr.drewN nq) (wr.drewN nq).heap.size (some ⟨gb, 0, none⟩) (rowR f p) := by rw [← rowR_take f (n := i) hpi]; exact (ow4.rdN (rowR_len _ _)).take _
            have RD : RdI (wr.drewN nq) (wr.drewN nq).heap.size (some ⟨gb, p, none⟩) ((rowR f i).drop p) := by have := (ow4.rdN (rowR_len _ _)).drop p; rw [Nat.zero_add] at this; exact this
            have hld : ((rowR f i).drop p).length = i - p := by rw [List.length_drop, rowR_len]
            have RDZ : i ≤ p → ∀ W B ad, RdI W B ad ((rowR f i).drop p) := fun hq W B ad hp => absurd hp (by rw [hld]; omega)
            have ins := rowR_ins f (i := i) (k := p) hpi
            rw [rowR_take f hpi] at ins
            have OS2 : ordR ls hs (i + 1) = putR f i p := by rw [OS.out, HQQ]
            have INS := Lib.hid ins
            have OSS := Lib.hid OS2
            clear ow3 ow4 ins OS2 bx BX OW HP HQQ OB OS
            generalize wr.drewN nq = w4 at *
            go_upto_region 10 with (fail)
            rw [show ((0 : Nat) : Int) = (p : Int) by omega]
            clear hpe
            have pc : (p : Int) ≤ (cap : Int) := by omega
            have pcn : p ≤ cap := by omega
            have p0 : (0 : Int) ≤ p := by omega
            have pii : (p : Int) ≤ (i : Int) := by omega
            have Wp : IntKind.i64.wrap (p : Int) = p := IntWalk.i64_in _ (by omega)
            rcases (show ¬ cap = p ∨ p = cap by omega) with hcp | hcp
            rotate_left
            · subst hcp
              go_region_held3 (fun w' => Below w4.heap.size w4 w')
                (first
                  | exact (Below.refl w4.heap.size w4).drew
                  | exact Below.alloc (by assumption) (by have := (‹Below w4.heap.size w4 _›).size; omega) _
                  | exact below_app (by assumption) hg3 hq3 (by omega)
                  | exact below_app (by assumption) hg2 hq2 (by omega)
                  | exact below_app (by assumption) hg1 hq1 (by omega))
                (first
                  | (refine step_appIs rfl (.tmp 56) (.tmp 59) (by rfl) w4.heap.size (.slice (some ⟨_, 0, none⟩) 0 0) _ _ [] (rowR f p) (by rfl) (by first | exact own_empty w4 w4.heap.size (Nat.le_refl _) | exact (own_empty w4 w4.heap.size (Nat.le_refl _)).alloc _ | exact own_empty2 w4 _ w4.heap.size (by omega)) (by rw [rowR_len]; rfl) (RT.below (by assumption)) (by simp) (by rw [rowR_len]; omega) ((‹Below w4.heap.size w4 _›).size) ?_; intro v1 w1 ho1 hg1 hl1 hq1; have sz1 := hg1.size)
                  | (refine step_appIs rfl (.tmp 60) (.tmp 62) (by rfl) w4.heap.size v1 _ _ _ [(i : Int)] (by rfl) (by first | exact ho1 | exact ho1.alloc _) (by rfl) (by first | exact RdI.lone (by simp [go_sem]; done) | exact RdI.lone (cell_kept hg1 (by simp [go_sem]; done) (by simp [Value.ownBlock]; done))) (by simp [rowR_len]; omega) (by simp) ((‹Below w4.heap.size w4 _›).size) ?_; intro v2 w2 ho2 hg2 hl2 hq2)
                  | (refine step_appIs rfl (.tmp 63) (.tmp 66) (by rfl) w4.heap.size v2 _ _ _ ((rowR f i).drop p) (by rfl) ho2 (by first | (rw [hld]; rfl) | (rw [hld, show i - p = 0 by omega]; rfl)) (by first | exact RD.below (by assumption) | exact RDZ (by omega) _ 0 _) (by simp [rowR_len]; omega) (by rw [hld]; omega) ((‹Below w4.heap.size w4 _›).size) ?_; intro v3 w3 ho3 hg3 hl3 hq3))
              all_goals
                have e3 : OwnI w3 w.heap.size v3 (rowR (ordR ls hs (i + 1)) (i + 1)) := by
                  rw [OSS.out, ← INS.out]
                  have := ho3.weak (base' := w.heap.size) BW4.size
                  rw [List.nil_append] at this
                  exact this
                have B3 : Below w.heap.size w w3 := BW4.trans ((‹Below w4.heap.size w4 w3›).mono BW4.size)
                obtain ⟨g3, c3, hv3, _, _⟩ := e3.head (by rw [rowR_len]; omega)
                rw [rowR_len] at hv3
                subst hv3
                have E3 := Lib.hid e3
                clear e3 ho3 hg3 hl3 hq3 ho2 hg2 hl2 hq2 ho1 hg1 hl1 hq1 sz1
                go_wp2
                go_roundw
                case rel => exact ⟨i + 1, g3, c3, by omega, by go_num, rfl, E3.out, B3⟩
                case measure => simp [intOf]; omega
            go_region_held3 (fun w' => Below w4.heap.size w4 w')
              (first
                | exact (Below.refl w4.heap.size w4).drew
                | exact Below.alloc (by assumption) (by have := (‹Below w4.heap.size w4 _›).size; omega) _
                | exact below_app (by assumption) hg3 hq3 (by omega)
                | exact below_app (by assumption) hg2 hq2 (by omega)
                | exact below_app (by assumption) hg1 hq1 (by omega))
              (first
                | (refine step_appIs rfl (.tmp 56) (.tmp 59) (by rfl) w4.heap.size (.slice (some ⟨_, 0, none⟩) 0 0) _ _ [] (rowR f p) (by rfl) (by first | exact own_empty w4 w4.heap.size (Nat.le_refl _) | exact (own_empty w4 w4.heap.size (Nat.le_refl _)).alloc _ | exact own_empty2 w4 _ w4.heap.size (by omega)) (by rw [rowR_len]; rfl) (RT.below (by assumption)) (by simp) (by rw [rowR_len]; omega) ((‹Below w4.heap.size w4 _›).size) ?_; intro v1 w1 ho1 hg1 hl1 hq1; have sz1 := hg1.size)
                | (refine step_appIs rfl (.tmp 60) (.tmp 62) (by rfl) w4.heap.size v1 _ _ _ [(i : Int)] (by rfl) (by first | exact ho1 | exact ho1.alloc _) (by rfl) (by first | exact RdI.lone (by simp [go_sem]; done) | exact RdI.lone (cell_kept hg1 (by simp [go_sem]; done) (by simp [Value.ownBlock]; done))) (by simp [rowR_len]; omega) (by simp) ((‹Below w4.heap.size w4 _›).size) ?_; intro v2 w2 ho2 hg2 hl2 hq2)
                | (refine step_appIs rfl (.tmp 63) (.tmp 66) (by rfl) w4.heap.size v2 _ _ _ ((rowR f i).drop p) (by rfl) ho2 (by first | (rw [hld]; rfl) | (rw [hld, show i - p = 0 by omega]; rfl)) (by first | exact RD.below (by assumption) | exact RDZ (by omega) _ 0 _) (by simp [rowR_len]; omega) (by rw [hld]; omega) ((‹Below w4.heap.size w4 _›).size) ?_; intro v3 w3 ho3 hg3 hl3 hq3))
            all_goals
              have e3 : OwnI w3 w.heap.size v3 (rowR (ordR ls hs (i + 1)) (i + 1)) := by
                rw [OSS.out, ← INS.out]
                have := ho3.weak (base' := w.heap.size) BW4.size
                rw [List.nil_append] at this
                exact this
              have B3 : Below w.heap.size w w3 := BW4.trans ((‹Below w4.heap.size w4 w3›).mono BW4.size)
              obtain ⟨g3, c3, hv3, _, _⟩ := e3.head (by rw [rowR_len]; omega)
              rw [rowR_len] at hv3
              subst hv3
              have E3 := Lib.hid e3
              clear e3 ho3 hg3 hl3 hq3 ho2 hg2 hl2 hq2 ho1 hg1 hl1 hq1 sz1
              go_wp2
              go_roundw
              case rel => exact ⟨i + 1, g3, c3, by omega, by go_num, rfl, E3.out, B3⟩
              case measure => simp [intOf]; omega
          · obtain ⟨j, rfl⟩ : ∃ j', j = j' + 1 := ⟨j - 1, by omega⟩
            have hob := OB.out j (by omega)
            obtain ⟨oo, ho⟩ : ∃ oo : Nat, f j = oo := ⟨(f j).toNat, by omega⟩
            have ow := OW.out.below bx
            have c1 := ow.cellN (rowR_len _ _) (k := j) (by omega)
            rw [rowR_get _ (by omega), ho] at c1
            have bo := HB.out oo (by omega)
            have bi := HB.out i hlt
            obtain ⟨bA, oA, x, eA, hx, _, cx⟩ := (r1.out.below (BX.trans (bx.mono BX.size))).at_ hlt
            obtain ⟨bA', oA', y, eA', hy, _, cy⟩ := (r1.out.below (BX.trans (bx.mono BX.size))).at_ (k := oo) (by omega)
            obtain ⟨bC, oC, u, eC, hu, _, cu⟩ := (r2.out.below (BX.trans (bx.mono BX.size))).at_ (k := i) (by have := NQ.out; omega)
            obtain ⟨bC', oC', v, eC', hv, _, cv⟩ := (r2.out.below (BX.trans (bx.mono BX.size))).at_ (k := oo) (by have := NQ.out; omega)
            subst eA
            obtain ⟨rfl, rfl⟩ : bA = bA' ∧ oA = oA' := by simp at eA'; exact eA'
            subst eC
            obtain ⟨rfl, rfl⟩ : bC = bC' ∧ oC = oC' := by simp at eC'; exact eC'
            have hl : lessR ls hs i (f j) = decide (y * u < x * v) := by
              unfold lessR
              rw [ho, Int.toNat_natCast, Int.toNat_natCast, ← hx, ← hy, ← hu, ← hv]
            rw [← hy, ← hv] at bo
            rw [← hx, ← hu] at bi
            have m1 := mulR bi.1 bi.2.1 bo.2.2.1 bo.2.2.2
            have m2 := mulR bo.1 bo.2.1 bi.2.2.1 bi.2.2.2
            have W3 : IntKind.i64.wrap (x * v) = x * v := IntWalk.i64_in _ (by omega)
            have W4 : IntKind.i64.wrap (y * u) = y * u := IntWalk.i64_in _ (by omega)
            have W2 : IntKind.i64.wrap (j : Int) = (j : Int) := IntWalk.i64_in _ (by omega)
            have j0 : (0 : Int) ≤ j := by omega
            have ji : (j : Int) < (i : Int) := by omega
            have o0 : (0 : Int) ≤ oo := by omega
            have o1 : (oo : Int) < (ls.length : Int) := by omega
            have o2 : (oo : Int) < (hs.length : Int) := by have := NQ.out; omega
            have hgt : decide ((0 : Int) < (j : Int) + 1) = true := decide_eq_true (by omega)
            rw [posR, hl] at hp
            clear hl hx hy hu hv bo bi m1 m2 ow hob ho
            cases less : decide (y * u < x * v)
            · rw [if_neg (by rw [less]; decide)] at hp
              have HP := Lib.hid hp
              clear hp
              go_wp2_with fail
              go_quiet (fail)
              clear c1 cx cy cu cv less hgt W2 W3 W4
              obtain ⟨p, hpe⟩ : ∃ p, p = (j + 1) := ⟨_, rfl⟩
              have hpi : p ≤ i := by omega
              have HQQ : posR ls hs f i i = p := by rw [hpe]; exact HP.out
              have ow3 := OW.out.below bx
              have ow4 : OwnI (wr.drewN nq) w.heap.size (.slice (some ⟨gb, 0, none⟩) i cap) (rowR f i) := ow3
              have BW4 : Below w.heap.size w (wr.drewN nq) := below_drewN (BX.trans (bx.mono BX.size)) nq
              have hcap : i ≤ cap := ow4.capN (rowR_len _ _)
              have RT : RdI (wr.drewN nq) (wr.drewN nq).heap.size (some ⟨gb, 0, none⟩) (rowR f p) := by rw [← rowR_take f (n := i) hpi]; exact (ow4.rdN (rowR_len _ _)).take _
              have RD : RdI (wr.drewN nq) (wr.drewN nq).heap.size (some ⟨gb, p, none⟩) ((rowR f i).drop p) := by have := (ow4.rdN (rowR_len _ _)).drop p; rw [Nat.zero_add] at this; exact this
              have hld : ((rowR f i).drop p).length = i - p := by rw [List.length_drop, rowR_len]
              have RDZ : i ≤ p → ∀ W B ad, RdI W B ad ((rowR f i).drop p) := fun hq W B ad hp => absurd hp (by rw [hld]; omega)
              have ins := rowR_ins f (i := i) (k := p) hpi
              rw [rowR_take f hpi] at ins
              have OS2 : ordR ls hs (i + 1) = putR f i p := by rw [OS.out, HQQ]
              have INS := Lib.hid ins
              have OSS := Lib.hid OS2
              clear ow3 ow4 ins OS2 bx BX OW HP HQQ OB OS
              generalize wr.drewN nq = w4 at *
              go_upto_region 10 with (fail)
              rw [show ((j : Int) + 1) = (p : Int) by omega]
              clear hpe
              have pc : (p : Int) ≤ (cap : Int) := by omega
              have pcn : p ≤ cap := by omega
              have p0 : (0 : Int) ≤ p := by omega
              have pii : (p : Int) ≤ (i : Int) := by omega
              have Wp : IntKind.i64.wrap (p : Int) = p := IntWalk.i64_in _ (by omega)
              rcases (show ¬ cap = p ∨ p = cap by omega) with hcp | hcp
              rotate_left
              · subst hcp
                go_region_held3 (fun w' => Below w4.heap.size w4 w')
                  (first
                    | exact (Below.refl w4.heap.size w4).drew
                    | exact Below.alloc (by assumption) (by have := (‹Below w4.heap.size w4 _›).size; omega) _
                    | exact below_app (by assumption) hg3 hq3 (by omega)
                    | exact below_app (by assumption) hg2 hq2 (by omega)
                    | exact below_app (by assumption) hg1 hq1 (by omega))
                  (first
                    | (refine step_appIs rfl (.tmp 56) (.tmp 59) (by rfl) w4.heap.size (.slice (some ⟨_, 0, none⟩) 0 0) _ _ [] (rowR f p) (by rfl) (by first | exact own_empty w4 w4.heap.size (Nat.le_refl _) | exact (own_empty w4 w4.heap.size (Nat.le_refl _)).alloc _ | exact own_empty2 w4 _ w4.heap.size (by omega)) (by rw [rowR_len]; rfl) (RT.below (by assumption)) (by simp) (by rw [rowR_len]; omega) ((‹Below w4.heap.size w4 _›).size) ?_; intro v1 w1 ho1 hg1 hl1 hq1; have sz1 := hg1.size)
                    | (refine step_appIs rfl (.tmp 60) (.tmp 62) (by rfl) w4.heap.size v1 _ _ _ [(i : Int)] (by rfl) (by first | exact ho1 | exact ho1.alloc _) (by rfl) (by first | exact RdI.lone (by simp [go_sem]; done) | exact RdI.lone (cell_kept hg1 (by simp [go_sem]; done) (by simp [Value.ownBlock]; done))) (by simp [rowR_len]; omega) (by simp) ((‹Below w4.heap.size w4 _›).size) ?_; intro v2 w2 ho2 hg2 hl2 hq2)
                    | (refine step_appIs rfl (.tmp 63) (.tmp 66) (by rfl) w4.heap.size v2 _ _ _ ((rowR f i).drop p) (by rfl) ho2 (by first | (rw [hld]; rfl) | (rw [hld, show i - p = 0 by omega]; rfl)) (by first | exact RD.below (by assumption) | exact RDZ (by omega) _ 0 _) (by simp [rowR_len]; omega) (by rw [hld]; omega) ((‹Below w4.heap.size w4 _›).size) ?_; intro v3 w3 ho3 hg3 hl3 hq3))
                all_goals
                  have e3 : OwnI w3 w.heap.size v3 (rowR (ordR ls hs (i + 1)) (i + 1)) := by
                    rw [OSS.out, ← INS.out]
                    have := ho3.weak (base' := w.heap.size) BW4.size
                    rw [List.nil_append] at this
                    exact this
                  have B3 : Below w.heap.size w w3 := BW4.trans ((‹Below w4.heap.size w4 w3›).mono BW4.size)
                  obtain ⟨g3, c3, hv3, _, _⟩ := e3.head (by rw [rowR_len]; omega)
                  rw [rowR_len] at hv3
                  subst hv3
                  have E3 := Lib.hid e3
                  clear e3 ho3 hg3 hl3 hq3 ho2 hg2 hl2 hq2 ho1 hg1 hl1 hq1 sz1
                  go_wp2
                  go_roundw
                  case rel => exact ⟨i + 1, g3, c3, by omega, by go_num, rfl, E3.out, B3⟩
                  case measure => simp [intOf]; omega
              go_region_held3 (fun w' => Below w4.heap.size w4 w')
                (first
                  | exact (Below.refl w4.heap.size w4).drew
                  | exact Below.alloc (by assumption) (by have := (‹Below w4.heap.size w4 _›).size; omega) _
                  | exact below_app (by assumption) hg3 hq3 (by omega)
                  | exact below_app (by assumption) hg2 hq2 (by omega)
                  | exact below_app (by assumption) hg1 hq1 (by omega))
                (first
                  | (refine step_appIs rfl (.tmp 56) (.tmp 59) (by rfl) w4.heap.size (.slice (some ⟨_, 0, none⟩) 0 0) _ _ [] (rowR f p) (by rfl) (by first | exact own_empty w4 w4.heap.size (Nat.le_refl _) | exact (own_empty w4 w4.heap.size (Nat.le_refl _)).alloc _ | exact own_empty2 w4 _ w4.heap.size (by omega)) (by rw [rowR_len]; rfl) (RT.below (by assumption)) (by simp) (by rw [rowR_len]; omega) ((‹Below w4.heap.size w4 _›).size) ?_; intro v1 w1 ho1 hg1 hl1 hq1; have sz1 := hg1.size)
                  | (refine step_appIs rfl (.tmp 60) (.tmp 62) (by rfl) w4.heap.size v1 _ _ _ [(i : Int)] (by rfl) (by first | exact ho1 | exact ho1.alloc _) (by rfl) (by first | exact RdI.lone (by simp [go_sem]; done) | exact RdI.lone (cell_kept hg1 (by simp [go_sem]; done) (by simp [Value.ownBlock]; done))) (by simp [rowR_len]; omega) (by simp) ((‹Below w4.heap.size w4 _›).size) ?_; intro v2 w2 ho2 hg2 hl2 hq2)
                  | (refine step_appIs rfl (.tmp 63) (.tmp 66) (by rfl) w4.heap.size v2 _ _ _ ((rowR f i).drop p) (by rfl) ho2 (by first | (rw [hld]; rfl) | (rw [hld, show i - p = 0 by omega]; rfl)) (by first | exact RD.below (by assumption) | exact RDZ (by omega) _ 0 _) (by simp [rowR_len]; omega) (by rw [hld]; omega) ((‹Below w4.heap.size w4 _›).size) ?_; intro v3 w3 ho3 hg3 hl3 hq3))
              all_goals
                have e3 : OwnI w3 w.heap.size v3 (rowR (ordR ls hs (i + 1)) (i + 1)) := by
                  rw [OSS.out, ← INS.out]
                  have := ho3.weak (base' := w.heap.size) BW4.size
                  rw [List.nil_append] at this
                  exact this
                have B3 : Below w.heap.size w w3 := BW4.trans ((‹Below w4.heap.size w4 w3›).mono BW4.size)
                obtain ⟨g3, c3, hv3, _, _⟩ := e3.head (by rw [rowR_len]; omega)
                rw [rowR_len] at hv3
                subst hv3
                have E3 := Lib.hid e3
                clear e3 ho3 hg3 hl3 hq3 ho2 hg2 hl2 hq2 ho1 hg1 hl1 hq1 sz1
                go_wp2
                go_roundw
                case rel => exact ⟨i + 1, g3, c3, by omega, by go_num, rfl, E3.out, B3⟩
                case measure => simp [intOf]; omega
            · rw [if_pos less] at hp
              have HP := Lib.hid hp
              clear hp
              go_wp2_with fail
              go_quiet (fail)
              go_wp2
              go_roundw
              case rel => exact ⟨j, by omega, by go_num, HP.out, below_drewN bx _⟩
              case measure => simp [intOf]
      · obtain rfl : i = ls.length := by omega
        have hi : ¬ (ls.length : Int) < (ls.length : Int) := by omega
        have OW := Lib.hid own
        clear own hlt
        go_wp2
        go_returns
        exact ⟨some ⟨gb, 0, none⟩, cap, by rw [rowR_len]; rfl, by rw [rowR_len]; exact OW.out, BX⟩
end Go.Proofs.Ytdkhiedgikjnkaa
