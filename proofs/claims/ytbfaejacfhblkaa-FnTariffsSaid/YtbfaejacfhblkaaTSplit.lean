/- Contracts: the parts of a cost, the cost. -/
import Derived.Test.YtbfaejacfhblkaaTWalk
import Derived.Test.YtbfaejacfhblkaaTCost
import Derived.Test.YtbfaejacfhblkaaPApp
namespace Go.Proofs.Ytbfaejacfhblkaa
open Go.RowKit

theorem part_lt {xs : List (Int × Int)} {k : Nat} {v x y : Int} (hx : (x, y) = xs.getD k (0, 0)) (h : v < x) (h2 : v - fromT xs k < 0) : partT xs v k = 0 := by
  unfold partT; rw [up_of hx, minI_lt h, if_pos h2]; simp
theorem part_lt2 {xs : List (Int × Int)} {k : Nat} {v x y : Int} (hx : (x, y) = xs.getD k (0, 0)) (h : v < x) (h2 : ¬ v - fromT xs k < 0) : partT xs v k = (v - fromT xs k) * y := by
  unfold partT; rw [up_of hx, pr_of hx, minI_lt h, if_neg h2]
theorem part_ge {xs : List (Int × Int)} {k : Nat} {v x y : Int} (hx : (x, y) = xs.getD k (0, 0)) (h : ¬ v < x) (h2 : x - fromT xs k < 0) : partT xs v k = 0 := by
  unfold partT; rw [up_of hx, minI_ge (by omega), if_pos h2]; simp
theorem part_ge2 {xs : List (Int × Int)} {k : Nat} {v x y : Int} (hx : (x, y) = xs.getD k (0, 0)) (h : ¬ v < x) (h2 : ¬ x - fromT xs k < 0) : partT xs v k = (x - fromT xs k) * y := by
  unfold partT; rw [up_of hx, pr_of hx, minI_ge (by omega), if_neg h2]
theorem part_spec {xs : List (Int × Int)} {k : Nat} {v x y : Int} (hx : (x, y) = xs.getD k (0, 0)) : partT xs v k = y * maxI 0 (minI v x - fromT xs k) := by
  have e : (if minI v x - fromT xs k < 0 then 0 else minI v x - fromT xs k) = maxI 0 (minI v x - fromT xs k) := by unfold maxI; split <;> first | rfl | omega | (split <;> omega)
  unfold partT
  rw [up_of hx, pr_of hx, e, Int.mul_comm]
theorem from_next {xs : List (Int × Int)} {k : Nat} {x y : Int} (hx : (x, y) = xs.getD k (0, 0)) : fromT xs (k + 1) = x := up_of hx
theorem OwnI.lit (w : World) (base : Nat) (y : Int) (h : base ≤ w.heap.size) : OwnI (w.alloc (.cells #[.int .i64 y] 3)) base (.slice (some ⟨w.heap.size, 0, none⟩) 1 1) [y] :=
  ⟨rfl, .inr ⟨w.heap.size, 1, #[.int .i64 y], rfl, h, heap_alloc_new w _, Nat.le_refl _, by decide, rfl, rfl⟩⟩
/-- append of one int to a slice of the call's own: what else is as it was. -/
theorem wpList_appJ {wr : World} {ops : Array Oper} {rest : List Oper} {o : Oper} {a : Act} {Q : Exit → Act → World → Prop} (hgd : o.guard = none) (s x : Operand)
    (ho : o.op = .call { callee := .builtin .append, args := #[s, x], argTypes := #[44, 44] }) (base : Nat) (v : Value) (xs : List Int) (y : Int) (H : Nat)
    (hs : a.eval s = v) (hown : OwnI wr base v xs) (hx : a.eval x = .slice (some ⟨H, 0, none⟩) 1 1) (hH : wr.heap.size = H) (hlen : xs.length ≤ 65536) (hbase : base ≤ wr.heap.size)
    (h : ∀ v' w', OwnI w' base v' (xs ++ [y]) → wr.grownBy w' v.ownBlock → OwnI wr base v xs → wpList Try.prog ops Q rest (a.put o.dst v') w') : wpList Try.prog ops Q (o :: rest) a (wr.alloc (.cells #[.int .i64 y] 3)) := by
  subst hH
  obtain ⟨i0, hi, hz0, hz1, hz2⟩ := info_parts Try.infoInt
  refine wpList_append_own _ hgd s x 44 ho base 3 i0 (.int .i64 0) 1 8 Try.underlying44 hi hz0 hz1 hz2 rfl (by decide) v xs.length (xs.map (Value.int .i64)) hs (World.ownsRow.alloc hown _) ⟨wr.heap.size, 0, none⟩ 1 1 [.int .i64 y] hx rfl ?_ ?_ ?_ ?_ ?_ ?_
  · intro j u hj
    match j, hj with
    | 0, hj => simp at hj; subst hj; exact World.cell?_alloc_new wr _ _ 0
  · intro u hu
    simp at hu; subst hu; rfl
  · unfold maxLen; omega
  · omega
  · simp; omega
  · intro v' w' hown' hg _
    refine h v' w' ?_ (grown_trans (World.grownBy_alloc _ _ _) hg) hown
    unfold OwnI
    simpa using hown'
set_option maxHeartbeats 1000000 in
theorem implSplit_c {B : Nat} (F v : Int) (A : Option Addr) (c : Nat) (xs : List (Int × Int)) (w : World) (h : RdP w B A xs) (hBs : B ≤ w.heap.size) (hg : goodT F xs = true) (hv0 : 0 ≤ v) (hv1 : v ≤ 100001) :
    Calls Try.prog 69 #[.agg #[.int .i64 F, .slice A xs.length c], .int .i64 v] w (RetI w (splitT F xs v xs.length) id) := by
  have g := goodT_out hg
  go_enter Try.func69, Try.ntmps69
  go_wp2
  go_loopw [5, 6, 8, 15] (fun o f _ i wr => ∃ k : Nat, k ≤ xs.length ∧ i = .int .i64 k ∧ f = .int .i64 (fromT xs k) ∧ OwnI wr w.heap.size o (splitT F xs v k) ∧ Below w.heap.size w wr) (fun _ _ _ i _ => xs.length - (intOf i).toNat)
  case atStart => exact ⟨0, by omega, rfl, rfl, by have := OwnI.lit (w.alloc (.cells #[.int .i64 F, .slice A xs.length c] 29)) w.heap.size F (by simp); rw [World.size_alloc] at this; exact this, by (repeat' (first | (with_reducible exact Below.refl _ _) | (with_reducible assumption) | (with_reducible refine below_drewN ?_ _) | (with_reducible refine Below.alloc ?_ ?_ _) | (with_reducible refine Below.drew ?_) | (with_reducible refine Below.setCell ?_ ?_ _) | go_size))⟩
  case round =>
    obtain ⟨k, hk, rfl, rfl, hown, hB⟩ := hrel
    have hsz := hB.size
    by_cases hlt : k < xs.length
    · obtain ⟨b, off, x, y, rfl, hx, hbB, hc0, hc1⟩ := (h.below (hB.mono hBs)).at_ hlt
      have hi : (k : Int) < (xs.length : Int) := by omega
      have ok := goodT_xy hg hlt hx
      have fb := fromT_b hg hk
      have pb := partT_b hg hv0 hv1 hlt
      have hle : (splitT F xs v k).length ≤ 65536 := by rw [splitT_len]; omega
      have HF := Lib.hid (from_next hx)
      have hsp : splitT F xs v (k + 1) = splitT F xs v k ++ [partT xs v k] := rfl
      have w1 : IntKind.i64.wrap (v - fromT xs k) = v - fromT xs k := IntWalk.i64_in _ (by omega)
      have w2 : IntKind.i64.wrap (x - fromT xs k) = x - fromT xs k := IntWalk.i64_in _ (by omega)
      have hownA := hown.alloc (.cells #[.int .i64 x, .int .i64 y] 63)
      generalize splitT F xs v k = ys at hown hle hsp hownA
      obtain ⟨A', c', rfl⟩ := hown.shape
      have hne := fun gg e => (hown.lt gg e).2
      have HNE := Lib.hid hne
      have HO := Lib.hid hownA
      have H := Lib.hid h
      have hz : ∀ p : Int, partT xs v k = p → 0 ≤ p ∧ p ≤ 100000000 ∧ IntKind.i64.wrap p = p := fun p hp => by
        rw [hp] at pb; exact ⟨pb.1, pb.2, IntWalk.i64_in _ (by omega)⟩
      by_cases hq : v < x
      · by_cases hq2 : v - fromT xs k < 0
        · have e := part_lt hx hq hq2
          rw [e] at hsp
          have HS := Lib.hid hsp
          clear hx h hown hownA hsp hz e hne
          generalize fromT xs k = fr at *
          go_wp2_with (at_builtin; refine wpList_appJ rfl (.tmp 19) (.tmp 30) rfl w.heap.size (.slice A' ys.length c') _ _ _ rfl HO.out rfl (by simp) hle (by simp; omega) ?_; intro v1 w1 hown1 hg1 ho1; have e1 : w1.cell? ⟨wr.heap.size, 0, none⟩ = some (.int .i64 x) := (hg1.cell_far' ⟨wr.heap.size, 0, none⟩ (by simp) (fun e => by have := HNE.out _ e.symm; simp at this)).trans (by simp [go_sem]))
          go_roundw
          case rel => exact ⟨k + 1, by omega, by go_num, by rw [HF.out], by rw [HS.out]; exact hown1, Below.grown (by (repeat' (first | (with_reducible exact Below.refl _ _) | (with_reducible assumption) | (with_reducible refine below_drewN ?_ _) | (with_reducible refine Below.alloc ?_ ?_ _) | (with_reducible refine Below.drew ?_) | (with_reducible refine Below.setCell ?_ ?_ _) | go_size))) hg1 (by simp; omega) (fun g e => (ho1.lt g e).1)⟩
          case measure => simp [intOf]; omega
        · have e := part_lt2 hx hq hq2
          obtain ⟨z0, z1, wz⟩ := hz _ e
          rw [e] at hsp
          have HS := Lib.hid hsp
          clear hx h hown hownA hsp hz e hne
          generalize fromT xs k = fr at *
          go_wp2_with (at_builtin; refine wpList_appJ rfl (.tmp 19) (.tmp 30) rfl w.heap.size (.slice A' ys.length c') _ _ _ rfl HO.out rfl (by simp) hle (by simp; omega) ?_; intro v1 w1 hown1 hg1 ho1; have e1 : w1.cell? ⟨wr.heap.size, 0, none⟩ = some (.int .i64 x) := (hg1.cell_far' ⟨wr.heap.size, 0, none⟩ (by simp) (fun e => by have := HNE.out _ e.symm; simp at this)).trans (by simp [go_sem]))
          go_roundw
          case rel => exact ⟨k + 1, by omega, by go_num, by rw [HF.out], by rw [HS.out]; exact hown1, Below.grown (by (repeat' (first | (with_reducible exact Below.refl _ _) | (with_reducible assumption) | (with_reducible refine below_drewN ?_ _) | (with_reducible refine Below.alloc ?_ ?_ _) | (with_reducible refine Below.drew ?_) | (with_reducible refine Below.setCell ?_ ?_ _) | go_size))) hg1 (by simp; omega) (fun g e => (ho1.lt g e).1)⟩
          case measure => simp [intOf]; omega
      · have hif : (if x < v then x else v) = x := by split <;> omega
        by_cases hq2 : x - fromT xs k < 0
        · have e := part_ge hx hq hq2
          rw [e] at hsp
          have HS := Lib.hid hsp
          clear hx h hown hownA hsp hz e hne
          generalize fromT xs k = fr at *
          go_wp2_with (at_builtin; refine wpList_appJ rfl (.tmp 19) (.tmp 30) rfl w.heap.size (.slice A' ys.length c') _ _ _ rfl HO.out rfl (by simp) hle (by simp; omega) ?_; intro v1 w1 hown1 hg1 ho1; have e1 : w1.cell? ⟨wr.heap.size, 0, none⟩ = some (.int .i64 x) := (hg1.cell_far' ⟨wr.heap.size, 0, none⟩ (by simp) (fun e => by have := HNE.out _ e.symm; simp at this)).trans (by simp [go_sem]))
          go_roundw
          case rel => exact ⟨k + 1, by omega, by go_num, by rw [HF.out], by rw [HS.out]; exact hown1, Below.grown (by (repeat' (first | (with_reducible exact Below.refl _ _) | (with_reducible assumption) | (with_reducible refine below_drewN ?_ _) | (with_reducible refine Below.alloc ?_ ?_ _) | (with_reducible refine Below.drew ?_) | (with_reducible refine Below.setCell ?_ ?_ _) | go_size))) hg1 (by simp; omega) (fun g e => (ho1.lt g e).1)⟩
          case measure => simp [intOf]; omega
        · have e := part_ge2 hx hq hq2
          obtain ⟨z0, z1, wz⟩ := hz _ e
          rw [e] at hsp
          have HS := Lib.hid hsp
          clear hx h hown hownA hsp hz e hne
          generalize fromT xs k = fr at *
          go_wp2_with (at_builtin; refine wpList_appJ rfl (.tmp 19) (.tmp 30) rfl w.heap.size (.slice A' ys.length c') _ _ _ rfl HO.out rfl (by simp) hle (by simp; omega) ?_; intro v1 w1 hown1 hg1 ho1; have e1 : w1.cell? ⟨wr.heap.size, 0, none⟩ = some (.int .i64 x) := (hg1.cell_far' ⟨wr.heap.size, 0, none⟩ (by simp) (fun e => by have := HNE.out _ e.symm; simp at this)).trans (by simp [go_sem]))
          go_roundw
          case rel => exact ⟨k + 1, by omega, by go_num, by rw [HF.out], by rw [HS.out]; exact hown1, Below.grown (by (repeat' (first | (with_reducible exact Below.refl _ _) | (with_reducible assumption) | (with_reducible refine below_drewN ?_ _) | (with_reducible refine Below.alloc ?_ ?_ _) | (with_reducible refine Below.drew ?_) | (with_reducible refine Below.setCell ?_ ?_ _) | go_size))) hg1 (by simp; omega) (fun g e => (ho1.lt g e).1)⟩
          case measure => simp [intOf]; omega
    · obtain rfl : k = xs.length := by omega
      have hl := splitT_len F xs v xs.length
      obtain ⟨A', c', rfl⟩ := hown.shape
      have HO := Lib.hid hown
      clear h hown hl
      go_wp2
      go_ret
      exact ⟨_, _, rfl, HO.out, hB⟩
end Go.Proofs.Ytbfaejacfhblkaa
