/- Contracts: the parts of a cost (the reference); sums. -/
import Derived.Test.YtbfaejacfhblkaaTSplit
namespace Go.Proofs.Ytbfaejacfhblkaa
open Go.RowKit

theorem wp_appIsT {wr : World} {o : Oper} {a : Act} {K : Act → World → Prop} {Q : Exit → Act → World → Prop} (s x : Operand)
    (ho : o.op = .call { callee := .builtin .append, args := #[s, x], argTypes := #[44, 44] }) (base : Nat) (v : Value) (H : Nat) (xs : List Int) (y : Int)
    (hs : a.eval s = v) (hown : OwnI wr base v xs) (hx : a.eval x = .slice (some ⟨H, 0, none⟩) 1 1) (hc : wr.cell? ⟨H, 0, none⟩ = some (.int .i64 y)) (hlen : xs.length ≤ 65536) (hbase : base ≤ wr.heap.size)
    (h : ∀ v' w', OwnI w' base v' (xs ++ [y]) → wr.grownBy w' v.ownBlock → OwnI wr base v xs → K (a.put o.dst v') w') : o.wp Try.prog a wr K Q := by
  obtain ⟨i0, hi, hz0, hz1, hz2⟩ := info_parts Try.infoInt
  obtain ⟨v', w', hr, h2, h3, _, h5⟩ := run_append_own_at (P := Try.prog) wr base 44 o.type 3 i0 (.int .i64 0) 1 8 Try.underlying44 hi hz0 hz1 hz2 rfl (by decide) v xs.length (xs.map (Value.int .i64)) hown ⟨H, 0, none⟩ 1 1 [.int .i64 y] rfl (by
    intro j u hj
    match j, hj with
    | 0, hj => simp at hj; subst hj; exact hc) (fun u hu => by simp at hu; subst hu; rfl) (by unfold maxLen; omega) (by omega) hbase
  unfold Oper.wp execOp
  simp only [ho, resolve, invoke, builtin, Sem.run_bind, Sem.run_pure, Result.andThen_ok, List.map_toArray, List.map_cons, List.map_nil, hs, hx, hr]
  refine h v' w' ?_ h3 hown
  unfold OwnI
  simpa using h2
theorem step_appI {wr : World} {ops : Array Oper} {o : Oper} {a : Act} {K : Act → World → Prop} {Q : Exit → Act → World → Prop} {E : Prop} (hgd : o.guard = none) (s x : Operand)
    (ho : o.op = .call { callee := .builtin .append, args := #[s, x], argTypes := #[44, 44] }) (base : Nat) (v : Value) (H : Nat) (xs : List Int) (y : Int)
    (hs : a.eval s = v) (hown : OwnI wr base v xs) (hx : a.eval x = .slice (some ⟨H, 0, none⟩) 1 1) (hc : wr.cell? ⟨H, 0, none⟩ = some (.int .i64 y)) (hlen : xs.length ≤ 65536) (hbase : base ≤ wr.heap.size)
    (h : ∀ v' w', OwnI w' base v' (xs ++ [y]) → wr.grownBy w' v.ownBlock → OwnI wr base v xs → K (a.put o.dst v') w') :
    if Region.wanted o (yielded ops a.tmps) = true then Oper.wp Try.prog o a wr K Q else E := by
  have hw : Region.wanted o (yielded ops a.tmps) = true := by simp [Region.wanted, hgd]
  rw [if_pos hw]
  exact wp_appIsT s x ho base v H xs y hs hown hx hc hlen hbase h
theorem heldI_far {w0 w' w'' : World} {H : Nat} {u v x : Value} {r : List Int} (h : w'.cell? ⟨H, 0, none⟩ = some u ∧ w'.cell? ⟨H, 1, none⟩ = some v ∧ Below w0.heap.size w0 w' ∧ H + 1 ≤ w'.heap.size) (hg : w'.grownBy w'' x.ownBlock) (ho : OwnI w' w0.heap.size x r) (hs : w0.heap.size ≤ H) (hne : ∀ g, x.ownBlock = some g → g < H) :
    w''.cell? ⟨H, 0, none⟩ = some u ∧ w''.cell? ⟨H, 1, none⟩ = some v ∧ Below w0.heap.size w0 w'' ∧ H + 1 ≤ w''.heap.size := by
  obtain ⟨h0, h1, h2, h3⟩ := h
  have hn : some H ≠ x.ownBlock := fun e => by have := hne H e.symm; omega
  exact ⟨(hg.cell_far' ⟨H, 0, none⟩ h3 hn).trans h0, (hg.cell_far' ⟨H, 1, none⟩ h3 hn).trans h1, h2.grown hg (by omega) (fun g e => (ho.lt g e).1), Nat.le_trans h3 hg.size⟩
theorem lit_cell (w : World) (y : Value) (t : TypeId) : (w.alloc (.cells #[y] t)).cell? ⟨w.heap.size, 0, none⟩ = some y := World.cell?_alloc_new w _ _ 0
set_option maxHeartbeats 1000000 in
theorem specSplit_c {B : Nat} (F v : Int) (A : Option Addr) (c : Nat) (xs : List (Int × Int)) (w : World) (h : RdP w B A xs) (hBs : B ≤ w.heap.size) (hg : goodT F xs = true) (hv0 : 0 ≤ v) (hv1 : v ≤ 100001) :
    Calls Try.prog 68 #[.agg #[.int .i64 F, .slice A xs.length c], .int .i64 v] w (RetI w (splitT F xs v xs.length) id) := by
  have g := goodT_out hg
  go_enter Try.func68, Try.ntmps68
  go_wp2
  go_loopw [5, 6, 7, 8] (fun o f i _ wr => ∃ k : Nat, k ≤ xs.length ∧ i = .int .i64 k ∧ f = .int .i64 (fromT xs k) ∧ OwnI wr (w.heap.size + 1) o (splitT F xs v k) ∧ Below w.heap.size w wr ∧ w.heap.size < wr.heap.size ∧ wr.cell? ⟨w.heap.size, 1, none⟩ = some (.slice A xs.length c)) (fun _ _ i _ _ => xs.length - (intOf i).toNat)
  case atStart => exact ⟨0, by omega, rfl, rfl, by have := OwnI.lit (w.alloc (.cells #[.int .i64 F, .slice A xs.length c] 29)) (w.heap.size + 1) F (by simp); rw [World.size_alloc] at this; exact this, by (repeat' (first | (with_reducible exact Below.refl _ _) | (with_reducible assumption) | (with_reducible refine below_drewN ?_ _) | (with_reducible refine Below.alloc ?_ ?_ _) | (with_reducible refine Below.drew ?_) | (with_reducible refine Below.setCell ?_ ?_ _) | go_size)), by simp, by simp [go_sem]⟩
  case round =>
    obtain ⟨k, hk, rfl, rfl, hown, hB, hs1, k1⟩ := hrel
    have hsz := hB.size
    by_cases hlt : k < xs.length
    · obtain ⟨b, off, x, y, rfl, hx, hbB, hc0, hc1⟩ := (h.below (hB.mono hBs)).at_ hlt
      have hi : (k : Int) < (xs.length : Int) := by omega
      have ok := goodT_xy hg hlt hx
      have fb := fromT_b hg hk
      have pb := partT_b hg hv0 hv1 hlt
      have hle : (splitT F xs v k).length ≤ 65536 := by rw [splitT_len]; omega
      have HF := Lib.hid (from_next hx)
      have hsp : splitT F xs v (k + 1) = splitT F xs v k ++ [partT xs v k] := rfl
      have hp := part_spec (v := v) hx
      have mb : 0 ≤ minI v x ∧ minI v x ≤ 100000 := by unfold minI; split <;> omega
      have xb : 0 ≤ maxI 0 (minI v x - fromT xs k) := by unfold maxI; split <;> omega
      generalize fromT xs k = fr at *
      generalize splitT F xs v k = ys at *
      generalize hmm : minI v x = mm at *
      have w1 : IntKind.i64.wrap (mm - fr) = mm - fr := IntWalk.i64_in _ (by omega)
      generalize hnn : maxI 0 (mm - fr) = nn at *
      rw [hp] at hsp pb
      have w2 : IntKind.i64.wrap (y * nn) = y * nn := IntWalk.i64_in _ (by omega)
      have hownA := hown.alloc (.cells #[.int .i64 x, .int .i64 y] 63)
      have hne := fun gg e => (hown.lt gg e).2
      obtain ⟨A', c', rfl⟩ := hown.shape
      have HNE := Lib.hid hne
      have HS := Lib.hid hsp
      have HO := Lib.hid hownA
      have HM := Lib.hid hmm
      have HN := Lib.hid hnn
      have H := Lib.hid h
      clear hx h hown hownA hsp hne hp hmm hnn
      go_wp2
      obtain ⟨W, hW⟩ : ∃ W, W = wr.alloc (.cells #[.int .i64 x, .int .i64 y] 63) := ⟨_, rfl⟩
      rw [← hW]
      rw [← hW] at HO
      have BW : Below w.heap.size w W := by rw [hW]; (repeat' (first | (with_reducible exact Below.refl _ _) | (with_reducible assumption) | (with_reducible refine below_drewN ?_ _) | (with_reducible refine Below.alloc ?_ ?_ _) | (with_reducible refine Below.drew ?_) | (with_reducible refine Below.setCell ?_ ?_ _) | go_size))
      have SW : wr.heap.size + 1 ≤ W.heap.size := by rw [hW]; simp
      have e0 : W.cell? ⟨wr.heap.size, 0, none⟩ = some (.int .i64 x) := by rw [hW]; simp [go_sem]
      have e1 : W.cell? ⟨wr.heap.size, 1, none⟩ = some (.int .i64 y) := by rw [hW]; simp [go_sem]
      have e2 : W.cell? ⟨w.heap.size, 1, none⟩ = some (.slice (some ⟨b, off, none⟩) xs.length c) := by rw [hW]; simp [*, go_sem]
      clear hW
      go_region_held3 (fun w' => w'.cell? ⟨wr.heap.size, 0, none⟩ = some (.int .i64 x) ∧ w'.cell? ⟨wr.heap.size, 1, none⟩ = some (.int .i64 y) ∧ Below w.heap.size w w' ∧ wr.heap.size + 1 ≤ w'.heap.size)
        (first
          | exact ⟨e0, e1, BW.drew, SW⟩
          | exact held_alloc (by assumption) _ (by omega)
          | exact heldI_far (by assumption) hg1 (ho1.weak (by omega)) (by omega) HNE.out)
        (first
          | (go_at_call 81; refine (l1Least_c _ _ _).mono ?_; rintro e w' ⟨rfl, rfl⟩; rw [HM.out])
          | (go_at_call 80; refine (l1Most_c _ _ _).mono ?_; rintro e w' ⟨rfl, rfl⟩; rw [HN.out])
          | (refine step_appI rfl (.tmp 24) (.tmp 35) (by rfl) (w.heap.size + 1) (.slice A' ys.length c') _ ys (y * nn) (by rfl) (by first | exact (HO.out.alloc _) | exact HO.out.alloc _) (by rfl) (by first | exact lit_cell W _ _) (by omega) (by have := (‹_ ∧ _ ∧ Below w.heap.size w _ ∧ _›).2.2.2; omega) ?_; intro v1 w1 hown1 hg1 ho1))
      have hh := ‹_ ∧ _ ∧ Below w.heap.size w _ ∧ _›
      obtain ⟨f0, _, hB1, hs3⟩ := hh
      have f1 : w1.cell? ⟨w.heap.size, 1, none⟩ = some (.slice (some ⟨b, off, none⟩) xs.length c) := (hg1.cell_far' ⟨w.heap.size, 1, none⟩ (by simp; omega) (fun e => absurd (ho1.lt _ e.symm).1 (Nat.not_succ_le_self _))).trans (by simp [*, go_sem])
      go_wp2
      go_roundw
      case rel => exact ⟨k + 1, by omega, by go_num, by rw [HF.out], by rw [HS.out]; exact hown1, hB1, by omega, f1⟩
      case measure => simp [intOf]; omega
    · obtain rfl : k = xs.length := by omega
      have hl := splitT_len F xs v xs.length
      obtain ⟨A', c', rfl⟩ := hown.shape
      have HO := Lib.hid hown
      clear h hown hl
      go_wp2
      go_ret
      exact ⟨_, _, rfl, HO.out.weak (by omega), hB⟩
end Go.Proofs.Ytbfaejacfhblkaa
