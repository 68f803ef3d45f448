/- Contracts: RaiseTariff, the boxes. -/
import Derived.Test.YtbfaejacfhblkaaTRai
namespace Go.Proofs.Ytbfaejacfhblkaa
open Go.RowKit

theorem step_callp {wr : World} {ops : Array Oper} {o : Oper} {a : Act} {K : Act → World → Prop} {Q : Exit → Act → World → Prop} {E : Prop} (hgd : o.guard = none) (f : FuncId) (args : Array Value) (v : Value)
    (hrun : (execOp a.eval o).run Try.prog wr = .ok (.enter f args) wr) (hc : Calls Try.prog f args wr fun e w' => e = .returned v ∧ wr = w') (h : K (a.put o.dst v) wr) :
    if Region.wanted o (yielded ops a.tmps) = true then Oper.wp Try.prog o a wr K Q else E := by
  rw [if_pos (by simp [Region.wanted, hgd])]
  unfold Oper.wp
  rw [hrun, Oper.upon_enter]
  exact hc.mono fun e w' ⟨he, hw⟩ => by subst he hw; exact h
/-- The boxes of the walk: the tariff at b, the percentage at P, the result at R, what is made at T. -/
structure RB (W : World) (b P R T : Nat) (F G : Int) (u s v : Value) : Prop where
  b0 : W.cell? ⟨b, 0, none⟩ = some (.int .i64 F)
  b1 : W.cell? ⟨b, 1, none⟩ = some (s)
  pc : W.cell? ⟨P, 0, none⟩ = some (u)
  r0 : W.cell? ⟨R, 0, none⟩ = some (.int .i64 0)
  r1 : W.cell? ⟨R, 1, none⟩ = some (.slice none 0 0)
  t0 : W.cell? ⟨T, 0, none⟩ = some (.int .i64 G)
  t1 : W.cell? ⟨T, 1, none⟩ = some (v)
  fr0 : W.frozen? ⟨R, 0, none⟩ = false
  fr1 : W.frozen? ⟨R, 1, none⟩ = false
  ft1 : W.frozen? ⟨T, 1, none⟩ = false
theorem RB.kept {W W' : World} {b P R T : Nat} {F G : Int} {u s v : Value} {row : Option Nat} (h : RB W b P R T F G u s v) (hg : W.grownBy W' row) (hb : some b ≠ row) (hP : some P ≠ row) (hR : some R ≠ row) (hT : some T ≠ row) : RB W' b P R T F G u s v := by
  have eb := hg.block b (lt_of_cell (a := ⟨b, 0, none⟩) (by rw [h.b0]; rfl)) hb
  have eP := hg.block P (lt_of_cell (a := ⟨P, 0, none⟩) (by rw [h.pc]; rfl)) hP
  have eR := hg.block R (lt_of_cell (a := ⟨R, 0, none⟩) (by rw [h.r0]; rfl)) hR
  have eT := hg.block T (lt_of_cell (a := ⟨T, 0, none⟩) (by rw [h.t0]; rfl)) hT
  exact ⟨(World.cell?_of_block eb).trans h.b0, (World.cell?_of_block eb).trans h.b1, (World.cell?_of_block eP).trans h.pc, (World.cell?_of_block eR).trans h.r0, (World.cell?_of_block eR).trans h.r1, (World.cell?_of_block eT).trans h.t0, (World.cell?_of_block eT).trans h.t1, (World.frozen?_of_block eR).trans h.fr0, (World.frozen?_of_block eR).trans h.fr1, (World.frozen?_of_block eT).trans h.ft1⟩
theorem RB.below {W W' : World} {b P R T : Nat} {F G : Int} {u s v : Value} (h : RB W b P R T F G u s v) (hb : Below W.heap.size W W') : RB W' b P R T F G u s v := h.kept (row := none) ⟨hb.os, hb.tape, hb.output, hb.size, fun i hi _ => hb.block i hi⟩ (by simp) (by simp) (by simp) (by simp)
theorem RB.alloc {W : World} {b P R T : Nat} {F G : Int} {u s v : Value} (h : RB W b P R T F G u s v) (o : Obj) : RB (W.alloc o) b P R T F G u s v := h.below ((Below.refl _ _).alloc (Nat.le_refl _) _)
theorem RB.drew {W : World} {b P R T : Nat} {F G : Int} {u s v : Value} (h : RB W b P R T F G u s v) : RB W.drew b P R T F G u s v := h.below ((Below.refl _ _).drew)
theorem RB.set {W : World} {b P R T : Nat} {F G : Int} {u s v : Value} (h : RB W b P R T F G u s v) (h1 : ¬ b = T) (h2 : ¬ P = T) (h3 : ¬ R = T) (z : Value) : RB (W.setCell ⟨T, 1, none⟩ z) b P R T F G u s z := by
  obtain ⟨b0, b1, pc, r0, r1, t0, t1, fr0, fr1, ft1⟩ := h
  exact ⟨by simp [*, go_sem], by simp [*, go_sem], by simp [*, go_sem], by simp [*, go_sem], by simp [*, go_sem], by simp [*, go_sem], by simp [*, go_sem], by simp [*, go_sem], by simp [*, go_sem], by simp [*, go_sem]⟩
end Go.Proofs.Ytbfaejacfhblkaa
