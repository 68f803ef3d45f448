/- Contracts: areas drawn, the box. -/
import Derived.Test.YtdkhiedgikjnkaaDrawR
namespace Go.Proofs.Ytdkhiedgikjnkaa
open Go.RowKit

/-- An area in a box that may be written. -/
structure NB (W : World) (b : Nat) (I H : Int) (s : Value) : Prop where
  p0 : W.cell? ⟨b, 0, none⟩ = some (.int .i64 I)
  p1 : W.cell? ⟨b, 1, none⟩ = some (.int .i64 H)
  p2 : W.cell? ⟨b, 2, none⟩ = some s
  f0 : W.frozen? ⟨b, 0, none⟩ = false
  f1 : W.frozen? ⟨b, 1, none⟩ = false
  f2 : W.frozen? ⟨b, 2, none⟩ = false
section
variable {W W' : World} {b : Nat} {I H : Int} {s : Value}
theorem NB.lt (h : NB W b I H s) : b < W.heap.size := lt_of_cell (a := ⟨b, 0, none⟩) (by rw [h.p0]; rfl)
theorem NB.ofBlock (h : NB W b I H s) (e : W'.heap[b]? = W.heap[b]?) : NB W' b I H s :=
  ⟨(World.cell?_of_block e).trans h.p0, (World.cell?_of_block e).trans h.p1, (World.cell?_of_block e).trans h.p2, (World.frozen?_of_block e).trans h.f0, (World.frozen?_of_block e).trans h.f1, (World.frozen?_of_block e).trans h.f2⟩
theorem NB.kept {row : Option Nat} (h : NB W b I H s) (hg : W.grownBy W' row) (hb : some b ≠ row) : NB W' b I H s := h.ofBlock (hg.block b h.lt hb)
theorem NB.below (h : NB W b I H s) (hb : Below W.heap.size W W') : NB W' b I H s := h.ofBlock (hb.block b h.lt)
theorem NB.alloc (h : NB W b I H s) (o : Obj) : NB (W.alloc o) b I H s := h.ofBlock (Below.heap_alloc W o b h.lt)
theorem NB.drew (h : NB W b I H s) : NB W.drew b I H s := h.ofBlock rfl
theorem NB.drewN (h : NB W b I H s) (k : Nat) : NB (W.drewN k) b I H s := h.ofBlock rfl
theorem NB.setOther (h : NB W b I H s) {a : Addr} (hne : ¬ b = a.block) (v : Value) : NB (W.setCell a v) b I H s := h.ofBlock (heap_setCell_other W a b v (fun e => hne e))
theorem NB.set0 (h : NB W b I H s) (u : Int) : NB (W.setCell ⟨b, 0, none⟩ (.int .i64 u)) b u H s := by
  obtain ⟨p0, p1, p2, f0, f1, f2⟩ := h
  exact ⟨by simp [*, go_sem], by simp [*, go_sem], by simp [*, go_sem], by simp [*, go_sem], by simp [*, go_sem], by simp [*, go_sem]⟩
theorem NB.set1 (h : NB W b I H s) (u : Int) : NB (W.setCell ⟨b, 1, none⟩ (.int .i64 u)) b I u s := by
  obtain ⟨p0, p1, p2, f0, f1, f2⟩ := h
  exact ⟨by simp [*, go_sem], by simp [*, go_sem], by simp [*, go_sem], by simp [*, go_sem], by simp [*, go_sem], by simp [*, go_sem]⟩
theorem NB.set2 (h : NB W b I H s) (u : Value) : NB (W.setCell ⟨b, 2, none⟩ u) b I H u := by
  obtain ⟨p0, p1, p2, f0, f1, f2⟩ := h
  exact ⟨by simp [*, go_sem], by simp [*, go_sem], by simp [*, go_sem], by simp [*, go_sem], by simp [*, go_sem], by simp [*, go_sem]⟩
theorem NB.new (w : World) (I H : Int) (s : Value) : NB (w.alloc (.cells #[.int .i64 I, .int .i64 H, s] 32)) w.heap.size I H s :=
  ⟨by simp [go_sem], by simp [go_sem], by simp [go_sem], by simp [go_sem], by simp [go_sem], by simp [go_sem]⟩
end
theorem fin3 {w W : World} {b base n c m : Nat} {A : Option Addr} {v : Value} {xs : List Int} (C : Cur W b A n c m) (G : w.grownBy W (some b)) (O : OwnI W base v xs) (hb : b < w.heap.size) (hR : w.heap.size < base) (u0 u1 u2 : Value) :
    Cur (((W.setCell ⟨w.heap.size, 0, none⟩ u0).setCell ⟨w.heap.size, 1, none⟩ u1).setCell ⟨w.heap.size, 2, none⟩ u2) b A n c m ∧
    w.grownBy (((W.setCell ⟨w.heap.size, 0, none⟩ u0).setCell ⟨w.heap.size, 1, none⟩ u1).setCell ⟨w.heap.size, 2, none⟩ u2) (some b) ∧
    OwnI (((W.setCell ⟨w.heap.size, 0, none⟩ u0).setCell ⟨w.heap.size, 1, none⟩ u1).setCell ⟨w.heap.size, 2, none⟩ u2) w.heap.size v xs :=
  ⟨((C.setOther hb _).setOther hb _).setOther hb _, grown_set (grown_set (grown_set G (Nat.le_refl _) _) (Nat.le_refl _) _) (Nat.le_refl _) _, (own_set (own_set (own_set O hR _) hR _) hR _).weak (Nat.le_of_lt hR)⟩
end Go.Proofs.Ytdkhiedgikjnkaa
