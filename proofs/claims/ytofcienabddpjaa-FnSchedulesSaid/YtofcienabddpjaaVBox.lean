/- Contracts: pumpings drawn, the box. -/
import Derived.Test.YtofcienabddpjaaVTank
import Derived.Test.YtofcienabddpjaaCur3
import Derived.Test.YtofcienabddpjaaAppK
import Derived.Deep.RegionLaw
namespace Go.Proofs.Ytofcienabddpjaa
open Go.RowKit

/-- A pumping in a box that may be written. -/
structure QB (W : World) (b : Nat) (L E M P : Int) (s1 s2 : Value) : Prop where
  p0 : W.cell? ⟨b, 0, none⟩ = some (.int .i64 L)
  p1 : W.cell? ⟨b, 1, none⟩ = some (.int .i64 E)
  p2 : W.cell? ⟨b, 2, none⟩ = some (.int .i64 M)
  p3 : W.cell? ⟨b, 3, none⟩ = some (.int .i64 P)
  p4 : W.cell? ⟨b, 4, none⟩ = some (s1)
  p5 : W.cell? ⟨b, 5, none⟩ = some (s2)
  f0 : W.frozen? ⟨b, 0, none⟩ = false
  f1 : W.frozen? ⟨b, 1, none⟩ = false
  f2 : W.frozen? ⟨b, 2, none⟩ = false
  f3 : W.frozen? ⟨b, 3, none⟩ = false
  f4 : W.frozen? ⟨b, 4, none⟩ = false
  f5 : W.frozen? ⟨b, 5, none⟩ = false
section
variable {W W' : World} {b : Nat} {L E M P : Int} {s1 s2 : Value}
theorem QB.lt (h : QB W b L E M P s1 s2) : b < W.heap.size := lt_of_cell (a := ⟨b, 0, none⟩) (by rw [h.p0]; rfl)
theorem QB.ofBlock (h : QB W b L E M P s1 s2) (e : W'.heap[b]? = W.heap[b]?) : QB W' b L E M P s1 s2 :=
  ⟨(World.cell?_of_block e).trans h.p0, (World.cell?_of_block e).trans h.p1, (World.cell?_of_block e).trans h.p2, (World.cell?_of_block e).trans h.p3, (World.cell?_of_block e).trans h.p4, (World.cell?_of_block e).trans h.p5, (World.frozen?_of_block e).trans h.f0, (World.frozen?_of_block e).trans h.f1, (World.frozen?_of_block e).trans h.f2, (World.frozen?_of_block e).trans h.f3, (World.frozen?_of_block e).trans h.f4, (World.frozen?_of_block e).trans h.f5⟩
theorem QB.kept {row : Option Nat} (h : QB W b L E M P s1 s2) (hg : W.grownBy W' row) (hb : some b ≠ row) : QB W' b L E M P s1 s2 := h.ofBlock (hg.block b h.lt hb)
theorem QB.below (h : QB W b L E M P s1 s2) (hb : Below W.heap.size W W') : QB W' b L E M P s1 s2 := h.ofBlock (hb.block b h.lt)
theorem QB.alloc (h : QB W b L E M P s1 s2) (o : Obj) : QB (W.alloc o) b L E M P s1 s2 := h.ofBlock (Below.heap_alloc W o b h.lt)
theorem QB.drew (h : QB W b L E M P s1 s2) : QB W.drew b L E M P s1 s2 := h.ofBlock rfl
theorem QB.drewN (h : QB W b L E M P s1 s2) (k : Nat) : QB (W.drewN k) b L E M P s1 s2 := h.ofBlock rfl
theorem QB.setOther (h : QB W b L E M P s1 s2) {a : Addr} (hne : ¬ b = a.block) (v : Value) : QB (W.setCell a v) b L E M P s1 s2 := h.ofBlock (heap_setCell_other W a b v (fun e => hne e))
theorem QB.set3 (h : QB W b L E M P s1 s2) (u : Int) : QB (W.setCell ⟨b, 3, none⟩ (.int .i64 u)) b L E M u s1 s2 := by
  obtain ⟨p0, p1, p2, p3, p4, p5, f0, f1, f2, f3, f4, f5⟩ := h
  exact ⟨by simp [*, go_sem], by simp [*, go_sem], by simp [*, go_sem], by simp [*, go_sem], by simp [*, go_sem], by simp [*, go_sem], by simp [*, go_sem], by simp [*, go_sem], by simp [*, go_sem], by simp [*, go_sem], by simp [*, go_sem], by simp [*, go_sem]⟩
theorem QB.set4 (h : QB W b L E M P s1 s2) (u : Value) : QB (W.setCell ⟨b, 4, none⟩ u) b L E M P u s2 := by
  obtain ⟨p0, p1, p2, p3, p4, p5, f0, f1, f2, f3, f4, f5⟩ := h
  exact ⟨by simp [*, go_sem], by simp [*, go_sem], by simp [*, go_sem], by simp [*, go_sem], by simp [*, go_sem], by simp [*, go_sem], by simp [*, go_sem], by simp [*, go_sem], by simp [*, go_sem], by simp [*, go_sem], by simp [*, go_sem], by simp [*, go_sem]⟩
theorem QB.set5 (h : QB W b L E M P s1 s2) (u : Value) : QB (W.setCell ⟨b, 5, none⟩ u) b L E M P s1 u := by
  obtain ⟨p0, p1, p2, p3, p4, p5, f0, f1, f2, f3, f4, f5⟩ := h
  exact ⟨by simp [*, go_sem], by simp [*, go_sem], by simp [*, go_sem], by simp [*, go_sem], by simp [*, go_sem], by simp [*, go_sem], by simp [*, go_sem], by simp [*, go_sem], by simp [*, go_sem], by simp [*, go_sem], by simp [*, go_sem], by simp [*, go_sem]⟩
theorem QB.new (w : World) (L E M P : Int) (s1 s2 : Value) : QB (w.alloc (.cells #[.int .i64 L, .int .i64 E, .int .i64 M, .int .i64 P, s1, s2] 28)) w.heap.size L E M P s1 s2 :=
  ⟨by simp [go_sem], by simp [go_sem], by simp [go_sem], by simp [go_sem], by simp [go_sem], by simp [go_sem], by simp [go_sem], by simp [go_sem], by simp [go_sem], by simp [go_sem], by simp [go_sem], by simp [go_sem]⟩
end
end Go.Proofs.Ytofcienabddpjaa
