/- The boxes of the tables of costs: a pumping, the program's table. -/
import Derived.Test.YtofcienabddpjaaEImpl
import Derived.Test.YtofcienabddpjaaQPlain
import Derived.Deep.WholeRow
import Derived.BigRegion
namespace Go.Proofs.Ytofcienabddpjaa
open Go.RowKit

/-- A pumping in a box. -/
structure PB (W : World) (b : Nat) (L E M P : Int) (s1 s2 : Value) : Prop where
  p0 : W.cell? ⟨b, 0, none⟩ = some (.int .i64 L)
  p1 : W.cell? ⟨b, 1, none⟩ = some (.int .i64 E)
  p2 : W.cell? ⟨b, 2, none⟩ = some (.int .i64 M)
  p3 : W.cell? ⟨b, 3, none⟩ = some (.int .i64 P)
  p4 : W.cell? ⟨b, 4, none⟩ = some (s1)
  p5 : W.cell? ⟨b, 5, none⟩ = some (s2)
section
variable {W W' : World} {b : Nat} {L E M P : Int} {s1 s2 : Value}
theorem PB.lt (h : PB W b L E M P s1 s2) : b < W.heap.size := lt_of_cell (a := ⟨b, 0, none⟩) (by rw [h.p0]; rfl)
theorem PB.ofBlock (h : PB W b L E M P s1 s2) (e : W'.heap[b]? = W.heap[b]?) : PB W' b L E M P s1 s2 :=
  ⟨(World.cell?_of_block e).trans h.p0, (World.cell?_of_block e).trans h.p1, (World.cell?_of_block e).trans h.p2, (World.cell?_of_block e).trans h.p3, (World.cell?_of_block e).trans h.p4, (World.cell?_of_block e).trans h.p5⟩
theorem PB.kept {row : Option Nat} (h : PB W b L E M P s1 s2) (hg : W.grownBy W' row) (hb : some b ≠ row) : PB W' b L E M P s1 s2 := h.ofBlock (hg.block b h.lt hb)
theorem PB.below (h : PB W b L E M P s1 s2) (hb : Below W.heap.size W W') : PB W' b L E M P s1 s2 := h.ofBlock (hb.block b h.lt)
theorem PB.alloc (h : PB W b L E M P s1 s2) (o : Obj) : PB (W.alloc o) b L E M P s1 s2 := h.ofBlock (Below.heap_alloc W o b h.lt)
theorem PB.drew (h : PB W b L E M P s1 s2) : PB W.drew b L E M P s1 s2 := h.ofBlock rfl
theorem PB.set (h : PB W b L E M P s1 s2) {a : Addr} (hne : ¬ b = a.block) (v : Value) : PB (W.setCell a v) b L E M P s1 s2 := h.ofBlock (heap_setCell_other W a b v (fun e => hne e))
theorem PB.new (w : World) (L E M P : Int) (s1 s2 : Value) : PB (w.alloc (.cells #[.int .i64 L, .int .i64 E, .int .i64 M, .int .i64 P, s1, s2] 28)) w.heap.size L E M P s1 s2 :=
  ⟨by simp [go_sem], by simp [go_sem], by simp [go_sem], by simp [go_sem], by simp [go_sem], by simp [go_sem]⟩
end
/-- What the walk over the table needs of the numbers. -/
structure NumB (L E M P : Int) (qs ys : List Int) : Prop where
  e0 : 0 ≤ E
  el : E ≤ L
  lm : L ≤ M
  m1 : M ≤ 60
  p0 : 0 ≤ P
  p1 : P ≤ 10
  n1 : 1 ≤ ys.length
  n2 : ys.length ≤ 12
  nq : qs.length = ys.length
  hq : ∀ j, j < ys.length → 0 ≤ qs.getD j 0 ∧ qs.getD j 0 ≤ 100
  hy : ∀ j, j < ys.length → 0 ≤ ys.getD j 0 ∧ ys.getD j 0 ≤ 100
theorem NumB.of {L E M P : Int} {xs ys : List Int} (g : goodPm L E M P xs ys = true) : NumB L E M P xs ys := by
  have a := goodPm_out g
  exact ⟨a.1, a.2.1, a.2.2.1, a.2.2.2.1, a.2.2.2.2.1, a.2.2.2.2.2.1, by omega, by omega, by omega, fun j hj => allH_out a.2.2.2.2.2.2.2.2.2.1 j (by omega), fun j hj => allH_out a.2.2.2.2.2.2.2.2.2.2 j (by omega)⟩
theorem below_drew {B : Nat} {w w' : World} (h : Below B w w') : Below B w w'.drew := ⟨h.os, h.tape, h.output, h.size, h.block⟩
/-- A table of 793 numbers in a block. -/
structure TabI (W : World) (T : Nat) (F : Nat → Int) : Prop where
  cell : ∀ i, i < 793 → W.cell? ⟨T, i, none⟩ = some (.int .i64 (F i))
  free : ∀ i, i < 793 → W.frozen? ⟨T, i, none⟩ = false
def updN (F : Nat → Int) (i : Nat) (v : Int) (j : Nat) : Int := if j = i then v else F j
theorem updN_self (F : Nat → Int) (i : Nat) (v : Int) : updN F i v i = v := by unfold updN; rw [if_pos rfl]
theorem updN_ne (F : Nat → Int) {i j : Nat} (v : Int) (h : j ≠ i) : updN F i v j = F j := by unfold updN; rw [if_neg h]
section
variable {W W' : World} {T : Nat} {F : Nat → Int}
theorem TabI.lt (h : TabI W T F) : T < W.heap.size := lt_of_cell (a := ⟨T, 0, none⟩) (by rw [h.cell 0 (by omega)]; rfl)
theorem TabI.ofBlock (h : TabI W T F) (e : W'.heap[T]? = W.heap[T]?) : TabI W' T F :=
  ⟨fun i hi => (World.cell?_of_block e).trans (h.cell i hi), fun i hi => (World.frozen?_of_block e).trans (h.free i hi)⟩
theorem TabI.kept {row : Option Nat} (h : TabI W T F) (hg : W.grownBy W' row) (hb : some T ≠ row) : TabI W' T F := h.ofBlock (hg.block T h.lt hb)
theorem TabI.below (h : TabI W T F) (hb : Below W.heap.size W W') : TabI W' T F := h.ofBlock (hb.block T h.lt)
theorem TabI.drew (h : TabI W T F) : TabI W.drew T F := h.ofBlock rfl
theorem TabI.set (h : TabI W T F) {i : Nat} (hi : i < 793) (v : Int) : TabI (W.setCell ⟨T, i, none⟩ (.int .i64 v)) T (updN F i v) := by
  have c := h.cell i hi
  refine ⟨fun j hj => ?_, fun j hj => ?_⟩
  · by_cases e : j = i
    · subst e
      rw [updN_self]
      simp [c, go_sem]
    · rw [updN_ne F v e]
      have ne : (⟨T, i, none⟩ : Addr) ≠ ⟨T, j, none⟩ := fun q => e (congrArg Addr.off q).symm
      rw [World.cell?_setCell_other (h := ne)]
      exact h.cell j hj
  · simpa [go_sem] using h.free j hj
theorem zeroCells : Try.zeroCells90 = Array.replicate 793 (.int .i64 0) := by kernel_rfl
theorem TabI.new (w : World) : TabI (w.alloc (.cells Try.zeroCells90 90)) w.heap.size (fun _ => 0) := by
  rw [zeroCells]
  refine ⟨fun i hi => ?_, fun i hi => ?_⟩
  · rw [World.cell?_alloc_new]
    simp [hi]
  · simp [go_sem]
end
/-- The level behind an hour, and whether nothing is spilled or missing. -/
theorem after_c {B' : Nat} (L E M P : Int) (A A' : Option Addr) (c c' : Nat) (xs ys : List Int) (w : World) (h' : RdI w B' A' ys) (hS2 : B' ≤ w.heap.size) (k l v : Nat) (hk : k < ys.length) (hy : 0 ≤ ys.getD k 0 ∧ ys.getD k 0 ≤ 100) (hl : l ≤ 100) (hv : v ≤ 100) :
    Calls Try.prog 73 #[.agg #[.int .i64 L, .int .i64 E, .int .i64 M, .int .i64 P, .slice A xs.length c, .slice A' ys.length c'], .int .i64 k, .int .i64 l, .int .i64 v] w fun e w' => e = .returned (.tuple #[.int .i64 (l + v - ys.getD k 0), .bool (okV E M l v (ys.getD k 0))]) ∧ Below w.heap.size w w' := by
  have e : okV E M l v (ys.getD k 0) = (decide ((l : Int) + v ≤ M) && decide (E ≤ (l : Int) + v - ys.getD k 0)) := by
    rw [Bool.eq_iff_iff, okV_iff]; simp
  rw [e]
  obtain ⟨b, off, u, rfl, hu, hb, hc⟩ := h'.at_ hk
  rw [← hu] at hy ⊢
  have hn : ¬ b = w.heap.size := by omega
  have hn2 : ¬ w.heap.size = b := by omega
  have hi : (k : Int) < (ys.length : Int) := by omega
  have w1 : IntKind.i64.wrap ((l : Int) + v) = l + v := IntWalk.i64_in _ (by omega)
  have w2 : IntKind.i64.wrap ((l : Int) + v - u) = l + v - u := IntWalk.i64_in _ (by omega)
  clear hu h' hb e hy
  by_cases h1 : (l : Int) + v ≤ M
  · by_cases h2 : E ≤ (l : Int) + v - u
    all_goals
      have d1 : decide ((l : Int) + v ≤ M) = true := by simp [h1]
      go_enter Try.func73, Try.ntmps73
      go_wp2_with fail
      go_quiet (fail)
      go_wp2
      (go_returns; exact ⟨by first | rfl | (simp; done) | (simp; omega), by (repeat' (first | (with_reducible exact Below.refl _ _) | (with_reducible assumption) | (with_reducible refine below_drewN ?_ _) | (with_reducible refine Below.alloc ?_ ?_ _) | (with_reducible refine Below.drew ?_) | (with_reducible refine Below.setCell ?_ ?_ _) | go_size))⟩)
  · have d1 : decide ((l : Int) + v ≤ M) = false := by simp [h1]
    go_enter Try.func73, Try.ntmps73
    go_wp2_with fail
    go_quiet (fail)
    go_wp2
    (go_returns; exact ⟨by first | rfl | (simp; done) | (simp; omega), by (repeat' (first | (with_reducible exact Below.refl _ _) | (with_reducible assumption) | (with_reducible refine below_drewN ?_ _) | (with_reducible refine Below.alloc ?_ ?_ _) | (with_reducible refine Below.drew ?_) | (with_reducible refine Below.setCell ?_ ?_ _) | go_size))⟩)
end Go.Proofs.Ytofcienabddpjaa
