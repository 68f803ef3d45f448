/- Contracts: the cursor that draws, continued. -/
import Derived.Test.YtbfaejacfhblkaaCur
namespace Go.Proofs.Ytbfaejacfhblkaa
open Go.RowKit

theorem Box3.far' {w w' : World} {b p : Nat} {V N D : Int} (h : Box3 w p V N D) (g : w.grownBy w' (some b)) (hb : p ≠ b) : Box3 w' p V N D := by
  obtain ⟨⟨a0, a1, a2⟩, f0, f1, f2⟩ := h
  have e := g.block p (lt_of_cell (a := ⟨p, 0, none⟩) (by rw [a0]; rfl)) (fun e => hb (Option.some.inj e))
  exact ⟨⟨(World.cell?_of_block e).trans a0, (World.cell?_of_block e).trans a1, (World.cell?_of_block e).trans a2⟩, (World.frozen?_of_block e).trans f0, (World.frozen?_of_block e).trans f1, (World.frozen?_of_block e).trans f2⟩
/-- Numbers laid out, behind a call that draws. -/
theorem lits_far {w w' : World} {b : Nat} {cs : Array Value} {t : TypeId} (ys : List Int) (g : (w.alloc (.cells cs t)).grownBy w' (some b)) (hb : b < w.heap.size) (hcs : cs = (ys.map (Value.int .i64)).toArray) : ∀ j, j < ys.length → w'.cell? ⟨w.heap.size, j, none⟩ = some (.int .i64 (ys.getD j 0)) := fun j hj => by
  refine far_cell g ?_ hb
  rw [World.cell?_alloc_new, hcs]
  simp [List.getD_eq_getElem?_getD, hj]
theorem amongT_c (b : Nat) (A : Option Addr) (n c m : Nat) (ys : List Int) (w : World) (h : Cur w b A n c m) (q k k' : Nat) (hm : m ≤ 100000000) (hqb : q ≠ b) (hq : q < w.heap.size) (hc : ∀ j, j < ys.length → w.cell? ⟨q, j, none⟩ = some (.int .i64 (ys.getD j 0))) (hk0 : 0 < k) (hk : k ≤ ys.length) (hl2 : ys.length ≤ 60000) :
    Calls Try.prog 73 #[.pointer (some ⟨b, 0, none⟩), .slice (some ⟨q, 0, none⟩) k k'] w fun e w' => ∃ z : Int, z ∈ ys ∧ e = .returned (.int .i64 z) ∧ Cur w' b A n c (m + 2) ∧ w.grownBy w' (some b) := by
  have hl : (ys.take k).length = k := by rw [List.length_take]; omega
  have hr : RdI w w.heap.size (some ⟨q, 0, none⟩) (ys.take k) := fun _ => by
    refine ⟨q, 0, rfl, hq, fun j hj => ?_⟩
    rw [hl] at hj
    rw [Nat.zero_add, hc j (by omega)]
    simp [List.getD_eq_getElem?_getD, hj]
  have X := among_c b A n c m (some ⟨q, 0, none⟩) k' (ys.take k) w h hm hr (by omega) (by omega) (fun g off e => by simp at e; omega) (Nat.le_refl _)
  rw [hl] at X
  refine X.mono ?_
  rintro e w' ⟨j, hj, rfl, C, g⟩
  refine ⟨_, ?_, rfl, C, g⟩
  have hj2 : j < ys.length := by omega
  simp [List.getD_eq_getElem?_getD, hj, hj2]
theorem below_grown {w W w' : World} {b B : Nat} (hB : B ≤ w.heap.size) (h : Below B w W) (g : W.grownBy w' (some b)) (hb : B ≤ b) : Below B w w' :=
  ⟨g.os.trans h.os, g.tape.trans h.tape, g.output.trans h.output, Nat.le_trans h.size g.size, fun i hi => (g.block i (Nat.lt_of_lt_of_le hi (Nat.le_trans hB h.size)) (fun e => by have := Option.some.inj e; omega)).trans (h.block i hi)⟩
/-- A new cursor. -/
theorem Cur.new {w : World} {A : Option Addr} {n : Nat} (c : Nat) (t : TypeId) (h : RdB w w.heap.size A n) : Cur (w.alloc (.cells #[.slice A n c, .int .i64 0, .int .u64 0] t)) w.heap.size A n c 0 :=
  ⟨by rw [World.size_alloc]; omega, by simp [go_sem], ⟨0, Nat.le_refl _, by simp [go_sem]⟩, ⟨0, by simp [go_sem]⟩, by simp [go_sem], by simp [go_sem], h.keep fun p hp => World.cell?_alloc_lt w _ p hp⟩
end Go.Proofs.Ytbfaejacfhblkaa
