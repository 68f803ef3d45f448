/- Contracts: what the great laws on contents draw. -/
import Derived.Test.YtbcgcpdnmpejlaaCur2
import Derived.Test.YtbcgcpdnmpejlaaCDraw
namespace Go.Proofs.Ytbcgcpdnmpejlaa
open Go.RowKit

theorem liters_c (b : Nat) (A : Option Addr) (n c m : Nat) (w : World) (h : Cur w b A n c m) (hm : m ≤ 1000000) :
    Calls Try.prog 62 #[.pointer (some ⟨b, 0, none⟩)] w fun e w' => ∃ v : Int, 0 ≤ v ∧ v ≤ 101 ∧ e = .returned (.int .i64 v) ∧ Cur w' b A n c (m + 4) ∧ w.grownBy w' (some b) := by
  have hlt := h.lt
  go_enter Try.func62, Try.ntmps62
  go_wp2_with fail
  refine (pick_c b A n c m 24 _ (h.alloc _) (by omega) (by omega)).mono ?_
  rintro e w1 ⟨y, y0, y1, rfl, C1, g1⟩
  have hc := lits_far [1, 2, 5, 9, 10, 40, 100, 0, 101] g1 hlt rfl
  have hs := g1.size
  rw [World.size_alloc] at hs
  have G1 := grown_trans (World.grownBy_alloc w _ (some b)) g1
  clear g1 h
  obtain ⟨k, hk⟩ : ∃ k : Nat, y.tdiv 11 = k ∧ k ≤ 2 := ⟨(y / 11).toNat, by rw [Int.tdiv_eq_ediv_of_nonneg y0]; omega, by omega⟩
  have HC := Lib.hid hc
  clear hc
  go_wp2_with fail
  refine (amongT_c b A n c (m + 2) [1, 2, 5, 9, 10, 40, 100, 0, 101] w1 C1 w.heap.size (7 + k) 9 (by omega) (by omega) (by omega) HC.out (by omega) (by simp; omega) (by simp)).mono ?_
  rintro e w2 ⟨z, hz, rfl, C2, g2⟩
  have hb : 0 ≤ z ∧ z ≤ 101 := by simp at hz; omega
  clear HC C1 hz
  go_wp2
  go_ret
  exact ⟨z, hb.1, hb.2, rfl, C2, grown_trans G1 g2⟩
theorem RdB.more {w : World} {B B' : Nat} {A : Option Addr} {n : Nat} (h : RdB w B A n) (hB : B ≤ B') : RdB w B' A n := fun hp => by
  obtain ⟨b, off, hA, hb, hc⟩ := h hp
  exact ⟨b, off, hA, by omega, hc⟩
theorem RdB.below {w w' : World} {B : Nat} {A : Option Addr} {n : Nat} (h : RdB w B A n) (hb : Below B w w') : RdB w' B A n := h.keep fun _ hp => World.cell?_of_block (hb.block _ hp)
theorem lits_new {w : World} {cs : Array Value} {t : TypeId} (ys : List Int) (hcs : cs = (ys.map (Value.int .i64)).toArray) : ∀ j, j < ys.length → (w.alloc (.cells cs t)).cell? ⟨w.heap.size, j, none⟩ = some (.int .i64 (ys.getD j 0)) := fun j hj => by
  rw [World.cell?_alloc_new, hcs]
  simp [List.getD_eq_getElem?_getD, hj]
theorem Cur.drew {w : World} {b : Nat} {A : Option Addr} {n c m : Nat} (h : Cur w b A n c m) : Cur w.drew b A n c m := ⟨h.lt, h.code, h.pos, h.seed, h.f1, h.f2, h.rd⟩
theorem Box3.drew {w : World} {p : Nat} {V N D : Int} (h : Box3 w p V N D) : Box3 w.drew p V N D := h
theorem grown_undrew {w w' : World} {row : Option Nat} (g : w.drew.grownBy w' row) : w.grownBy w' row := ⟨g.os, g.tape, g.output, g.size, g.block⟩
theorem Cur.drewN {w : World} {b : Nat} {A : Option Addr} {n c m : Nat} (h : Cur w b A n c m) (k : Nat) : Cur (w.drewN k) b A n c m := ⟨h.lt, h.code, h.pos, h.seed, h.f1, h.f2, h.rd⟩
theorem Box3.drewN {w : World} {p : Nat} {V N D : Int} (h : Box3 w p V N D) (k : Nat) : Box3 (w.drewN k) p V N D := h
end Go.Proofs.Ytbcgcpdnmpejlaa
