/- The marks of a pumping. -/
import Derived.Test.YtofcienabddpjaaUOpen
namespace Go.Proofs.Ytofcienabddpjaa
open Go.RowKit

theorem markPumping_c (L E M P : Int) (A A' : Option Addr) (c c' base base' : Nat) (xs ys : List Int) (k0 : Int) (w : World) (o : OwnI w base (.slice A xs.length c) xs) (o' : OwnI w base' (.slice A' ys.length c') ys) (ap : (Value.slice A' ys.length c').ownBlock = none ∨ (Value.slice A' ys.length c').ownBlock ≠ (Value.slice A xs.length c).ownBlock) (h0 : 0 ≤ k0) (h1 : k0 ≤ 1000) (hm : xs.length ≤ 1048576) (hm' : ys.length ≤ 1048576) :
    Calls Try.prog 35 #[.agg #[.int .i64 L, .int .i64 E, .int .i64 M, .int .i64 P, .slice A xs.length c, .slice A' ys.length c'], .int .i64 k0] w fun e w' => ∃ wm : World, e = .returned (.int .i64 (k0 + xs.length + ys.length)) ∧ w.grownBy wm (Value.slice A xs.length c).ownBlock ∧ wm.grownBy w' (Value.slice A' ys.length c').ownBlock := by
  obtain ⟨W, hW⟩ : ∃ W, W = w.alloc (.cells #[.int .i64 L, .int .i64 E, .int .i64 M, .int .i64 P, .slice A xs.length c, .slice A' ys.length c'] 28) := ⟨_, rfl⟩
  have oW : OwnI W base (.slice A xs.length c) xs := by rw [hW]; exact o.alloc _
  have oW' : OwnI W base' (.slice A' ys.length c') ys := by rw [hW]; exact o'.alloc _
  have d4 : W.cell? ⟨w.heap.size, 4, none⟩ = some (.slice A xs.length c) := by rw [hW]; simp [go_sem]
  have d5 : W.cell? ⟨w.heap.size, 5, none⟩ = some (.slice A' ys.length c') := by rw [hW]; simp [go_sem]
  have g0 : w.grownBy W (Value.slice A xs.length c).ownBlock := by rw [hW]; exact World.grownBy_alloc _ _ _
  have hne : some w.heap.size ≠ (Value.slice A xs.length c).ownBlock := fun e => by have := (o.lt _ e.symm).2; omega
  have hlW : w.heap.size < W.heap.size := by rw [hW]; simp
  have HW := Lib.hid hW
  clear hW o o'
  go_enter Try.func35, Try.ntmps35
  go_wp2_with fail
  rw [← HW.out]
  clear HW
  go_wp2_with fail
  refine (markIntS_c A c base xs k0 W oW h0 (by omega) (by omega)).mono ?_
  rintro e w1 ⟨rfl, om, hg⟩
  have e5 : w1.cell? ⟨w.heap.size, 5, none⟩ = some (.slice A' ys.length c') := (World.cell?_of_block (hg.block _ hlW hne)).trans d5
  have o1 := oW'.kept hg ap
  clear d4 d5 om oW oW'
  go_wp2_with fail
  refine (markIntS_c A' c' base' ys (k0 + xs.length) w1 o1 (by omega) (by omega) (by omega)).mono ?_
  rintro e w2 ⟨rfl, om2, hg2⟩
  clear om2 e5
  go_wp2
  go_ret
  exact ⟨w1, rfl, grown_trans g0 hg, hg2⟩
end Go.Proofs.Ytofcienabddpjaa
