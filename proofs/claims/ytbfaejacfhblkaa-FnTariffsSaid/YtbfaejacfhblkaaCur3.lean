/- More on the cursor: draws of the tape, readings. -/
import Derived.Test.YtbfaejacfhblkaaCur2
namespace Go.Proofs.Ytbfaejacfhblkaa
open Go.RowKit
theorem RdB.more {w : World} {B B' : Nat} {A : Option Addr} {n : Nat} (h : RdB w B A n) (hB : B ≤ B') : RdB w B' A n := fun hp => by
  obtain ⟨b, off, hA, hb, hc⟩ := h hp
  exact ⟨b, off, hA, by omega, hc⟩
theorem RdB.below {w w' : World} {B : Nat} {A : Option Addr} {n : Nat} (h : RdB w B A n) (hb : Below B w w') : RdB w' B A n := h.keep fun _ hp => World.cell?_of_block (hb.block _ hp)
theorem Cur.drew {w : World} {b : Nat} {A : Option Addr} {n c m : Nat} (h : Cur w b A n c m) : Cur w.drew b A n c m := ⟨h.lt, h.code, h.pos, h.seed, h.f1, h.f2, h.rd⟩
theorem Cur.drewN {w : World} {b : Nat} {A : Option Addr} {n c m : Nat} (h : Cur w b A n c m) (k : Nat) : Cur (w.drewN k) b A n c m := ⟨h.lt, h.code, h.pos, h.seed, h.f1, h.f2, h.rd⟩
theorem grown_undrew {w w' : World} {row : Option Nat} (g : w.drew.grownBy w' row) : w.grownBy w' row := ⟨g.os, g.tape, g.output, g.size, g.block⟩
theorem grown_drew {w w' : World} {row : Option Nat} (g : w.grownBy w' row) : w.grownBy w'.drew row := ⟨g.os, g.tape, g.output, g.size, g.block⟩
theorem grown_drewN {w w' : World} {row : Option Nat} (g : w.grownBy w' row) (k : Nat) : w.grownBy (w'.drewN k) row := ⟨g.os, g.tape, g.output, g.size, g.block⟩
/-- What grows a younger block grows the older frame too. -/
theorem grown_own {w W w' : World} {b : Nat} {row : Option Nat} (g : w.grownBy W (some b)) (h : W.grownBy w' row) (hr : ∀ k, row = some k → w.heap.size ≤ k) : w.grownBy w' (some b) :=
  ⟨h.os.trans g.os, h.tape.trans g.tape, h.output.trans g.output, Nat.le_trans g.size h.size, fun k hk hne => (h.block k (Nat.lt_of_lt_of_le hk g.size) (fun e => by have := hr k e.symm; omega)).trans (g.block k hk hne)⟩
theorem Cur.kept {w w' : World} {b : Nat} {A : Option Addr} {n c m : Nat} {row : Option Nat} (h : Cur w b A n c m) (g : w.grownBy w' row) (hr : ∀ k, row = some k → b < k) : Cur w' b A n c m := by
  have hl := h.lt
  have e : ∀ p : Addr, p.block ≤ b → w'.cell? p = w.cell? p := fun p hp => World.cell?_of_block (g.block p.block (by omega) (fun e => by have := hr _ e.symm; omega))
  have f : ∀ p : Addr, p.block ≤ b → w'.frozen? p = w.frozen? p := fun p hp => World.frozen?_of_block (g.block p.block (by omega) (fun e => by have := hr _ e.symm; omega))
  refine ⟨Nat.lt_of_lt_of_le hl g.size, (e _ (Nat.le_refl _)).trans h.code, ?_, ?_, (f _ (Nat.le_refl _)).trans h.f1, (f _ (Nat.le_refl _)).trans h.f2, h.rd.keep fun a ha => e a (Nat.le_of_lt ha)⟩
  · obtain ⟨k, hk, hc⟩ := h.pos
    exact ⟨k, hk, (e _ (Nat.le_refl _)).trans hc⟩
  · obtain ⟨s, hs⟩ := h.seed
    exact ⟨s, (e _ (Nat.le_refl _)).trans hs⟩
end Go.Proofs.Ytbfaejacfhblkaa
