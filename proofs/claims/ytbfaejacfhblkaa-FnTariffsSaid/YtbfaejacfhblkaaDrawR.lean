/- Draws inside regions: calls of the cursor behind a draw, appends, stores of what is one's own. -/
import Derived.Test.YtbfaejacfhblkaaCur3
import Derived.Test.YtbfaejacfhblkaaAppK
import Derived.Deep.RegionLaw
namespace Go.Proofs.Ytbfaejacfhblkaa
open Go.RowKit

theorem own_far {w w' : World} {base b : Nat} {v : Value} {xs : List Int} (h : OwnI w base v xs) (g : w.grownBy w' (some b)) (hb : b < base) : OwnI w' base v xs := h.kept g (.inr (fun q => by have := (h.lt b q).1; omega))
theorem own_ge {w : World} {base : Nat} {v : Value} {l : List Int} (o : OwnI w base v l) : ∀ k, v.ownBlock = some k → base ≤ k := fun k hk => (o.lt k hk).1
theorem own_set {w : World} {base : Nat} {v : Value} {xs : List Int} (h : OwnI w base v xs) {a : Addr} (ha : a.block < base) (u : Value) : OwnI (w.setCell a u) base v xs := ownsRow_setCell_below h ha u
theorem lone_lit (w : World) (z : Int) : RdI (w.alloc (.cells #[.int .i64 z] 3)) (w.heap.size + 1) (some ⟨w.heap.size, 0, none⟩) [z] := RdI.one w z
theorem step_appK {wr : World} {B : Nat} {ops : Array Oper} {o : Oper} {a : Act} {K : Act → World → Prop} {Q : Exit → Act → World → Prop} {E : Prop} (hgd : o.guard = none) (s x : Operand)
    (ho : o.op = .call { callee := .builtin .append, args := #[s, x], argTypes := #[44, 44] }) (base : Nat) (v : Value) (ad : Addr) (c : Nat) (xs ys : List Int)
    (hs : a.eval s = v) (hown : OwnI wr base v xs) (hx : a.eval x = .slice (some ad) ys.length c) (hrd : RdI wr B (some ad) ys) (hlen : xs.length ≤ 65536) (hlen2 : ys.length ≤ 1048576) (hbase : base ≤ wr.heap.size)
    (h : ∀ v' w', OwnI w' base v' (xs ++ ys) → wr.grownBy w' v.ownBlock → (v'.ownBlock = v.ownBlock ∨ v'.ownBlock = some wr.heap.size) → K (a.put o.dst v') w') :
    if Region.wanted o (yielded ops a.tmps) = true then Oper.wp Try.prog o a wr K Q else E := by
  have hw : Region.wanted o (yielded ops a.tmps) = true := by simp [Region.wanted, hgd]
  rw [if_pos hw]
  exact wp_appIs s x ho base v ad c xs ys hs hown hx hrd hlen hlen2 hbase h
theorem amongD_c (b : Nat) (A : Option Addr) (n c m : Nat) (ys : List Int) (w : World) (h : Cur w b A n c m) (q k k' : Nat) (cs : Array Value) (hm : m ≤ 100000000) (hq : q = w.heap.size) (hk : k = ys.length) (hcs : cs = (ys.map (Value.int .i64)).toArray) (hl : 0 < ys.length) (hl2 : ys.length ≤ 60000) :
    Calls Try.prog 73 #[.pointer (some ⟨b, 0, none⟩), .slice (some ⟨q, 0, none⟩) k k'] (w.alloc (.cells cs 3)).drew fun e w' => ∃ z : Int, z ∈ ys ∧ e = .returned (.int .i64 z) ∧ Cur w' b A n c (m + 2) ∧ w.grownBy w' (some b) := by
  have hb := h.lt
  subst hq hk hcs
  have rd : RdI (w.alloc (.cells (ys.map (Value.int .i64)).toArray 3)).drew (w.heap.size + 1) (some ⟨w.heap.size, 0, none⟩) ys := RdI.lits w ys
  refine (among_c (B := w.heap.size + 1) b A n c m _ _ ys _ (h.alloc _).drew hm rd hl hl2 (fun g off e => by simp at e; omega) (by show _ ≤ (w.alloc _).heap.size; simp)).mono ?_
  rintro e w' ⟨k, hk, rfl, C, g⟩
  exact ⟨ys.getD k 0, by simp [List.getD_eq_getElem?_getD, hk], rfl, C, grown_trans (World.grownBy_alloc _ _ _) (grown_undrew g)⟩
theorem step_callr {wr : World} {ops : Array Oper} {o : Oper} {a : Act} {K : Act → World → Prop} {Q : Exit → Act → World → Prop} {E : Prop} {R : Value → World → Prop} (hgd : o.guard = none) (f : FuncId) (args : Array Value)
    (hrun : (execOp a.eval o).run Try.prog wr = .ok (.enter f args) wr) (hc : Calls Try.prog f args wr fun e w' => ∃ v, e = .returned v ∧ R v w') (h : ∀ v w', R v w' → K (a.put o.dst v) w') :
    if Region.wanted o (yielded ops a.tmps) = true then Oper.wp Try.prog o a wr K Q else E := by
  rw [if_pos (by simp [Region.wanted, hgd])]
  unfold Oper.wp
  rw [hrun, Oper.upon_enter]
  exact hc.mono fun e w' ⟨v, he, hw⟩ => by subst he; exact h v w' hw
theorem amongD_r (b : Nat) (A : Option Addr) (n c m : Nat) (ys : List Int) (w : World) (h : Cur w b A n c m) (q k k' : Nat) (cs : Array Value) (hm : m ≤ 100000000) (hq : q = w.heap.size) (hk : k = ys.length) (hcs : cs = (ys.map (Value.int .i64)).toArray) (hl : 0 < ys.length) (hl2 : ys.length ≤ 60000) :
    Calls Try.prog 73 #[.pointer (some ⟨b, 0, none⟩), .slice (some ⟨q, 0, none⟩) k k'] (w.alloc (.cells cs 3)).drew fun e w' => ∃ v, e = .returned v ∧ ∃ z : Int, v = .int .i64 z ∧ z ∈ ys ∧ Cur w' b A n c (m + 2) ∧ w.grownBy w' (some b) :=
  (amongD_c b A n c m ys w h q k k' cs hm hq hk hcs hl hl2).mono fun _ _ ⟨z, hz, he, C, g⟩ => ⟨_, he, z, rfl, hz, C, g⟩
theorem pick_r (b : Nat) (A : Option Addr) (n c m : Nat) (q : Int) (w : World) (h : Cur w b A n c m) (hm : m ≤ 100000000) (hq : q ≤ 60000) :
    Calls Try.prog 74 #[.pointer (some ⟨b, 0, none⟩), .int .i64 q] w.drew fun e w' => ∃ v, e = .returned v ∧ ∃ z : Int, v = .int .i64 z ∧ (0 ≤ z ∧ (z < q ∨ z = 0)) ∧ Cur w' b A n c (m + 2) ∧ w.grownBy w' (some b) :=
  (pick_c b A n c m q w.drew h.drew hm hq).mono fun _ _ ⟨z, z0, z1, he, C, g⟩ => ⟨_, he, z, rfl, ⟨z0, z1⟩, C, grown_undrew g⟩
end Go.Proofs.Ytbfaejacfhblkaa
