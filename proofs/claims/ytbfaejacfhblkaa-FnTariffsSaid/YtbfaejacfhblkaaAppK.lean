/- append of one int where other slices of the call's own stand beside. -/
import Derived.Test.YtbfaejacfhblkaaAppS
import Derived.Maps.AppendAt
namespace Go.Proofs.Ytbfaejacfhblkaa
open Go.RowKit

theorem wp_appIs {wr : World} {B : Nat} {o : Oper} {a : Act} {K : Act → World → Prop} {Q : Exit → Act → World → Prop} (s x : Operand)
    (ho : o.op = .call { callee := .builtin .append, args := #[s, x], argTypes := #[44, 44] }) (base : Nat) (v : Value) (ad : Addr) (c : Nat) (xs ys : List Int)
    (hs : a.eval s = v) (hown : OwnI wr base v xs) (hx : a.eval x = .slice (some ad) ys.length c) (hrd : RdI wr B (some ad) ys) (hlen : xs.length ≤ 65536) (hlen2 : ys.length ≤ 1048576) (hbase : base ≤ wr.heap.size)
    (h : ∀ v' w', OwnI w' base v' (xs ++ ys) → wr.grownBy w' v.ownBlock → (v'.ownBlock = v.ownBlock ∨ v'.ownBlock = some wr.heap.size) → K (a.put o.dst v') w') : o.wp Try.prog a wr K Q := by
  obtain ⟨i0, hi, hz0, hz1, hz2⟩ := info_parts Try.infoInt
  obtain ⟨v', w', hr, h2, h3, _, h5⟩ := run_append_own_at (P := Try.prog) wr base 44 o.type 3 i0 (.int .i64 0) 1 8 Try.underlying44 hi hz0 hz1 hz2 rfl (by decide) v xs.length (xs.map (Value.int .i64)) hown ad ys.length c (ys.map (Value.int .i64)) (by simp) (by
    intro j u hj
    have hj2 : j < ys.length := by
      have := (List.getElem?_eq_some_iff.1 hj).1
      simpa using this
    obtain ⟨b, off, hA', _, hc⟩ := hrd (by omega)
    simp only [Option.some.injEq] at hA'
    subst hA'
    have hadd : (⟨b, off, none⟩ : Addr).add j = ⟨b, off + j, none⟩ := by unfold Addr.add; split <;> simp_all
    rw [hadd, hc j hj2]
    simp [hj2] at hj
    rw [← hj]
    simp [List.getD_eq_getElem?_getD, hj2]) (fun u hu => by
    obtain ⟨z, _, rfl⟩ := List.mem_map.1 hu
    rfl) (by unfold maxLen; omega) (by omega) hbase
  unfold Oper.wp execOp
  simp only [ho, resolve, invoke, builtin, Sem.run_bind, Sem.run_pure, Result.andThen_ok, List.map_toArray, List.map_cons, List.map_nil, hs, hx, hr]
  refine h v' w' ?_ h3 h5
  unfold OwnI
  rw [List.map_append, List.length_append]
  exact h2
theorem RdI.one (w : World) (y : Int) : RdI (w.alloc (.cells #[.int .i64 y] 3)) (w.heap.size + 1) (some ⟨w.heap.size, 0, none⟩) [y] := fun _ => by
  refine ⟨w.heap.size, 0, rfl, by omega, fun j hj => ?_⟩
  match j, hj with
  | 0, _ => exact World.cell?_alloc_new w _ _ 0
/-- append of one int, the literal slice laid right ahead of it. -/
theorem wpList_appK {wr : World} {ops : Array Oper} {rest : List Oper} {o : Oper} {a : Act} {Q : Exit → Act → World → Prop} (hgd : o.guard = none) (s x : Operand)
    (ho : o.op = .call { callee := .builtin .append, args := #[s, x], argTypes := #[44, 44] }) (base : Nat) (v : Value) (xs : List Int) (y : Int) (H : Nat)
    (hs : a.eval s = v) (hown : OwnI wr base v xs) (hx : a.eval x = .slice (some ⟨H, 0, none⟩) 1 1) (hH : H = wr.heap.size) (hlen : xs.length ≤ 65536) (hbase : base ≤ wr.heap.size)
    (h : ∀ v' w', OwnI w' base v' (xs ++ [y]) → wr.grownBy w' v.ownBlock → (v'.ownBlock = v.ownBlock ∨ v'.ownBlock = some (wr.heap.size + 1)) → wpList Try.prog ops Q rest (a.put o.dst v') w') : wpList Try.prog ops Q (o :: rest) a (wr.alloc (.cells #[.int .i64 y] 3)) := by
  subst hH
  refine wpList_plain hgd fun _ hK => wp_appIs s x ho base v ⟨wr.heap.size, 0, none⟩ 1 xs [y] hs (hown.alloc _) hx (RdI.one wr y) hlen (by simp) (by rw [World.size_alloc]; omega) fun v' w' h2 h3 h5 => hK _ _ (h v' w' h2 (grown_trans (World.grownBy_alloc _ _ _) h3) ?_)
  rw [World.size_alloc] at h5
  exact h5
def Apart (v u : Value) : Prop := ∀ g, v.ownBlock = some g → u.ownBlock ≠ some g
theorem Apart.symm {v u : Value} (h : Apart v u) : Apart u v := fun g hg e => h g e hg
theorem Apart.or {v u : Value} (h : Apart v u) : u.ownBlock = none ∨ u.ownBlock ≠ v.ownBlock := by
  cases hu : u.ownBlock with
  | none => exact .inl rfl
  | some k => exact .inr fun e => h k e.symm hu
/-- Three slices of the call's own, apart. -/
structure Own3 (w : World) (base : Nat) (v1 : Value) (xs : List Int) (v2 : Value) (ys : List Int) (v3 : Value) (zs : List Int) : Prop where
  o1 : OwnI w base v1 xs
  o2 : OwnI w base v2 ys
  o3 : OwnI w base v3 zs
  a12 : Apart v1 v2
  a13 : Apart v1 v3
  a23 : Apart v2 v3
theorem Own3.turn {w : World} {base : Nat} {v1 v2 v3 : Value} {xs ys zs : List Int} (h : Own3 w base v1 xs v2 ys v3 zs) : Own3 w base v2 ys v3 zs v1 xs := ⟨h.o2, h.o3, h.o1, h.a23, h.a12.symm, h.a13.symm⟩
theorem apart_new {w : World} {base H : Nat} {v v' u : Value} {ys : List Int} (h : Apart v u) (o : OwnI w base u ys) (hl : v'.ownBlock = v.ownBlock ∨ v'.ownBlock = some H) (hH : w.heap.size ≤ H) : Apart v' u := fun g hg e => by
  rcases hl with q | q
  · exact h g (q ▸ hg) e
  · rw [q] at hg
    have := (o.lt g e).2
    have := Option.some.inj hg
    omega
theorem Own3.app1 {wr w' : World} {base H : Nat} {v1 v1' v2 v3 : Value} {xs xs' ys zs : List Int} (h : Own3 wr base v1 xs v2 ys v3 zs) (o : OwnI w' base v1' xs') (hg : wr.grownBy w' v1.ownBlock) (hl : v1'.ownBlock = v1.ownBlock ∨ v1'.ownBlock = some H) (hH : wr.heap.size ≤ H) : Own3 w' base v1' xs' v2 ys v3 zs :=
  ⟨o, h.o2.kept hg h.a12.or, h.o3.kept hg h.a13.or, apart_new h.a12 h.o2 hl hH, apart_new h.a13 h.o3 hl hH, h.a23⟩
theorem Own3.below {w w' : World} {base : Nat} {v1 v2 v3 : Value} {xs ys zs : List Int} (h : Own3 w base v1 xs v2 ys v3 zs) (hb : Below w.heap.size w w') : Own3 w' base v1 xs v2 ys v3 zs := ⟨h.o1.below hb, h.o2.below hb, h.o3.below hb, h.a12, h.a13, h.a23⟩
theorem Own3.alloc {w : World} {base : Nat} {v1 v2 v3 : Value} {xs ys zs : List Int} (h : Own3 w base v1 xs v2 ys v3 zs) (o : Obj) : Own3 (w.alloc o) base v1 xs v2 ys v3 zs := ⟨h.o1.alloc o, h.o2.alloc o, h.o3.alloc o, h.a12, h.a13, h.a23⟩
theorem Own3.set {w : World} {base : Nat} {v1 v2 v3 : Value} {xs ys zs : List Int} (h : Own3 w base v1 xs v2 ys v3 zs) {a : Addr} (ha : a.block < base) (u : Value) : Own3 (w.setCell a u) base v1 xs v2 ys v3 zs := ⟨ownsRow_setCell_below h.o1 ha u, ownsRow_setCell_below h.o2 ha u, ownsRow_setCell_below h.o3 ha u, h.a12, h.a13, h.a23⟩
theorem below_row {w w' : World} {base : Nat} {v : Value} {xs : List Int} (o : OwnI w base v xs) (hg : w.grownBy w' v.ownBlock) (hb : base ≤ w.heap.size) : Below base w w' :=
  ⟨hg.os, hg.tape, hg.output, hg.size, fun k hk => hg.block k (by omega) (fun e => by have := (o.lt k e.symm).1; omega)⟩
end Go.Proofs.Ytbfaejacfhblkaa
