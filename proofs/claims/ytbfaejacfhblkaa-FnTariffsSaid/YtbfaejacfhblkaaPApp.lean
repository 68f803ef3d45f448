/- append of pairs: at an operation, at a list, at a step of a region that draws its order; where the new slice lies. -/
import Derived.Test.YtbfaejacfhblkaaPar
import Derived.Test.YtbfaejacfhblkaaAfter
import Derived.Maps.AppendAt
namespace Go.Proofs.Ytbfaejacfhblkaa
open Go.RowKit

theorem RdP.two {w : World} {B H : Nat} {y z : Int} (h0 : w.cell? ⟨H, 0, none⟩ = some (.int .i64 y)) (h1 : w.cell? ⟨H, 1, none⟩ = some (.int .i64 z)) (hB : H < B) : RdP w B (some ⟨H, 0, none⟩) [(y, z)] := fun _ => by
  refine ⟨H, 0, rfl, hB, fun j u hj => ?_⟩
  rw [Nat.zero_add]
  match j, hj with
  | 0, hj => simp [pc] at hj; subst hj; exact h0
  | 1, hj => simp [pc] at hj; subst hj; exact h1
  | j + 2, hj => simp [pc] at hj
theorem _root_.Go.World.grownBy.cell_far' {w w' : World} {row : Option Nat} (hg : w.grownBy w' row) (a : Addr) (hlt : a.block < w.heap.size) (hne : some a.block ≠ row) : w'.cell? a = w.cell? a :=
  World.cell?_of_block (hg.block a.block hlt hne)
theorem OwnP.empty2 (w : World) (o : Obj) (base : Nat) (h : base ≤ w.heap.size + 1) : OwnP ((w.alloc o).alloc (.cells #[] 63)) base (.slice (some ⟨w.heap.size + 1, 0, none⟩) 0 0) [] := by
  have := OwnP.empty (w.alloc o) base (by rw [World.size_alloc]; exact h)
  rwa [World.size_alloc] at this
theorem RdP.lit (w : World) (y z : Int) (t : TypeId) : RdP (w.alloc (.cells #[.int .i64 y, .int .i64 z] t)) (w.heap.size + 1) (some ⟨w.heap.size, 0, none⟩) [(y, z)] :=
  RdP.two (World.cell?_alloc_new w _ _ 0) (World.cell?_alloc_new w _ _ 1) (by omega)
theorem RdP.lit2 (w : World) (o : Obj) (y z : Int) (t : TypeId) : RdP ((w.alloc o).alloc (.cells #[.int .i64 y, .int .i64 z] t)) (w.heap.size + 1 + 1) (some ⟨w.heap.size + 1, 0, none⟩) [(y, z)] := by
  have := RdP.lit (w.alloc o) y z t
  rwa [World.size_alloc] at this
theorem RdP.far {w w' : World} {B H : Nat} {xs : List (Int × Int)} {row : Option Nat} (h : RdP w B (some ⟨H, 0, none⟩) xs) (hg : w.grownBy w' row) (hH : H < w.heap.size) (hne : some H ≠ row) : RdP w' B (some ⟨H, 0, none⟩) xs := fun hp => by
  obtain ⟨b, off, hA, hb, hc⟩ := h hp
  simp only [Option.some.injEq, Addr.mk.injEq, and_true] at hA
  obtain ⟨rfl, rfl⟩ := hA
  exact ⟨H, 0, rfl, hb, fun j u hj => (hg.cell_far' ⟨H, 0 + j, none⟩ hH hne).trans (hc j u hj)⟩
theorem below_grownBy {w w' : World} (h : Below w.heap.size w w') (row : Option Nat) : w.grownBy w' row := ⟨h.os, h.tape, h.output, h.size, fun k hk _ => h.block k hk⟩
theorem wp_appPs {wr : World} {B : Nat} {o : Oper} {a : Act} {K : Act → World → Prop} {Q : Exit → Act → World → Prop} (s x : Operand)
    (ho : o.op = .call { callee := .builtin .append, args := #[s, x], argTypes := #[27, 27] }) (base : Nat) (v : Value) (ad : Addr) (c : Nat) (xs ys : List (Int × Int))
    (hs : a.eval s = v) (hown : OwnP wr base v xs) (hx : a.eval x = .slice (some ad) ys.length c) (hrd : RdP wr B (some ad) ys) (hlen : xs.length ≤ 65536) (hlen2 : ys.length ≤ 1048576) (hbase : base ≤ wr.heap.size)
    (h : ∀ v' w', OwnP w' base v' (xs ++ ys) → wr.grownBy w' v.ownBlock → (v'.ownBlock = v.ownBlock ∨ v'.ownBlock = some wr.heap.size) → K (a.put o.dst v') w') : o.wp Try.prog a wr K Q := by
  obtain ⟨i0, hi, hz0, hz1, hz2⟩ := info_parts infoPar
  obtain ⟨v', w', hr, h2, h3, _, h5⟩ := run_append_own_at (P := Try.prog) wr base 27 o.type 63 i0 _ 2 16 Try.underlying27 hi hz0 hz1 hz2 rfl (by decide) v xs.length (pc xs) hown ad ys.length c (pc ys) (pc_length ys) (by
    intro j u hj
    have hp : 0 < ys.length := by
      have : j < (pc ys).length := (List.getElem?_eq_some_iff.1 hj).1
      rw [pc_length] at this
      omega
    obtain ⟨b, off, hA', _, hc⟩ := hrd hp
    simp only [Option.some.injEq] at hA'
    subst hA'
    have hadd : (⟨b, off, none⟩ : Addr).add j = ⟨b, off + j, none⟩ := by unfold Addr.add; split <;> simp_all
    rw [hadd]
    exact hc j u hj) (fun u hu => pc_one hu) (by unfold maxLen; omega) (by omega) hbase
  unfold Oper.wp execOp
  simp only [ho, resolve, invoke, builtin, Sem.run_bind, Sem.run_pure, Result.andThen_ok, List.map_toArray, List.map_cons, List.map_nil, hs, hx, hr]
  refine h v' w' ?_ h3 h5
  unfold OwnP
  rw [pc_append, List.length_append]
  exact h2
theorem wpList_appR {wr : World} {B : Nat} {ops : Array Oper} {rest : List Oper} {o : Oper} {a : Act} {Q : Exit → Act → World → Prop} (hgd : o.guard = none) (s x : Operand)
    (ho : o.op = .call { callee := .builtin .append, args := #[s, x], argTypes := #[27, 27] }) (base : Nat) (v : Value) (ad : Addr) (c : Nat) (xs ys : List (Int × Int))
    (hs : a.eval s = v) (hown : OwnP wr base v xs) (hx : a.eval x = .slice (some ad) ys.length c) (hrd : RdP wr B (some ad) ys) (hlen : xs.length ≤ 65536) (hlen2 : ys.length ≤ 1048576) (hbase : base ≤ wr.heap.size)
    (h : ∀ v' w', OwnP w' base v' (xs ++ ys) → wr.grownBy w' v.ownBlock → (v'.ownBlock = v.ownBlock ∨ v'.ownBlock = some wr.heap.size) → wpList Try.prog ops Q rest (a.put o.dst v') w') : wpList Try.prog ops Q (o :: rest) a wr :=
  wpList_plain hgd fun _ hK => wp_appPs s x ho base v ad c xs ys hs hown hx hrd hlen hlen2 hbase fun v' w' h2 h3 h5 => hK _ _ (h v' w' h2 h3 h5)
theorem step_appPs {wr : World} {B : Nat} {ops : Array Oper} {o : Oper} {a : Act} {K : Act → World → Prop} {Q : Exit → Act → World → Prop} {E : Prop} (hgd : o.guard = none) (s x : Operand)
    (ho : o.op = .call { callee := .builtin .append, args := #[s, x], argTypes := #[27, 27] }) (base : Nat) (v : Value) (ad : Addr) (c : Nat) (xs ys : List (Int × Int))
    (hs : a.eval s = v) (hown : OwnP wr base v xs) (hx : a.eval x = .slice (some ad) ys.length c) (hrd : RdP wr B (some ad) ys) (hlen : xs.length ≤ 65536) (hlen2 : ys.length ≤ 1048576) (hbase : base ≤ wr.heap.size)
    (h : ∀ v' w', OwnP w' base v' (xs ++ ys) → wr.grownBy w' v.ownBlock → OwnP wr base v xs → K (a.put o.dst v') w') :
    if Region.wanted o (yielded ops a.tmps) = true then Oper.wp Try.prog o a wr K Q else E := by
  have hw : Region.wanted o (yielded ops a.tmps) = true := by simp [Region.wanted, hgd]
  rw [if_pos hw]
  exact wp_appPs s x ho base v ad c xs ys hs hown hx hrd hlen hlen2 hbase fun v' w' h2 h3 _ => h v' w' h2 h3 hown
/-- What the reference's copying keeps. -/
theorem held_alloc {w0 w' : World} {H : Nat} {u v : Value} (h : w'.cell? ⟨H, 0, none⟩ = some u ∧ w'.cell? ⟨H, 1, none⟩ = some v ∧ Below w0.heap.size w0 w' ∧ H + 1 ≤ w'.heap.size) (o : Obj) (hs : w0.heap.size ≤ H) :
    (w'.alloc o).cell? ⟨H, 0, none⟩ = some u ∧ (w'.alloc o).cell? ⟨H, 1, none⟩ = some v ∧ Below w0.heap.size w0 (w'.alloc o) ∧ H + 1 ≤ (w'.alloc o).heap.size := by
  obtain ⟨h0, h1, h2, h3⟩ := h
  exact ⟨(World.cell?_alloc_lt w' o ⟨H, 0, none⟩ h3).trans h0, (World.cell?_alloc_lt w' o ⟨H, 1, none⟩ h3).trans h1, h2.alloc (by omega) _, by rw [World.size_alloc]; omega⟩
theorem held_grown {w0 w' w'' : World} {H : Nat} {u v x : Value} {r : List (Int × Int)} {base : Nat} (h : w'.cell? ⟨H, 0, none⟩ = some u ∧ w'.cell? ⟨H, 1, none⟩ = some v ∧ Below w0.heap.size w0 w' ∧ H + 1 ≤ w'.heap.size) (hg : w'.grownBy w'' x.ownBlock) (ho : OwnP w' base x r) (hb : H + 1 ≤ base) (hs : w0.heap.size ≤ H) :
    w''.cell? ⟨H, 0, none⟩ = some u ∧ w''.cell? ⟨H, 1, none⟩ = some v ∧ Below w0.heap.size w0 w'' ∧ H + 1 ≤ w''.heap.size := by
  obtain ⟨h0, h1, h2, h3⟩ := h
  have hr : ∀ g, x.ownBlock = some g → H + 1 ≤ g := fun g e => by have := (ho.lt g e).1; omega
  have hne : some H ≠ x.ownBlock := fun e => by have := hr H e.symm; omega
  exact ⟨(hg.cell_far' ⟨H, 0, none⟩ h3 hne).trans h0, (hg.cell_far' ⟨H, 1, none⟩ h3 hne).trans h1, h2.grown hg (by omega) (fun g e => by have := hr g e; omega), Nat.le_trans h3 hg.size⟩
theorem held_far {w0 w' w'' : World} {H : Nat} {u v x : Value} {r : List (Int × Int)} (h : w'.cell? ⟨H, 0, none⟩ = some u ∧ w'.cell? ⟨H, 1, none⟩ = some v ∧ Below w0.heap.size w0 w' ∧ H + 1 ≤ w'.heap.size) (hg : w'.grownBy w'' x.ownBlock) (ho : OwnP w' w0.heap.size x r) (hs : w0.heap.size ≤ H) (hne : ∀ g, x.ownBlock = some g → g < H) :
    w''.cell? ⟨H, 0, none⟩ = some u ∧ w''.cell? ⟨H, 1, none⟩ = some v ∧ Below w0.heap.size w0 w'' ∧ H + 1 ≤ w''.heap.size := by
  obtain ⟨h0, h1, h2, h3⟩ := h
  have hn : some H ≠ x.ownBlock := fun e => by have := hne H e.symm; omega
  exact ⟨(hg.cell_far' ⟨H, 0, none⟩ h3 hn).trans h0, (hg.cell_far' ⟨H, 1, none⟩ h3 hn).trans h1, h2.grown hg (by omega) (fun g e => (ho.lt g e).1), Nat.le_trans h3 hg.size⟩
/-- What putting a parcel behind a list of the call's own leaves. -/
def RetA (w : World) (base : Nat) (v : Value) (r : List (Int × Int)) (e : Ending) (w' : World) : Prop :=
  ∃ v', e = .returned v' ∧ OwnP w' base v' r ∧ w.grownBy w' v.ownBlock ∧ (v'.ownBlock = v.ownBlock ∨ ∀ g, v'.ownBlock = some g → w.heap.size ≤ g)
theorem retA_of {w wr w1 : World} {base : Nat} {v v' : Value} {r : List (Int × Int)} (hown : OwnP w1 base v' r) (hg : wr.grownBy w1 v.ownBlock) (hat : v'.ownBlock = v.ownBlock ∨ v'.ownBlock = some wr.heap.size) (hw : Below w.heap.size w wr) : RetA w base v r (.returned v') w1 := by
  refine ⟨v', rfl, hown, grown_trans (below_grownBy hw _) hg, hat.imp id fun e g h => ?_⟩
  rw [e] at h
  cases h
  exact hw.size
theorem retA_new {w w1 : World} {base : Nat} {v v' : Value} {r : List (Int × Int)} (hb : base ≤ w.heap.size) (hown : OwnP w1 w.heap.size v' r) (hw : Below w.heap.size w w1) : RetA w base v r (.returned v') w1 :=
  ⟨v', rfl, hown.weak hb, below_grownBy hw _, .inr fun g h => (hown.lt g h).1⟩
end Go.Proofs.Ytbfaejacfhblkaa
