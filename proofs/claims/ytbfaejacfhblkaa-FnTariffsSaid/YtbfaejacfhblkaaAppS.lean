/- append of a slice of ints, and the copy of one. -/
import Derived.Test.YtbfaejacfhblkaaSlices
import Derived.Laws.AppendOwnNone
namespace Go.Proofs.Ytbfaejacfhblkaa
open Go.RowKit

theorem own_nilcap {w : World} {base n c : Nat} {A : Option Addr} {xs : List Int} (h : OwnI w base (.slice A n c) xs) : A = none → c = 0 := fun e => by
  subst e
  rcases h.2 with ⟨h', _⟩ | ⟨g, cap, cur, h', _⟩
  · simp at h'; exact h'.2
  · simp at h'
theorem wpList_appS {wr : World} {B : Nat} {ops : Array Oper} {rest : List Oper} {o : Oper} {a : Act} {Q : Exit → Act → World → Prop} (hgd : o.guard = none) (s x : Operand)
    (ho : o.op = .call { callee := .builtin .append, args := #[s, x], argTypes := #[44, 44] }) (base : Nat) (v : Value) (A : Option Addr) (c : Nat) (xs ys : List Int)
    (hs : a.eval s = v) (hown : OwnI wr base v xs) (hx : a.eval x = .slice A ys.length c) (hrd : RdI wr B A ys) (hnil : A = none → c = 0) (hlen : xs.length ≤ 65536) (hlen2 : ys.length ≤ 1048576) (hbase : base ≤ wr.heap.size)
    (h : ∀ v' w', OwnI w' base v' (xs ++ ys) → Below base wr w' → wpList Try.prog ops Q rest (a.put o.dst v') w') : wpList Try.prog ops Q (o :: rest) a wr := by
  obtain ⟨i0, hi, hz0, hz1, hz2⟩ := info_parts Try.infoInt
  cases A with
  | none =>
    have hy : ys = [] := by
      cases ys with
      | nil => rfl
      | cons y ys => obtain ⟨b, off, e, _⟩ := hrd (by simp); exact absurd e (by simp)
    subst hy
    have hc := hnil rfl
    subst hc
    refine wpList_append_own_none hgd s x 44 ho base 3 i0 1 Try.underlying44 hi v xs.length (xs.map (Value.int .i64)) hs hown hx ?_
    exact h v wr (by simpa using hown) (Below.refl _ _)
  | some ad =>
    refine wpList_append_own _ hgd s x 44 ho base 3 i0 (.int .i64 0) 1 8 Try.underlying44 hi hz0 hz1 hz2 rfl (by decide) v xs.length (xs.map (Value.int .i64)) hs hown ad ys.length c (ys.map (Value.int .i64)) hx (by simp) ?_ ?_ ?_ ?_ hbase ?_
    · intro j u hj
      have hjl : j < ys.length := by
        have : j < (ys.map (Value.int .i64)).length := (List.getElem?_eq_some_iff.1 hj).1
        simpa using this
      obtain ⟨b, off, hA', _, hc⟩ := hrd (by omega)
      simp only [Option.some.injEq] at hA'
      subst hA'
      have hadd : (⟨b, off, none⟩ : Addr).add j = ⟨b, off + j, none⟩ := by unfold Addr.add; split <;> simp_all
      rw [hadd, hc j hjl]
      simp [List.getD_eq_getElem?_getD, hjl] at hj ⊢
      exact hj
    · intro u hu
      simp at hu
      obtain ⟨y, _, rfl⟩ := hu
      rfl
    · unfold maxLen; omega
    · omega
    · intro v' w' hown' hg _
      refine h v' w' ?_ ((Below.refl base wr).grown hg hbase fun k hk => (OwnI.lt hown k hk).1)
      unfold OwnI
      rw [List.length_append, List.map_append]
      exact hown'
end Go.Proofs.Ytbfaejacfhblkaa
