/- Slices of ints: what it is to read as a list, to be owned; the contracts of the statements' own helpers. -/
import Derived.Test.YtbfaejacfhblkaaBase
import Derived.Deep.OwnRows
import Derived.Deep.AppendLies
namespace Go.Proofs.Ytbfaejacfhblkaa
open Go.RowKit

theorem Try.infoInt : (Try.prog.info? 3).map (fun i => (i.zero, i.size, i.bytes)) = some (some (.int .i64 0), 1, 8) := by kernel_rfl

/-- The slice at A reads as the list xs, below block B. -/
def RdI (w : World) (B : Nat) (A : Option Addr) (xs : List Int) : Prop :=
  0 < xs.length → ∃ b off, A = some ⟨b, off, none⟩ ∧ b < B ∧ ∀ j, j < xs.length → w.cell? ⟨b, off + j, none⟩ = some (.int .i64 (xs.getD j 0))
/-- The slice value v is the call's own, from block base on, and holds xs. -/
def OwnI (w : World) (base : Nat) (v : Value) (xs : List Int) : Prop := w.ownsRow base 3 1 v xs.length (xs.map (Value.int .i64))
/-- What a call that makes a list hands back. -/
def RetI (w : World) (r : List Int) (mk : Value → Value) (e : Ending) (w' : World) : Prop :=
  ∃ A cap, e = .returned (mk (.slice A r.length cap)) ∧ OwnI w' w.heap.size (.slice A r.length cap) r ∧ Below w.heap.size w w'

section
variable {w w' : World} {base B : Nat} {A : Option Addr} {v : Value} {xs : List Int}
theorem RdI.at_ (h : RdI w B A xs) {k : Nat} (hk : k < xs.length) : ∃ b off x, A = some ⟨b, off, none⟩ ∧ x = xs.getD k 0 ∧ b < B ∧ w.cell? ⟨b, off + k, none⟩ = some (.int .i64 x) := by
  obtain ⟨b, off, hA, hb, hc⟩ := h (by omega)
  exact ⟨b, off, _, hA, rfl, hb, hc k hk⟩
theorem RdI.keep (h : RdI w B A xs) (hk : ∀ p : Addr, p.block < B → w'.cell? p = w.cell? p) : RdI w' B A xs := fun hp => by
  obtain ⟨b, off, hA, hb, hc⟩ := h hp
  exact ⟨b, off, hA, hb, fun j hj => (hk ⟨b, off + j, none⟩ hb).trans (hc j hj)⟩
theorem RdI.below (h : RdI w B A xs) (hb : Below B w w') : RdI w' B A xs := h.keep fun _ hp => hb.cell hp
theorem RdI.more {B' : Nat} (h : RdI w B A xs) (hB : B ≤ B') : RdI w B' A xs := fun hp => by
  obtain ⟨b, off, hA, hb, hc⟩ := h hp
  exact ⟨b, off, hA, by omega, hc⟩
theorem RdI.drewN (h : RdI w B A xs) (k : Nat) : RdI (w.drewN k) B A xs := h
theorem RdI.alloc (h : RdI w B A xs) (hB : B ≤ w.heap.size) (o : Obj) : RdI (w.alloc o) B A xs := h.keep fun p hp => World.cell?_alloc_lt w o p (by omega)
theorem RdI.nil : RdI w B A [] := fun h => absurd h (by simp)
theorem OwnI.shape (h : OwnI w base v xs) : ∃ A cap, v = .slice A xs.length cap := by
  rcases h.2 with ⟨rfl, h0⟩ | ⟨g, cap, cur, rfl, _⟩
  · exact ⟨none, 0, by rw [h0]⟩
  · exact ⟨_, _, rfl⟩
theorem OwnI.head (h : OwnI w base v xs) (hp : 0 < xs.length) : ∃ g cap, v = .slice (some ⟨g, 0, none⟩) xs.length cap ∧ base ≤ g ∧ g < w.heap.size := by
  rcases h.2 with ⟨_, h0⟩ | ⟨g, cap, cur, rfl, hb, hg, _⟩
  · omega
  · refine ⟨g, cap, rfl, hb, ?_⟩
    rcases Nat.lt_or_ge g w.heap.size with hl | hg'
    · exact hl
    · rw [Array.getElem?_eq_none hg'] at hg; cases hg
theorem OwnI.rd {cap : Nat} (h : OwnI w base (.slice A xs.length cap) xs) : RdI w w.heap.size A xs := fun hp => by
  obtain ⟨g, cap', hv, _, hlt⟩ := h.head hp
  simp only [Value.slice.injEq] at hv
  obtain ⟨rfl, _, rfl⟩ := hv
  refine ⟨g, 0, rfl, hlt, fun j hj => ?_⟩
  rw [Nat.zero_add, World.ownsRow.cellAt h j (by omega)]
  simp [List.getD_eq_getElem?_getD, hj]
theorem OwnI.kept {row : Option Nat} (h : OwnI w base v xs) (hg : w.grownBy w' row) (hne : v.ownBlock = none ∨ v.ownBlock ≠ row) : OwnI w' base v xs := World.ownsRow.kept h hg hne
theorem OwnI.lt (h : OwnI w base v xs) : ∀ k, v.ownBlock = some k → base ≤ k ∧ k < w.heap.size := World.ownsRow.lt h
theorem OwnI.below (h : OwnI w base v xs) (hb : Below w.heap.size w w') : OwnI w' base v xs :=
  h.kept (row := none) ⟨hb.os, hb.tape, hb.output, hb.size, fun i hi _ => hb.block i hi⟩ (by
    cases hv : v.ownBlock
    · exact .inl rfl
    · exact .inr (by simp))
theorem OwnI.alloc (h : OwnI w base v xs) (o : Obj) : OwnI (w.alloc o) base v xs := World.ownsRow.alloc h o
theorem OwnI.drewN (h : OwnI w base v xs) (n : Nat) : OwnI (w.drewN n) base v xs := h
theorem OwnI.weak {base' : Nat} (h : OwnI w base v xs) (hb : base' ≤ base) : OwnI w base' v xs := by
  refine ⟨h.1, ?_⟩
  rcases h.2 with h0 | ⟨g, cap, cur, hv, hg, r⟩
  · exact .inl h0
  · exact .inr ⟨g, cap, cur, hv, by omega, r⟩
theorem OwnI.nil (w : World) (base : Nat) : OwnI w base (.slice none 0 0) [] := World.ownsRow_nil w base _ _
theorem own_of_row {b n : Nat} {f : Nat → Value} (h : w.rowIs b 3 n f) (hl : xs.length = n) (hf : ∀ j, j < n → f j = .int .i64 (xs.getD j 0)) (hb : base ≤ b) (hm : n ≤ maxLen) :
    OwnI w base (.slice (some ⟨b, 0, none⟩) xs.length n) xs := by
  obtain ⟨c, hc, hs, hcell⟩ := h
  refine ⟨by simp, .inr ⟨b, n, c, rfl, hb, hc, by omega, hm, by omega, ?_⟩⟩
  apply List.ext_getElem?
  intro j
  by_cases hj : j < n
  · rw [List.getElem?_take_of_lt (by omega), Array.getElem?_toList, hcell j hj, hf j hj]
    simp [List.getD_eq_getElem?_getD, show j < xs.length by omega]
  · rw [List.getElem?_eq_none (by simp; omega), List.getElem?_eq_none (by simp; omega)]
end


theorem getD_map_int (xs : List Int) (j : Nat) (h : j < xs.length) : (xs.map (Value.int .i64))[j]? = some (.int .i64 (xs.getD j 0)) := by
  simp [List.getD_eq_getElem?_getD, h]
theorem ext_getD {xs ys : List Int} (hl : xs.length = ys.length) (h : ∀ j, j < xs.length → xs.getD j 0 = ys.getD j 0) : xs = ys := by
  apply List.ext_getElem hl
  intro j h1 h2
  have := h j h1
  simpa [List.getD_eq_getElem?_getD, h1, h2] using this

set_option maxHeartbeats 400000 in
/-- Two slices that read as one list. -/
theorem eqIntS_c {B B' : Nat} (A A' : Option Addr) (c c' : Nat) (xs : List Int) (w : World) (h : RdI w B A xs) (h' : RdI w B' A' xs) (hm : xs.length ≤ 9223372036854775807) :
    Calls Try.prog 38 #[.slice A xs.length c, .slice A' xs.length c'] w fun e w' => e = .returned (.bool true) ∧ ∃ n, w' = w.drewN n := by
  go_enter Try.func38, Try.ntmps38
  go_wp2
  go_loopw [5] (fun i wr => ∃ k : Nat, k ≤ xs.length ∧ i = .int .i64 k ∧ ∃ n, wr = w.drewN n) (fun i _ => xs.length - (intOf i).toNat)
  case atStart => exact ⟨0, by omega, rfl, 0, rfl⟩
  case round =>
    obtain ⟨k, hk, rfl, n, rfl⟩ := hrel
    by_cases hlt : k < xs.length
    · obtain ⟨b, off, x, rfl, hx, hb, hc⟩ := h.at_ hlt
      obtain ⟨b', off', x', rfl, hx', hb', hc'⟩ := h'.at_ hlt
      obtain rfl : x' = x := hx'.trans hx.symm
      have hl1 : (k : Int) < (xs.length : Int) := by omega
      clear hx hx' h h'
      go_wp2
      go_quiet (fail)
      go_wp2
      go_roundw
      case rel => exact ⟨k + 1, by omega, by go_num, _, rfl⟩
      case measure => simp [intOf]; omega
    · clear h h'
      go_wp2
      go_ret
      exact ⟨rfl, _, rfl⟩

/-- The marks k0, k0 + 1, .. -/
def marks (k0 : Int) (n : Nat) : List Int := (List.range n).map fun (i : Nat) => k0 + (i : Int)
theorem marks_length (k0 : Int) (n : Nat) : (marks k0 n).length = n := by simp [marks]
theorem marks_getD (k0 : Int) (n j : Nat) (h : j < n) : (marks k0 n).getD j 0 = k0 + j := by
  simp [marks, List.getD_eq_getElem?_getD, h]

theorem OwnI.cellAt {w : World} {base g cap : Nat} {xs : List Int} (h : OwnI w base (.slice (some ⟨g, 0, none⟩) xs.length cap) xs) {k : Nat} (hk : k < xs.length) : w.cell? ⟨g, k, none⟩ = some (.int .i64 (xs.getD k 0)) := by
  rw [World.ownsRow.cellAt h k (by omega), getD_map_int xs k hk]
theorem OwnI.frozenAt {w : World} {base g cap : Nat} {xs : List Int} (h : OwnI w base (.slice (some ⟨g, 0, none⟩) xs.length cap) xs) (k : Nat) : w.frozen? ⟨g, k, none⟩ = false := World.ownsRow.frozenAt h k
theorem OwnI.stored {w : World} {base g cap : Nat} {xs : List Int} (h : OwnI w base (.slice (some ⟨g, 0, none⟩) xs.length cap) xs) (k : Nat) (x : Int) :
    OwnI (w.setCell ⟨g, k, none⟩ (.int .i64 x)) base (.slice (some ⟨g, 0, none⟩) xs.length cap) (xs.set k x) ∧ w.grownBy (w.setCell ⟨g, k, none⟩ (.int .i64 x)) (some g) := by
  have := World.ownsRow.stored h k (.int .i64 x)
  refine ⟨?_, this.2⟩
  have h1 := this.1
  rw [← List.map_set] at h1
  unfold OwnI
  rw [List.length_set]
  exact h1

/-- What stands in a slice when k of its cells are marked. -/
def marking (k0 : Int) (k : Nat) (xs : List Int) : List Int := marks k0 k ++ xs.drop k
theorem marking_length (k0 : Int) (k : Nat) (xs : List Int) (h : k ≤ xs.length) : (marking k0 k xs).length = xs.length := by simp [marking, marks_length]; omega
theorem marking_zero (k0 : Int) (xs : List Int) : marking k0 0 xs = xs := by simp [marking, marks]
theorem marking_all (k0 : Int) (xs : List Int) : marking k0 xs.length xs = marks k0 xs.length := by simp [marking]
theorem marking_set (k0 : Int) (k : Nat) (xs : List Int) (h : k < xs.length) : (marking k0 k xs).set k (k0 + k) = marking k0 (k + 1) xs := by
  unfold marking
  rw [List.drop_eq_getElem_cons h, List.set_append_right _ _ (by rw [marks_length]; exact Nat.le_refl _), marks_length, Nat.sub_self, List.set_cons_zero]
  have e : marks k0 (k + 1) = marks k0 k ++ [k0 + (k : Int)] := by simp [marks, List.range_succ]
  rw [e, List.append_assoc]
  rfl
theorem grown_trans {a b c : World} {row : Option Nat} (h : a.grownBy b row) (k : b.grownBy c row) : a.grownBy c row :=
  ⟨k.os.trans h.os, k.tape.trans h.tape, k.output.trans h.output, Nat.le_trans h.size k.size, fun i hi hne => (k.block i (Nat.lt_of_lt_of_le hi h.size) hne).trans (h.block i hi hne)⟩

/-- What marking a slice of the call's own leaves. -/
def RetM (w : World) (base : Nat) (v : Value) (k0 : Int) (n : Nat) (e : Ending) (w' : World) : Prop :=
  e = .returned (.int .i64 (k0 + n)) ∧ OwnI w' base v (marks k0 n) ∧ w.grownBy w' v.ownBlock

set_option maxHeartbeats 400000 in
theorem markIntS_c (A : Option Addr) (c base : Nat) (xs : List Int) (k0 : Int) (w : World) (ho : OwnI w base (.slice A xs.length c) xs) (h0 : 0 ≤ k0) (h1 : k0 ≤ 4611686018427387904) (hm : xs.length ≤ 4611686018427387903) :
    Calls Try.prog 39 #[.slice A xs.length c, .int .i64 k0] w (RetM w base (.slice A xs.length c) k0 xs.length) := by
  by_cases hp : 0 < xs.length
  · obtain ⟨g, cap, hv, hg1, hg2⟩ := ho.head hp
    simp only [Value.slice.injEq, true_and] at hv
    obtain ⟨rfl, rfl⟩ := hv
    go_enter Try.func39, Try.ntmps39
    go_wp2
    go_loopw [1, 5] (fun kk i wr => ∃ k : Nat, k ≤ xs.length ∧ i = .int .i64 k ∧ kk = .int .i64 (k0 + k) ∧ OwnI wr base (.slice (some ⟨g, 0, none⟩) xs.length c) (marking k0 k xs) ∧ w.grownBy wr (some g)) (fun _ i _ => xs.length - (intOf i).toNat)
    case atStart => exact ⟨0, by omega, rfl, by simp, by rw [marking_zero]; exact ho, World.grownBy.refl _ _⟩
    case round =>
      clear ho
      obtain ⟨k, hk, rfl, rfl, hown, hgr⟩ := hrel
      by_cases hlt : k < xs.length
      · have hl := marking_length k0 k xs hk
        have hown' : OwnI wr base (.slice (some ⟨g, 0, none⟩) (marking k0 k xs).length c) (marking k0 k xs) := by rw [hl]; exact hown
        have hc := hown'.cellAt (k := k) (by omega)
        have hf := hown'.frozenAt k
        have hst := hown'.stored k (k0 + k)
        rw [marking_set k0 k xs hlt, hl] at hst
        generalize (marking k0 k xs).getD k 0 = y at hc
        have HST := Lib.hid hst
        clear hst hown hown' hl
        go_wp2
        go_roundw
        case rel => exact ⟨k + 1, by omega, by go_num, by go_num, HST.out.1, grown_trans hgr HST.out.2⟩
        case measure => simp [intOf]; omega
      · have hk' : k = xs.length := by omega
        subst hk'
        rw [marking_all] at hown
        clear hg1 hg2
        go_wp2
        go_ret
        exact ⟨rfl, hown, hgr⟩
  · have hx : xs = [] := List.eq_nil_of_length_eq_zero (by omega)
    subst hx
    go_enter Try.func39, Try.ntmps39
    go_wp2
    refine wp_loop_rounds 1 ?_
    rw [rounds_succ]
    go_wp2
    go_ret
    exact ⟨by simp, by simpa [marks] using ho, World.grownBy.refl _ _⟩

set_option maxHeartbeats 400000 in
theorem heldIntS_c {B : Nat} (A : Option Addr) (c n : Nat) (k0 : Int) (w : World) (h : RdI w B A (marks k0 n)) (h0 : 0 ≤ k0) (h1 : k0 ≤ 4611686018427387904) (hm : n ≤ 4611686018427387903) :
    Calls Try.prog 40 #[.slice A n c, .int .i64 k0] w fun e w' => e = .returned (.int .i64 (k0 + n)) ∧ w = w' := by
  go_enter Try.func40, Try.ntmps40
  go_wp2
  go_loop [1, 5] (fun kk i => ∃ k : Nat, k ≤ n ∧ i = .int .i64 k ∧ kk = .int .i64 (k0 + k)) (fun _ i => n - (intOf i).toNat)
  case atStart => exact ⟨0, by omega, rfl, by simp⟩
  case round =>
    obtain ⟨k, hk, rfl, rfl⟩ := hrel
    by_cases hlt : k < n
    · obtain ⟨b, off, x, rfl, hx, hb, hc⟩ := h.at_ (k := k) (by rw [marks_length]; exact hlt)
      rw [marks_getD k0 n k hlt] at hx
      subst hx
      clear h
      go_wp2
      go_round
      case rel => exact ⟨k + 1, by omega, by go_num, by go_num⟩
      case measure => simp [intOf]; omega
    · have hk' : k = n := by omega
      subst hk'
      clear h
      go_wp2
      go_ret
      exact ⟨rfl, rfl⟩

/-- The first index at which P holds, or -1. -/
def idxI (P : Int → Bool) (xs : List Int) : Int := match xs.findIdx? P with | some i => (i : Int) | none => -1
theorem idxI_hit (P : Int → Bool) {xs : List Int} {k : Nat} (hk : k < xs.length) (hno : ∀ j, j < k → P (xs.getD j 0) = false) (hp : P (xs.getD k 0) = true) : idxI P xs = k := by
  have e : xs.findIdx? P = some k := by
    rw [List.findIdx?_eq_some_iff_getElem]
    refine ⟨hk, by simpa [List.getD_eq_getElem?_getD, hk] using hp, fun j hj => ?_⟩
    have := hno j hj
    simpa [List.getD_eq_getElem?_getD, show j < xs.length by omega] using this
  unfold idxI; rw [e]
theorem idxI_none (P : Int → Bool) {xs : List Int} (hno : ∀ j, j < xs.length → P (xs.getD j 0) = false) : idxI P xs = -1 := by
  have e : xs.findIdx? P = none := by
    rw [List.findIdx?_eq_none_iff]
    intro x hx
    obtain ⟨j, hj, rfl⟩ := List.getElem_of_mem hx
    have := hno j hj
    simpa [List.getD_eq_getElem?_getD, hj] using this
  unfold idxI; rw [e]
theorem idxI_any (P : Int → Bool) (xs : List Int) : decide (0 ≤ idxI P xs) = xs.any P := by
  unfold idxI
  cases h : xs.findIdx? P with
  | none =>
    rw [List.findIdx?_eq_none_iff] at h
    have : xs.any P = false := by rw [List.any_eq_false]; intro x hx; simp [h x hx]
    rw [this]; rfl
  | some i =>
    rw [List.findIdx?_eq_some_iff_getElem] at h
    obtain ⟨hi, hp, _⟩ := h
    have : xs.any P = true := by rw [List.any_eq_true]; exact ⟨_, List.getElem_mem hi, hp⟩
    rw [this]; simp
theorem idxI_b (P : Int → Bool) (xs : List Int) : -1 ≤ idxI P xs ∧ idxI P xs < xs.length + 1 := by
  unfold idxI
  cases h : xs.findIdx? P with
  | none => simp; omega
  | some i =>
    rw [List.findIdx?_eq_some_iff_getElem] at h
    obtain ⟨hi, _⟩ := h
    simp; omega

/-- append of one int to a slice of the call's own. -/
theorem wpList_appI {wr : World} {ops : Array Oper} {rest : List Oper} {o : Oper} {a : Act} {Q : Exit → Act → World → Prop} (hgd : o.guard = none) (s x : Operand)
    (ho : o.op = .call { callee := .builtin .append, args := #[s, x], argTypes := #[44, 44] }) (base : Nat) (v : Value) (xs : List Int) (y : Int)
    (hs : a.eval s = v) (hown : OwnI wr base v xs) (hx : a.eval x = .slice (some ⟨wr.heap.size, 0, none⟩) 1 1) (hlen : xs.length ≤ 65536) (hbase : base ≤ wr.heap.size)
    (h : ∀ v' w', OwnI w' base v' (xs ++ [y]) → Below base wr w' → wpList Try.prog ops Q rest (a.put o.dst v') w') : wpList Try.prog ops Q (o :: rest) a (wr.alloc (.cells #[.int .i64 y] 3)) := by
  obtain ⟨i0, hi, hz0, hz1, hz2⟩ := info_parts Try.infoInt
  refine wpList_append_own _ hgd s x 44 ho base 3 i0 (.int .i64 0) 1 8 Try.underlying44 hi hz0 hz1 hz2 rfl (by decide) v xs.length (xs.map (Value.int .i64)) hs (World.ownsRow.alloc hown _) ⟨wr.heap.size, 0, none⟩ 1 1 [.int .i64 y] hx rfl ?_ ?_ ?_ ?_ ?_ ?_
  · intro j u hj
    match j, hj with
    | 0, hj => simp at hj; subst hj; exact World.cell?_alloc_new wr _ _ 0
  · intro u hu
    simp at hu; subst hu; rfl
  · unfold maxLen; omega
  · omega
  · simp; omega
  · intro v' w' hown' hg _
    refine h v' w' ?_ ?_
    · unfold OwnI
      simpa using hown'
    · refine ((Below.refl base wr).alloc hbase _).grown hg (by simp; omega) (fun k hk => ?_)
      exact (OwnI.lt hown k hk).1
theorem own_empty (w : World) (base : Nat) (h : base ≤ w.heap.size) : OwnI (w.alloc (.cells #[] 3)) base (.slice (some ⟨w.heap.size, 0, none⟩) 0 0) [] := World.ownsRow_made w #[] 0 h (by decide) rfl

theorem own_empty2 (w : World) (o : Obj) (base : Nat) (h : base ≤ w.heap.size + 1) : OwnI ((w.alloc o).alloc (.cells #[] 3)) base (.slice (some ⟨w.heap.size + 1, 0, none⟩) 0 0) [] := by
  have := own_empty (w.alloc o) base (by rw [World.size_alloc]; exact h)
  rwa [World.size_alloc] at this
theorem own_older {w w' : World} {base base' : Nat} {v v' : Value} {xs ys : List Int} (h : OwnI w base v xs) (h' : OwnI w' base' v' ys) (hle : w.heap.size ≤ base') : v.ownBlock = none ∨ v.ownBlock ≠ v'.ownBlock := by
  cases hv : v.ownBlock with
  | none => exact .inl rfl
  | some k =>
    refine .inr fun e => ?_
    have a := (h.lt k hv).2
    have b := (h'.lt k e.symm).1
    omega
theorem own_newer {w w' : World} {base base' : Nat} {v v' : Value} {xs ys : List Int} (h : OwnI w base v xs) (h' : OwnI w' base' v' ys) (hle : w'.heap.size ≤ base) : v.ownBlock = none ∨ v.ownBlock ≠ v'.ownBlock := by
  cases hv : v.ownBlock with
  | none => exact .inl rfl
  | some k =>
    refine .inr fun e => ?_
    have a := (h.lt k hv).1
    have b := (h'.lt k e.symm).2
    omega
theorem RdI.grown {w w' : World} {B : Nat} {A : Option Addr} {xs : List Int} {row : Option Nat} (h : RdI w B A xs) (hg : w.grownBy w' row) (hB : B ≤ w.heap.size) (hr : ∀ g, row = some g → B ≤ g) : RdI w' B A xs :=
  h.keep fun p hp => World.cell?_of_block (hg.block p.block (by omega) (fun e => by have := hr _ e.symm; omega))
theorem stepB {W w w' : World} (h : Below W.heap.size W w) (hb : Below w.heap.size w w') : Below W.heap.size W w' := h.trans (hb.mono h.size)
theorem stepM {W w w' : World} {row : Option Nat} (h : Below W.heap.size W w) (hg : w.grownBy w' row) (hr : ∀ g, row = some g → W.heap.size ≤ g) : Below W.heap.size W w' := h.grown hg h.size hr
theorem own_least {W w w' : World} {v : Value} {xs : List Int} (h : Below W.heap.size W w) (o : OwnI w' w.heap.size v xs) : ∀ g, v.ownBlock = some g → W.heap.size ≤ g := fun g hg => Nat.le_trans h.size (o.lt g hg).1
theorem marks_rd {w : World} {base c n : Nat} {A : Option Addr} (h : OwnI w base (.slice A n c) (marks 1 n)) : RdI w w.heap.size A (marks 1 n) := by
  have e := marks_length 1 n
  have h' : OwnI w base (.slice A (marks 1 n).length c) (marks 1 n) := by rw [e]; exact h
  exact h'.rd
end Go.Proofs.Ytbfaejacfhblkaa
