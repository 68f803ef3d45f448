/- Slices of pairs of ints: what it is to read as a list of pairs, to be owned; plain. -/
import Derived.Test.YtbfaejacfhblkaaOpenS
import Derived.Deep.SlicePairs
namespace Go.Proofs.Ytbfaejacfhblkaa
open Go.ChangeShapes Go.WideShapes Go.ChangeAt Go.RowKit Go.Joins

/-- The cells of a list of pairs. -/
def pc (xs : List (Int × Int)) : List Value := xs.flatMap fun p => [.int .i64 p.1, .int .i64 p.2]
theorem pc_cons (p : Int × Int) (xs : List (Int × Int)) : pc (p :: xs) = .int .i64 p.1 :: .int .i64 p.2 :: pc xs := rfl
theorem pc_append (xs ys : List (Int × Int)) : pc (xs ++ ys) = pc xs ++ pc ys := List.flatMap_append
theorem two (k : Nat) : (k + 1) * 2 = k * 2 + 1 + 1 := by omega
theorem pc_length : ∀ xs : List (Int × Int), (pc xs).length = xs.length * 2
  | [] => rfl
  | p :: xs => by rw [pc_cons]; simp only [List.length_cons, pc_length xs]; omega
theorem pc_get0 : ∀ (xs : List (Int × Int)) (k : Nat), k < xs.length → (pc xs)[k * 2]? = some (.int .i64 (xs.getD k (0, 0)).1)
  | _ :: _, 0, _ => rfl
  | p :: xs, k + 1, h => by
    rw [pc_cons, two, List.getElem?_cons_succ, List.getElem?_cons_succ, pc_get0 xs k (by simpa using h)]; rfl
theorem pc_get1 : ∀ (xs : List (Int × Int)) (k : Nat), k < xs.length → (pc xs)[k * 2 + 1]? = some (.int .i64 (xs.getD k (0, 0)).2)
  | _ :: _, 0, _ => rfl
  | p :: xs, k + 1, h => by
    rw [pc_cons, two, List.getElem?_cons_succ, List.getElem?_cons_succ, pc_get1 xs k (by simpa using h)]; rfl
theorem pc_set0 : ∀ (xs : List (Int × Int)) (k : Nat) (a : Int), k < xs.length → (pc xs).set (k * 2) (.int .i64 a) = pc (xs.set k (a, (xs.getD k (0, 0)).2))
  | _ :: _, 0, _, _ => rfl
  | p :: xs, k + 1, a, h => by
    rw [pc_cons, two, List.set_cons_succ, List.set_cons_succ, pc_set0 xs k a (by simpa using h), List.set_cons_succ, pc_cons]; rfl
theorem pc_set1 : ∀ (xs : List (Int × Int)) (k : Nat) (a : Int), k < xs.length → (pc xs).set (k * 2 + 1) (.int .i64 a) = pc (xs.set k ((xs.getD k (0, 0)).1, a))
  | _ :: _, 0, _, _ => rfl
  | p :: xs, k + 1, a, h => by
    rw [pc_cons, two, List.set_cons_succ, List.set_cons_succ, pc_set1 xs k a (by simpa using h), List.set_cons_succ, pc_cons]; rfl
theorem pc_take : ∀ (xs : List (Int × Int)) (k : Nat), (pc xs).take (k * 2) = pc (xs.take k)
  | [], _ => by simp [pc]
  | _ :: _, 0 => rfl
  | p :: xs, k + 1 => by rw [pc_cons, two, List.take_succ_cons, List.take_succ_cons, pc_take xs k]; rfl
theorem pc_zeros : ∀ n : Nat, pc (List.replicate n (0, 0)) = List.replicate (n * 2) (.int .i64 0)
  | 0 => rfl
  | n + 1 => by rw [List.replicate_succ, pc_cons, pc_zeros n, two, List.replicate_succ, List.replicate_succ]
theorem pc_one {xs : List (Int × Int)} {u : Value} (h : u ∈ pc xs) : u.oneCell' = true := by
  obtain ⟨p, _, hp⟩ := List.mem_flatMap.1 h
  simp at hp
  rcases hp with rfl | rfl <;> rfl
theorem ext_getP {xs ys : List (Int × Int)} (hl : xs.length = ys.length) (h : ∀ j, j < xs.length → xs.getD j (0, 0) = ys.getD j (0, 0)) : xs = ys := by
  apply List.ext_getElem hl
  intro j h1 h2
  have := h j h1
  simpa [List.getD_eq_getElem?_getD, h1, h2] using this

/-- The slice at A reads as the list xs of pairs, below block B. -/
def RdP (w : World) (B : Nat) (A : Option Addr) (xs : List (Int × Int)) : Prop :=
  0 < xs.length → ∃ b off, A = some ⟨b, off, none⟩ ∧ b < B ∧ ∀ j u, (pc xs)[j]? = some u → w.cell? ⟨b, off + j, none⟩ = some u
/-- The slice value v is the call's own, from block base on, and holds xs. -/
def OwnP (w : World) (base : Nat) (v : Value) (xs : List (Int × Int)) : Prop := w.ownsRow base 63 2 v xs.length (pc xs)
/-- What a call that makes a list of pairs hands back. -/
def RetP (w : World) (r : List (Int × Int)) (mk : Value → Value) (e : Ending) (w' : World) : Prop :=
  ∃ A cap, e = .returned (mk (.slice A r.length cap)) ∧ OwnP w' w.heap.size (.slice A r.length cap) r ∧ Below w.heap.size w w'

section
variable {w w' : World} {base B : Nat} {A : Option Addr} {v : Value} {xs : List (Int × Int)}
theorem RdP.at_ (h : RdP w B A xs) {k : Nat} (hk : k < xs.length) :
    ∃ b off x y, A = some ⟨b, off, none⟩ ∧ (x, y) = xs.getD k (0, 0) ∧ b < B ∧ w.cell? ⟨b, off + k * 2, none⟩ = some (.int .i64 x) ∧ w.cell? ⟨b, off + k * 2 + 1, none⟩ = some (.int .i64 y) := by
  obtain ⟨b, off, hA, hb, hc⟩ := h (by omega)
  exact ⟨b, off, _, _, hA, rfl, hb, hc _ _ (pc_get0 xs k hk), by rw [Nat.add_assoc]; exact hc _ _ (pc_get1 xs k hk)⟩
theorem RdP.keep (h : RdP w B A xs) (hk : ∀ p : Addr, p.block < B → w'.cell? p = w.cell? p) : RdP w' B A xs := fun hp => by
  obtain ⟨b, off, hA, hb, hc⟩ := h hp
  exact ⟨b, off, hA, hb, fun j u hj => (hk ⟨b, off + j, none⟩ hb).trans (hc j u hj)⟩
theorem RdP.below (h : RdP w B A xs) (hb : Below B w w') : RdP w' B A xs := h.keep fun _ hp => hb.cell hp
theorem RdP.more {B' : Nat} (h : RdP w B A xs) (hB : B ≤ B') : RdP w B' A xs := fun hp => by
  obtain ⟨b, off, hA, hb, hc⟩ := h hp
  exact ⟨b, off, hA, by omega, hc⟩
theorem RdP.drewN (h : RdP w B A xs) (k : Nat) : RdP (w.drewN k) B A xs := h
theorem RdP.drew (h : RdP w B A xs) : RdP w.drew B A xs := h
theorem RdP.alloc (h : RdP w B A xs) (hB : B ≤ w.heap.size) (o : Obj) : RdP (w.alloc o) B A xs := h.keep fun p hp => World.cell?_alloc_lt w o p (by omega)
theorem RdP.nil : RdP w B A [] := fun h => absurd h (by simp)
theorem RdP.grown {row : Option Nat} (h : RdP w B A xs) (hg : w.grownBy w' row) (hB : B ≤ w.heap.size) (hr : ∀ g, row = some g → B ≤ g) : RdP w' B A xs :=
  h.keep fun p hp => World.cell?_of_block (hg.block p.block (by omega) (fun e => by have := hr _ e.symm; omega))
theorem RdP.take (h : RdP w B A xs) (k : Nat) : RdP w B A (xs.take k) := fun hp => by
  obtain ⟨b, off, hA, hb, hc⟩ := h (by rw [List.length_take] at hp; omega)
  refine ⟨b, off, hA, hb, fun j u hj => hc j u ?_⟩
  rw [← pc_take, List.getElem?_take] at hj
  split at hj
  · exact hj
  · cases hj
theorem OwnP.shape (h : OwnP w base v xs) : ∃ A cap, v = .slice A xs.length cap := by
  rcases h.2 with ⟨rfl, h0⟩ | ⟨g, cap, cur, rfl, _⟩
  · exact ⟨none, 0, by rw [h0]⟩
  · exact ⟨_, _, rfl⟩
theorem OwnP.head (h : OwnP w base v xs) (hp : 0 < xs.length) : ∃ g cap, v = .slice (some ⟨g, 0, none⟩) xs.length cap ∧ base ≤ g ∧ g < w.heap.size := by
  rcases h.2 with ⟨_, h0⟩ | ⟨g, cap, cur, rfl, hb, hg, _⟩
  · omega
  · refine ⟨g, cap, rfl, hb, ?_⟩
    rcases Nat.lt_or_ge g w.heap.size with hl | hg'
    · exact hl
    · rw [Array.getElem?_eq_none hg'] at hg; cases hg
theorem OwnP.rd {n cap : Nat} (h : OwnP w base (.slice A n cap) xs) : RdP w w.heap.size A xs := fun hp => by
  obtain ⟨g, cap', hv, _, hlt⟩ := h.head hp
  simp only [Value.slice.injEq] at hv
  obtain ⟨rfl, rfl, rfl⟩ := hv
  refine ⟨g, 0, rfl, hlt, fun j u hj => ?_⟩
  have hl : j < xs.length * 2 := by rw [← pc_length]; exact (List.getElem?_eq_some_iff.1 hj).1
  rw [Nat.zero_add, World.ownsRow.cellAt h j hl]
  exact hj
theorem OwnP.cap_le {n cap : Nat} (h : OwnP w base (.slice A n cap) xs) : xs.length ≤ cap := by
  rcases h.2 with ⟨hv, h0⟩ | ⟨g, cap', cur, hv, _, _, hc, _⟩
  · omega
  · simp only [Value.slice.injEq] at hv
    omega
theorem OwnP.kept {row : Option Nat} (h : OwnP w base v xs) (hg : w.grownBy w' row) (hne : v.ownBlock = none ∨ v.ownBlock ≠ row) : OwnP w' base v xs := World.ownsRow.kept h hg hne
theorem OwnP.lt (h : OwnP w base v xs) : ∀ k, v.ownBlock = some k → base ≤ k ∧ k < w.heap.size := World.ownsRow.lt h
theorem OwnP.below (h : OwnP w base v xs) (hb : Below w.heap.size w w') : OwnP w' base v xs :=
  h.kept (row := none) ⟨hb.os, hb.tape, hb.output, hb.size, fun i hi _ => hb.block i hi⟩ (by
    cases hv : v.ownBlock
    · exact .inl rfl
    · exact .inr (by simp))
theorem OwnP.alloc (h : OwnP w base v xs) (o : Obj) : OwnP (w.alloc o) base v xs := World.ownsRow.alloc h o
theorem OwnP.drewN (h : OwnP w base v xs) (n : Nat) : OwnP (w.drewN n) base v xs := h
theorem OwnP.drew (h : OwnP w base v xs) : OwnP w.drew base v xs := h
theorem OwnP.weak {base' : Nat} (h : OwnP w base v xs) (hb : base' ≤ base) : OwnP w base' v xs := by
  refine ⟨h.1, ?_⟩
  rcases h.2 with h0 | ⟨g, cap, cur, hv, hg, r⟩
  · exact .inl h0
  · exact .inr ⟨g, cap, cur, hv, by omega, r⟩
theorem OwnP.nil (w : World) (base : Nat) : OwnP w base (.slice none 0 0) [] := World.ownsRow_nil w base _ _
theorem OwnP.setBelow (h : OwnP w base v xs) {a : Addr} (ha : a.block < base) (u : Value) : OwnP (w.setCell a u) base v xs := ownsRow_setCell_below h ha u
theorem OwnP.frozenAt {g cap n : Nat} (h : OwnP w base (.slice (some ⟨g, 0, none⟩) n cap) xs) (k : Nat) : w.frozen? ⟨g, k, none⟩ = false := by
  obtain ⟨A, c, hv⟩ := h.shape
  simp only [Value.slice.injEq] at hv
  obtain ⟨_, rfl, _⟩ := hv
  exact World.ownsRow.frozenAt h k
theorem OwnP.cells2 {g cap n : Nat} (h : OwnP w base (.slice (some ⟨g, 0, none⟩) n cap) xs) {k : Nat} (hk : k < xs.length) : ∃ x y : Int, w.cell? ⟨g, k * 2, none⟩ = some (.int .i64 x) ∧ w.cell? ⟨g, k * 2 + 1, none⟩ = some (.int .i64 y) := by
  obtain ⟨b, off, x, y, hA, _, _, h0, h1⟩ := h.rd.at_ hk
  simp only [Option.some.injEq, Addr.mk.injEq, and_true] at hA
  obtain ⟨rfl, rfl⟩ := hA
  rw [Nat.zero_add] at h0 h1
  exact ⟨x, y, h0, h1⟩
theorem OwnP.store0 {g cap n : Nat} (h : OwnP w base (.slice (some ⟨g, 0, none⟩) n cap) xs) {k : Nat} (hk : k < xs.length) (a : Int) :
    OwnP (w.setCell ⟨g, k * 2, none⟩ (.int .i64 a)) base (.slice (some ⟨g, 0, none⟩) n cap) (xs.set k (a, (xs.getD k (0, 0)).2)) ∧ w.grownBy (w.setCell ⟨g, k * 2, none⟩ (.int .i64 a)) (some g) := by
  obtain ⟨A, c, hv⟩ := h.shape
  simp only [Value.slice.injEq] at hv
  obtain ⟨_, rfl, _⟩ := hv
  have := World.ownsRow.stored h (k * 2) (.int .i64 a)
  refine ⟨?_, this.2⟩
  have h1 := this.1
  rw [pc_set0 xs k a hk] at h1
  unfold OwnP
  rw [List.length_set]
  exact h1
theorem OwnP.store1 {g cap n : Nat} (h : OwnP w base (.slice (some ⟨g, 0, none⟩) n cap) xs) {k : Nat} (hk : k < xs.length) (a : Int) :
    OwnP (w.setCell ⟨g, k * 2 + 1, none⟩ (.int .i64 a)) base (.slice (some ⟨g, 0, none⟩) n cap) (xs.set k ((xs.getD k (0, 0)).1, a)) ∧ w.grownBy (w.setCell ⟨g, k * 2 + 1, none⟩ (.int .i64 a)) (some g) := by
  obtain ⟨A, c, hv⟩ := h.shape
  simp only [Value.slice.injEq] at hv
  obtain ⟨_, rfl, _⟩ := hv
  have := World.ownsRow.stored h (k * 2 + 1) (.int .i64 a)
  refine ⟨?_, this.2⟩
  have h1 := this.1
  rw [pc_set1 xs k a hk] at h1
  unfold OwnP
  rw [List.length_set]
  exact h1
theorem OwnP.store {g cap n : Nat} (h : OwnP w base (.slice (some ⟨g, 0, none⟩) n cap) xs) {k : Nat} (hk : k < xs.length) (a b : Int) :
    OwnP ((w.setCell ⟨g, k * 2, none⟩ (.int .i64 a)).setCell ⟨g, k * 2 + 1, none⟩ (.int .i64 b)) base (.slice (some ⟨g, 0, none⟩) n cap) (xs.set k (a, b)) ∧
      w.grownBy ((w.setCell ⟨g, k * 2, none⟩ (.int .i64 a)).setCell ⟨g, k * 2 + 1, none⟩ (.int .i64 b)) (some g) := by
  obtain ⟨h1, g1⟩ := h.store0 hk a
  obtain ⟨h2, g2⟩ := h1.store1 (k := k) (by rw [List.length_set]; exact hk) b
  refine ⟨?_, grown_trans g1 g2⟩
  rw [List.set_set] at h2
  simpa [List.getD_eq_getElem?_getD, hk] using h2
theorem OwnP.made (w : World) (n : Nat) (hn : n ≤ maxLen) : OwnP (w.alloc (.cells (madeCells #[.int .i64 0, .int .i64 0] (n * 2)) 63)) w.heap.size (.slice (some ⟨w.heap.size, 0, none⟩) n n) (List.replicate n (0, 0)) := by
  refine ⟨by rw [pc_length], .inr ⟨w.heap.size, n, _, by rw [List.length_replicate], Nat.le_refl _, heap_alloc_new w _, by simp, hn, by simp [size_madeCells], ?_⟩⟩
  rw [pc_zeros, List.length_replicate]
  apply List.ext_getElem?
  intro j
  by_cases hj : j < n * 2
  · rw [List.getElem?_take_of_lt hj, List.getElem?_replicate, if_pos hj, Array.getElem?_toList]
    have : j % 2 = 0 ∨ j % 2 = 1 := by omega
    rcases this with e | e <;> simp [madeCells, hj, e]
  · rw [List.getElem?_eq_none (by simp; omega), List.getElem?_eq_none (by simp; omega)]
theorem OwnP.empty (w : World) (base : Nat) (h : base ≤ w.heap.size) : OwnP (w.alloc (.cells #[] 63)) base (.slice (some ⟨w.heap.size, 0, none⟩) 0 0) [] := World.ownsRow_made w #[] 0 h (by decide) rfl
end

/-- A slice of which k pairs are filled. -/
def filling (k : Nat) (xs : List (Int × Int)) : List (Int × Int) := xs.take k ++ List.replicate (xs.length - k) (0, 0)
theorem filling_length (k : Nat) (xs : List (Int × Int)) (h : k ≤ xs.length) : (filling k xs).length = xs.length := by simp [filling]; omega
theorem filling_zero (xs : List (Int × Int)) : filling 0 xs = List.replicate xs.length (0, 0) := by simp [filling]
theorem filling_all (xs : List (Int × Int)) : filling xs.length xs = xs := by simp [filling]
theorem filling_set {k : Nat} {xs : List (Int × Int)} (h : k < xs.length) : (filling k xs).set k (xs.getD k (0, 0)) = filling (k + 1) xs := by
  unfold filling
  have e : xs.length - k = xs.length - (k + 1) + 1 := by omega
  rw [e, List.replicate_succ, List.set_append_right _ _ (by simp; omega)]
  have : k - (xs.take k).length = 0 := by simp; omega
  rw [this, List.set_cons_zero, List.take_succ_eq_append_getElem h, List.append_assoc]
  simp [List.getD_eq_getElem?_getD, h]
/-- The marks k0, k0 + 1, .., two a pair. -/
def marksP (k0 : Int) (n : Nat) : List (Int × Int) := (List.range n).map fun (i : Nat) => (k0 + 2 * (i : Int), k0 + 2 * (i : Int) + 1)
theorem marksP_length (k0 : Int) (n : Nat) : (marksP k0 n).length = n := by simp [marksP]
theorem marksP_getD (k0 : Int) (n j : Nat) (h : j < n) : (marksP k0 n).getD j (0, 0) = (k0 + 2 * j, k0 + 2 * j + 1) := by
  simp [marksP, List.getD_eq_getElem?_getD, h]
def markingP (k0 : Int) (k : Nat) (xs : List (Int × Int)) : List (Int × Int) := marksP k0 k ++ xs.drop k
theorem markingP_length (k0 : Int) (k : Nat) (xs : List (Int × Int)) (h : k ≤ xs.length) : (markingP k0 k xs).length = xs.length := by simp [markingP, marksP_length]; omega
theorem markingP_zero (k0 : Int) (xs : List (Int × Int)) : markingP k0 0 xs = xs := by simp [markingP, marksP]
theorem markingP_all (k0 : Int) (xs : List (Int × Int)) : markingP k0 xs.length xs = marksP k0 xs.length := by simp [markingP]
theorem markingP_set (k0 : Int) (k : Nat) (xs : List (Int × Int)) (h : k < xs.length) : (markingP k0 k xs).set k (k0 + 2 * k, k0 + 2 * k + 1) = markingP k0 (k + 1) xs := by
  unfold markingP
  rw [List.drop_eq_getElem_cons h, List.set_append_right _ _ (by rw [marksP_length]; exact Nat.le_refl _), marksP_length, Nat.sub_self, List.set_cons_zero]
  have e : marksP k0 (k + 1) = marksP k0 k ++ [(k0 + 2 * (k : Int), k0 + 2 * (k : Int) + 1)] := by simp [marksP, List.range_succ]
  rw [e, List.append_assoc]
  rfl
/-- What marking a slice of the call's own leaves. -/
def RetMP (w : World) (base : Nat) (v : Value) (k0 : Int) (n : Nat) (e : Ending) (w' : World) : Prop :=
  e = .returned (.int .i64 (k0 + 2 * n)) ∧ OwnP w' base v (marksP k0 n) ∧ w.grownBy w' v.ownBlock
theorem ownP_older {w w' : World} {base base' : Nat} {v v' : Value} {xs ys : List (Int × Int)} (h : OwnP w base v xs) (h' : OwnP w' base' v' ys) (hle : w.heap.size ≤ base') : v.ownBlock = none ∨ v.ownBlock ≠ v'.ownBlock := by
  cases hv : v.ownBlock with
  | none => exact .inl rfl
  | some k =>
    refine .inr fun e => ?_
    have a := (h.lt k hv).2
    have b := (h'.lt k e.symm).1
    omega
theorem ownP_newer {w w' : World} {base base' : Nat} {v v' : Value} {xs ys : List (Int × Int)} (h : OwnP w base v xs) (h' : OwnP w' base' v' ys) (hle : w'.heap.size ≤ base) : v.ownBlock = none ∨ v.ownBlock ≠ v'.ownBlock := by
  cases hv : v.ownBlock with
  | none => exact .inl rfl
  | some k =>
    refine .inr fun e => ?_
    have a := (h.lt k hv).1
    have b := (h'.lt k e.symm).2
    omega
theorem ownP_least {W w w' : World} {v : Value} {xs : List (Int × Int)} (h : Below W.heap.size W w) (o : OwnP w' w.heap.size v xs) : ∀ g, v.ownBlock = some g → W.heap.size ≤ g := fun g hg => Nat.le_trans h.size (o.lt g hg).1

theorem infoPar : (Try.prog.info? 63).map (fun i => (i.zero, i.size, i.bytes)) = some (some (.agg #[.int .i64 0, .int .i64 0]), 2, 16) := by kernel_rfl
theorem make_par (n : Nat) (hn : n ≤ 1048576) (w : World) :
    (Instr.makeSlice 27 (.int .i64 (n : Int)) (.int .i64 (n : Int))).run Try.prog w = .ok (.slice (some ⟨w.heap.size, 0, none⟩) n n) (w.alloc (.cells (madeCells #[.int .i64 0, .int .i64 0] (n * 2)) 63)) := by
  obtain ⟨i, hi, hz0, hz1, hz2⟩ := info_parts infoPar
  have hr := run_make (P := Try.prog) w 27 63 i _ Try.underlying27 hi hz0 .i64 .i64 n n (by omega) (Int.le_refl _) (by rw [hz2]; omega) (by omega)
  rw [hz1] at hr
  simp only [Int.toNat_natCast] at hr
  exact hr
/-- append of one pair to a slice of the call's own. -/
theorem wpList_appP {wr : World} {ops : Array Oper} {rest : List Oper} {o : Oper} {a : Act} {Q : Exit → Act → World → Prop} (hgd : o.guard = none) (s x : Operand)
    (ho : o.op = .call { callee := .builtin .append, args := #[s, x], argTypes := #[27, 27] }) (base : Nat) (v : Value) (xs : List (Int × Int)) (y z : Int)
    (hs : a.eval s = v) (hown : OwnP wr base v xs) (hx : a.eval x = .slice (some ⟨wr.heap.size, 0, none⟩) 1 1) (hlen : xs.length ≤ 65536) (hbase : base ≤ wr.heap.size)
    (h : ∀ v' w', OwnP w' base v' (xs ++ [(y, z)]) → Below base wr w' → wpList Try.prog ops Q rest (a.put o.dst v') w') : wpList Try.prog ops Q (o :: rest) a (wr.alloc (.cells #[.int .i64 y, .int .i64 z] 63)) := by
  obtain ⟨i0, hi, hz0, hz1, hz2⟩ := info_parts infoPar
  refine wpList_append_own _ hgd s x 27 ho base 63 i0 _ 2 16 Try.underlying27 hi hz0 hz1 hz2 rfl (by decide) v xs.length (pc xs) hs (World.ownsRow.alloc hown _) ⟨wr.heap.size, 0, none⟩ 1 1 [.int .i64 y, .int .i64 z] hx rfl ?_ ?_ ?_ ?_ ?_ ?_
  · intro j u hj
    match j, hj with
    | 0, hj => simp at hj; subst hj; exact World.cell?_alloc_new wr _ _ 0
    | 1, hj => simp at hj; subst hj; exact World.cell?_alloc_new wr _ _ 1
  · intro u hu
    simp at hu; rcases hu with rfl | rfl <;> rfl
  · unfold maxLen; omega
  · omega
  · simp; omega
  · intro v' w' hown' hg _
    refine h v' w' ?_ ?_
    · unfold OwnP
      rw [pc_append, List.length_append]
      exact hown'
    · refine ((Below.refl base wr).alloc hbase _).grown hg (by simp; omega) (fun k hk => ?_)
      exact (OwnP.lt hown k hk).1
/-- append of a whole slice of pairs to a slice of the call's own. -/
theorem wpList_appPs {wr : World} {B : Nat} {ops : Array Oper} {rest : List Oper} {o : Oper} {a : Act} {Q : Exit → Act → World → Prop} (hgd : o.guard = none) (s x : Operand)
    (ho : o.op = .call { callee := .builtin .append, args := #[s, x], argTypes := #[27, 27] }) (base : Nat) (v : Value) (A : Option Addr) (c : Nat) (xs ys : List (Int × Int))
    (hs : a.eval s = v) (hown : OwnP wr base v xs) (hx : a.eval x = .slice A ys.length c) (hrd : RdP wr B A ys) (hlen : xs.length ≤ 65536) (hlen2 : ys.length ≤ 1048576) (hbase : base ≤ wr.heap.size) (hne : ∃ ad, A = some ad)
    (h : ∀ v' w', OwnP w' base v' (xs ++ ys) → Below base wr w' → wpList Try.prog ops Q rest (a.put o.dst v') w') : wpList Try.prog ops Q (o :: rest) a wr := by
  obtain ⟨i0, hi, hz0, hz1, hz2⟩ := info_parts infoPar
  obtain ⟨ad, rfl⟩ := hne
  refine wpList_append_own _ hgd s x 27 ho base 63 i0 _ 2 16 Try.underlying27 hi hz0 hz1 hz2 rfl (by decide) v xs.length (pc xs) hs hown ad ys.length c (pc ys) hx (pc_length ys) ?_ (fun u hu => pc_one hu) ?_ ?_ hbase ?_
  · intro j u hj
    have hp : 0 < ys.length := by
      have : j < (pc ys).length := (List.getElem?_eq_some_iff.1 hj).1
      rw [pc_length] at this
      omega
    obtain ⟨b, off, hA', _, hc⟩ := hrd hp
    simp only [Option.some.injEq] at hA'
    subst hA'
    have hadd : (⟨b, off, none⟩ : Addr).add j = ⟨b, off + j, none⟩ := by unfold Addr.add; split <;> simp_all
    rw [hadd]
    exact hc j u hj
  · unfold maxLen; omega
  · omega
  · intro v' w' hown' hg _
    refine h v' w' ?_ ?_
    · unfold OwnP
      rw [pc_append, List.length_append]
      exact hown'
    · exact (Below.refl base wr).grown hg hbase (fun k hk => (OwnP.lt hown k hk).1)
end Go.Proofs.Ytbfaejacfhblkaa
