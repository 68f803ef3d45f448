/- Contracts: the cursor that draws. -/
import Derived.Test.YtbfaejacfhblkaaSlices
import Derived.Laws.BitsLemmas
import Derived.Laws.Bits64
namespace Go.Proofs.Ytbfaejacfhblkaa
open Go.RowKit

/-- What is drawn behind the last byte lies in a byte. -/
theorem drawn_b (z : Int) : 0 ≤ wrap64 (bits .and .u64 (IntKind.u64.wrap z / 1099511627776) 255) ∧ wrap64 (bits .and .u64 (IntKind.u64.wrap z / 1099511627776) 255) ≤ 255 := by
  have hx : 0 ≤ IntKind.u64.wrap z ∧ IntKind.u64.wrap z < 18446744073709551616 := by rw [IntKind.wrap_u64]; omega
  generalize IntKind.u64.wrap z = x at hx
  have h := bits_mask .u64 63 (by decide) (fun n h0 h1 => by rw [IntKind.wrap_u64]; omega) 8 (by decide) (x / 1099511627776) (by omega) (by omega)
  have e : ((2 : Int) ^ 8 - 1) = 255 := by decide
  have e2 : ((2 : Int) ^ 8) = 256 := by decide
  rw [e, e2] at h
  rw [h]
  unfold wrap64
  omega
/-- n bytes at A, below block B. -/
def RdB (w : World) (B : Nat) (A : Option Addr) (n : Nat) : Prop :=
  0 < n → ∃ b off, A = some ⟨b, off, none⟩ ∧ b < B ∧ ∀ j, j < n → ∃ x : Int, 0 ≤ x ∧ x ≤ 255 ∧ w.cell? ⟨b, off + j, none⟩ = some (.int .u8 x)
theorem RdB.at_ {w : World} {B : Nat} {A : Option Addr} {n : Nat} (h : RdB w B A n) {k : Nat} (hk : k < n) : ∃ b off x, A = some ⟨b, off, none⟩ ∧ b < B ∧ 0 ≤ x ∧ x ≤ 255 ∧ w.cell? ⟨b, off + k, none⟩ = some (.int .u8 x) := by
  obtain ⟨b, off, hA, hb, hc⟩ := h (by omega)
  obtain ⟨x, h0, h1, h2⟩ := hc k hk
  exact ⟨b, off, x, hA, hb, h0, h1, h2⟩
theorem RdB.keep {w w' : World} {B : Nat} {A : Option Addr} {n : Nat} (h : RdB w B A n) (hk : ∀ p : Addr, p.block < B → w'.cell? p = w.cell? p) : RdB w' B A n := fun hp => by
  obtain ⟨b, off, hA, hb, hc⟩ := h hp
  exact ⟨b, off, hA, hb, fun j hj => by
    obtain ⟨x, h0, h1, h2⟩ := hc j hj
    exact ⟨x, h0, h1, (hk ⟨b, off + j, none⟩ hb).trans h2⟩⟩
/-- The cursor at block b over n bytes, m bytes drawn at most. -/
structure Cur (w : World) (b : Nat) (A : Option Addr) (n c m : Nat) : Prop where
  lt : b < w.heap.size
  code : w.cell? ⟨b, 0, none⟩ = some (.slice A n c)
  pos : ∃ k : Nat, k ≤ m ∧ w.cell? ⟨b, 1, none⟩ = some (.int .i64 k)
  seed : ∃ s : Int, w.cell? ⟨b, 2, none⟩ = some (.int .u64 s)
  f1 : w.frozen? ⟨b, 1, none⟩ = false
  f2 : w.frozen? ⟨b, 2, none⟩ = false
  rd : RdB w b A n
theorem cur_step {w : World} {b : Nat} {A : Option Addr} {n c m k : Nat} (s : Int) (p q : Nat) (hlt : b < w.heap.size) (hcode : w.cell? ⟨b, 0, none⟩ = some (.slice A n c)) (hk : k ≤ m) (hpos : w.cell? ⟨b, 1, none⟩ = some (.int .i64 k)) {s0 : Int} (hs : w.cell? ⟨b, 2, none⟩ = some (.int .u64 s0))
    (f1 : w.frozen? ⟨b, 1, none⟩ = false) (f2 : w.frozen? ⟨b, 2, none⟩ = false) (hrd : RdB w b A n) :
    Cur ((((w.drewN p).setCell ⟨b, 1, none⟩ (.int .i64 ((k : Int) + 1))).setCell ⟨b, 2, none⟩ (.int .u64 s)).drewN q) b A n c (m + 1) ∧
      w.grownBy ((((w.drewN p).setCell ⟨b, 1, none⟩ (.int .i64 ((k : Int) + 1))).setCell ⟨b, 2, none⟩ (.int .u64 s)).drewN q) (some b) := by
  refine ⟨⟨by simpa using hlt, by simp [*, go_sem], ⟨k + 1, by omega, by simp [*, go_sem]⟩, ⟨s, by simp [*, go_sem]⟩, by simp [*, go_sem], by simp [*, go_sem], hrd.keep fun a ha => ?_⟩, ⟨rfl, rfl, rfl, by simp, fun i _ hi => ?_⟩⟩
  · have e1 : a.block ≠ b := by omega
    exact (World.cell?_of_block (heap_setCell_other _ ⟨b, 2, none⟩ a.block _ (by simpa using e1))).trans (World.cell?_of_block (heap_setCell_other _ ⟨b, 1, none⟩ a.block _ (by simpa using e1)))
  · have e1 : i ≠ b := fun e => hi (by rw [e])
    exact (heap_setCell_other _ ⟨b, 2, none⟩ i _ (by simpa using e1)).trans (heap_setCell_other _ ⟨b, 1, none⟩ i _ (by simpa using e1))
set_option maxHeartbeats 1000000 in
theorem next_c (b : Nat) (A : Option Addr) (n c m : Nat) (w : World) (h : Cur w b A n c m) (hm : m ≤ 1000000000) :
    Calls Try.prog 84 #[.pointer (some ⟨b, 0, none⟩)] w fun e w' => ∃ x : Int, 0 ≤ x ∧ x ≤ 255 ∧ e = .returned (.int .i64 x) ∧ Cur w' b A n c (m + 1) ∧ w.grownBy w' (some b) := by
  obtain ⟨hlt, hcode, ⟨k, hk, hpos⟩, ⟨s, hs⟩, f1, f2, hrd⟩ := h
  have w1 : IntKind.i64.wrap ((k : Int) + 1) = (k : Int) + 1 := IntWalk.i64_in _ (by omega)
  by_cases hq : k < n
  · obtain ⟨bb, off, x, rfl, hbb, x0, x1, hx⟩ := hrd.at_ hq
    have hi : (k : Int) < (n : Int) := by omega
    have hi2 : (k : Int) + 1 ≤ (n : Int) := by omega
    have hne : ¬ bb = b := by omega
    have w2 : IntKind.i64.wrap x = x := IntWalk.i64_in _ (by omega)
    have H := Lib.hid hrd
    clear hrd
    go_enter Try.func84, Try.ntmps84
    go_wp2
    go_quiet (fail)
    go_wp2
    go_quiet (fail)
    go_wp2
    go_quiet (fail)
    go_wp2
    go_ret
    have st := fun s' p q => cur_step (m := m) s' p q hlt hcode hk hpos hs f1 f2 H.out
    exact ⟨x, x0, x1, rfl, (st _ _ _).1, (st _ _ _).2⟩
  · have hi : ¬ (k : Int) < (n : Int) := by omega
    have hi2 : ¬ (k : Int) + 1 ≤ (n : Int) := by omega
    have hid : decide ((k : Int) < (n : Int)) = false := by simp; omega
    have hid2 : decide ((k : Int) + 1 ≤ (n : Int)) = false := by simp; omega
    have H := Lib.hid hrd
    clear hrd
    go_enter Try.func84, Try.ntmps84
    go_wp2
    go_quiet (fail)
    go_wp2
    go_quiet (fail)
    go_wp2
    go_ret
    have st := fun s' p q => cur_step (m := m) s' p q hlt hcode hk hpos hs f1 f2 H.out
    exact ⟨_, (drawn_b _).1, (drawn_b _).2, rfl, (st _ _ _).1, (st _ _ _).2⟩
theorem Cur.weak {w : World} {b : Nat} {A : Option Addr} {n c m m' : Nat} (h : Cur w b A n c m) (hm : m ≤ m') : Cur w b A n c m' :=
  ⟨h.lt, h.code, by obtain ⟨k, hk, hc⟩ := h.pos; exact ⟨k, by omega, hc⟩, h.seed, h.f1, h.f2, h.rd⟩
/-- What pick hands back. -/
def RetPick (w : World) (b : Nat) (A : Option Addr) (n c m : Nat) (q : Int) (e : Ending) (w' : World) : Prop :=
  ∃ x : Int, 0 ≤ x ∧ (x < q ∨ x = 0) ∧ e = .returned (.int .i64 x) ∧ Cur w' b A n c m ∧ w.grownBy w' (some b)
set_option maxHeartbeats 1000000 in
theorem pick_c (b : Nat) (A : Option Addr) (n c m : Nat) (q : Int) (w : World) (h : Cur w b A n c m) (hm : m ≤ 100000000) (hq : q ≤ 60000) :
    Calls Try.prog 74 #[.pointer (some ⟨b, 0, none⟩), .int .i64 q] w (RetPick w b A n c (m + 2) q) := by
  by_cases h1 : q ≤ 1
  · go_enter Try.func74, Try.ntmps74
    go_wp2
    go_ret
    exact ⟨0, by omega, .inr rfl, rfl, h.weak (by omega), World.grownBy.refl _ _⟩
  have h1d : decide (q ≤ 1) = false := by simp; omega
  have hne : (q == 0) = false := by simp; omega
  have hq0 : 0 < q := by omega
  have hqz : ¬ q = 0 := by omega
  by_cases h2 : q > 200
  · go_enter Try.func74, Try.ntmps74
    go_wp2_with fail
    refine (next_c b A n c m _ h (by omega)).mono ?_
    rintro e w1 ⟨x, x0, x1, rfl, C1, g1⟩
    have wx : IntKind.i64.wrap (x * 256) = x * 256 := IntWalk.i64_in _ (by omega)
    go_wp2_with fail
    refine (next_c b A n c (m + 1) _ C1 (by omega)).mono ?_
    rintro e w2 ⟨y, y0, y1, rfl, C2, g2⟩
    have wy : IntKind.i64.wrap (x * 256 + y) = x * 256 + y := IntWalk.i64_in _ (by omega)
    have hp : 0 ≤ x * 256 + y := by omega
    have hm1 : 0 ≤ (x * 256 + y) % q := Int.emod_nonneg _ hqz
    have hm2 : (x * 256 + y) % q < q := Int.emod_lt_of_pos _ hq0
    have wz : IntKind.i64.wrap ((x * 256 + y).tmod q) = (x * 256 + y) % q := by rw [Int.tmod_eq_emod_of_nonneg hp]; exact IntWalk.i64_in _ (by omega)
    clear h C1
    go_wp2
    go_ret
    exact ⟨_, hm1, .inl hm2, rfl, C2, grown_trans g1 g2⟩
  · have h2d : decide (q > 200) = false := by simp; omega
    have h2e : decide (200 < q) = false := by simp; omega
    go_enter Try.func74, Try.ntmps74
    go_wp2_with fail
    refine (next_c b A n c m _ h (by omega)).mono ?_
    rintro e w1 ⟨x, x0, x1, rfl, C1, g1⟩
    have hm1 : 0 ≤ x % q := Int.emod_nonneg _ hqz
    have hm2 : x % q < q := Int.emod_lt_of_pos _ hq0
    have wz : IntKind.i64.wrap (x.tmod q) = x % q := by rw [Int.tmod_eq_emod_of_nonneg x0]; exact IntWalk.i64_in _ (by omega)
    clear h
    go_wp2
    go_ret
    exact ⟨_, hm1, .inl hm2, rfl, C1.weak (by omega), g1⟩
theorem among_c {B : Nat} (b : Nat) (A : Option Addr) (n c m : Nat) (A' : Option Addr) (c' : Nat) (ys : List Int) (w : World) (h : Cur w b A n c m) (hm : m ≤ 100000000) (hr : RdI w B A' ys) (hl : 0 < ys.length) (hl2 : ys.length ≤ 60000) (hne : ∀ g off, A' = some ⟨g, off, none⟩ → g ≠ b) (hB : B ≤ w.heap.size) :
    Calls Try.prog 73 #[.pointer (some ⟨b, 0, none⟩), .slice A' ys.length c'] w fun e w' => ∃ k : Nat, k < ys.length ∧ e = .returned (.int .i64 (ys.getD k 0)) ∧ Cur w' b A n c (m + 2) ∧ w.grownBy w' (some b) := by
  go_enter Try.func73, Try.ntmps73
  go_wp2_with fail
  refine (pick_c b A n c m ys.length _ h hm (by omega)).mono ?_
  rintro e w1 ⟨x, x0, x1, rfl, C1, g1⟩
  obtain ⟨k, rfl⟩ : ∃ k : Nat, x = k := ⟨x.toNat, by omega⟩
  have hk : k < ys.length := by omega
  obtain ⟨bb, off, z, rfl, hz, hbb, hc⟩ := hr.at_ hk
  have hnb := hne bb off rfl
  have hc1 : w1.cell? ⟨bb, off + k, none⟩ = some (.int .i64 z) := (World.cell?_of_block (g1.block bb (by omega) (fun e => hnb (Option.some.inj e)))).trans hc
  have hki : (k : Int) < (ys.length : Int) := by omega
  have HZ := Lib.hid hz
  clear h hr hz hc hne x1
  go_wp2
  go_ret
  exact ⟨k, hk, by rw [← HZ.out]; rfl, C1, g1⟩
theorem Cur.alloc {w : World} {b : Nat} {A : Option Addr} {n c m : Nat} (h : Cur w b A n c m) (o : Obj) : Cur (w.alloc o) b A n c m := by
  have hb := h.lt
  refine ⟨by rw [World.size_alloc]; omega, (World.cell?_alloc_lt w o ⟨b, 0, none⟩ hb).trans h.code, ?_, ?_, ?_, ?_, h.rd.keep fun a ha => World.cell?_alloc_lt w o a (by omega)⟩
  · obtain ⟨k, hk, hc⟩ := h.pos
    exact ⟨k, hk, (World.cell?_alloc_lt w o ⟨b, 1, none⟩ hb).trans hc⟩
  · obtain ⟨s, hs⟩ := h.seed
    exact ⟨s, (World.cell?_alloc_lt w o ⟨b, 2, none⟩ hb).trans hs⟩
  · exact (World.frozen?_of_block (w := w) (Below.heap_alloc w o b hb)).trans h.f1
  · exact (World.frozen?_of_block (w := w) (Below.heap_alloc w o b hb)).trans h.f2
theorem Cur.setOther {w : World} {b : Nat} {A : Option Addr} {n c m : Nat} (h : Cur w b A n c m) {a : Addr} (ha : b < a.block) (u : Value) : Cur (w.setCell a u) b A n c m := by
  have hk : ∀ p : Addr, p.block ≤ b → (w.setCell a u).cell? p = w.cell? p := fun p hp => World.cell?_of_block (heap_setCell_other w a p.block u (by omega))
  have hf : ∀ p : Addr, p.block ≤ b → (w.setCell a u).frozen? p = w.frozen? p := fun p hp => World.frozen?_of_block (heap_setCell_other w a p.block u (by omega))
  refine ⟨by rw [World.size_setCell]; exact h.lt, (hk ⟨b, 0, none⟩ (Nat.le_refl _)).trans h.code, ?_, ?_, (hf ⟨b, 1, none⟩ (Nat.le_refl _)).trans h.f1, (hf ⟨b, 2, none⟩ (Nat.le_refl _)).trans h.f2, h.rd.keep fun p hp => hk p (by omega)⟩
  · obtain ⟨k, hk1, hc⟩ := h.pos
    exact ⟨k, hk1, (hk ⟨b, 1, none⟩ (Nat.le_refl _)).trans hc⟩
  · obtain ⟨s, hs⟩ := h.seed
    exact ⟨s, (hk ⟨b, 2, none⟩ (Nat.le_refl _)).trans hs⟩
theorem RdI.lits (w : World) (ys : List Int) : RdI (w.alloc (.cells (ys.map (Value.int .i64)).toArray 3)) (w.heap.size + 1) (some ⟨w.heap.size, 0, none⟩) ys := fun _ => by
  refine ⟨w.heap.size, 0, rfl, by omega, fun j hj => ?_⟩
  rw [Nat.zero_add, World.cell?_alloc_new]
  simp [List.getD_eq_getElem?_getD, hj]
theorem far_cell {w w' : World} {b : Nat} {a : Addr} {u : Value} (g : w.grownBy w' (some b)) (h : w.cell? a = some u) (hb : b < a.block) : w'.cell? a = some u :=
  (World.cell?_of_block (g.block a.block (lt_of_cell (by rw [h]; rfl)) (fun e => by have := Option.some.inj e; omega))).trans h
theorem far_frozen {w w' : World} {b : Nat} {a : Addr} {u : Value} (g : w.grownBy w' (some b)) (h : w.cell? a = some u) (hb : b < a.block) (hf : w.frozen? a = false) : w'.frozen? a = false :=
  (World.frozen?_of_block (g.block a.block (lt_of_cell (by rw [h]; rfl)) (fun e => by have := Option.some.inj e; omega))).trans hf
theorem far_cell2 {w w' : World} {b : Nat} {o : Obj} {a : Addr} {u : Value} (g : (w.alloc o).grownBy w' (some b)) (h : w.cell? a = some u) (hb : b < a.block) : w'.cell? a = some u :=
  far_cell g ((World.cell?_alloc_lt w o a (lt_of_cell (by rw [h]; rfl))).trans h) hb
theorem far_frozen2 {w w' : World} {b : Nat} {o : Obj} {a : Addr} {u : Value} (g : (w.alloc o).grownBy w' (some b)) (h : w.cell? a = some u) (hb : b < a.block) (hf : w.frozen? a = false) : w'.frozen? a = false :=
  far_frozen g ((World.cell?_alloc_lt w o a (lt_of_cell (by rw [h]; rfl))).trans h) hb ((World.frozen?_of_block (w := w) (Below.heap_alloc w o a.block (lt_of_cell (by rw [h]; rfl)))).trans hf)
theorem grown_alloc {w w' : World} {b : Nat} (g : w.grownBy w' (some b)) (o : Obj) : w.grownBy (w'.alloc o) (some b) := grown_trans g (World.grownBy_alloc _ _ _)
theorem grown_set {w w' : World} {b : Nat} (g : w.grownBy w' (some b)) {a : Addr} (ha : w.heap.size ≤ a.block) (u : Value) : w.grownBy (w'.setCell a u) (some b) :=
  ⟨g.os, g.tape, g.output, by rw [World.size_setCell]; exact g.size, fun k hk hne => (heap_setCell_other w' a k u (by omega)).trans (g.block k hk hne)⟩
theorem far_rules {w w' : World} {b : Nat} (g : w.grownBy w' (some b)) : (∀ a : Addr, (w.cell? a).isSome = true → b < a.block → w'.cell? a = w.cell? a) ∧ (∀ a : Addr, (w.cell? a).isSome = true → b < a.block → w'.frozen? a = w.frozen? a) :=
  ⟨fun a h hb => World.cell?_of_block (g.block a.block (lt_of_cell h) (fun e => by have := Option.some.inj e; omega)), fun a h hb => World.frozen?_of_block (g.block a.block (lt_of_cell h) (fun e => by have := Option.some.inj e; omega))⟩
theorem amongL_c (b : Nat) (A : Option Addr) (n c m : Nat) (ys : List Int) (w : World) (h : Cur w b A n c m) (q k k' : Nat) (cs : Array Value) (hm : m ≤ 100000000) (hq : q = w.heap.size) (hk : k = ys.length) (hcs : cs = (ys.map (Value.int .i64)).toArray) (hl : 0 < ys.length) (hl2 : ys.length ≤ 60000) :
    Calls Try.prog 73 #[.pointer (some ⟨b, 0, none⟩), .slice (some ⟨q, 0, none⟩) k k'] (w.alloc (.cells cs 3)) fun e w' => ∃ z : Int, z ∈ ys ∧ e = .returned (.int .i64 z) ∧ Cur w' b A n c (m + 2) ∧ w.grownBy w' (some b) := by
  have hb := h.lt
  subst hq hk hcs
  refine (among_c (B := w.heap.size + 1) b A n c m _ _ ys _ (h.alloc _) hm (RdI.lits w ys) hl hl2 (fun g off e => by simp at e; omega) (by simp)).mono ?_
  rintro e w' ⟨k, hk, rfl, C, g⟩
  exact ⟨ys.getD k 0, by simp [List.getD_eq_getElem?_getD, hk], rfl, C, grown_trans (World.grownBy_alloc _ _ _) g⟩
theorem grown_below {w w' : World} {row : Option Nat} (h : Below w.heap.size w w') : w.grownBy w' row := ⟨h.os, h.tape, h.output, h.size, fun i hi _ => h.block i hi⟩
theorem Cur.below {w w' : World} {b : Nat} {A : Option Addr} {n c m : Nat} (h : Cur w b A n c m) (hb : Below w.heap.size w w') : Cur w' b A n c m := by
  have hl := h.lt
  refine ⟨Nat.lt_of_lt_of_le hl hb.size, (hb.cell (p := ⟨b, 0, none⟩) hl).trans h.code, ?_, ?_, (hb.frozen (p := ⟨b, 1, none⟩) hl).trans h.f1, (hb.frozen (p := ⟨b, 2, none⟩) hl).trans h.f2, h.rd.keep fun a ha => hb.cell (p := a) (Nat.lt_trans ha hl)⟩
  · obtain ⟨k, hk, hc⟩ := h.pos
    exact ⟨k, hk, (hb.cell (p := ⟨b, 1, none⟩) hl).trans hc⟩
  · obtain ⟨s, hs⟩ := h.seed
    exact ⟨s, (hb.cell (p := ⟨b, 2, none⟩) hl).trans hs⟩
/-- Three numbers in a box that may be written. -/
def Box3 (w : World) (p : Nat) (V N D : Int) : Prop := (w.cell? ⟨p, 0, none⟩ = some (.int .i64 V) ∧ w.cell? ⟨p, 1, none⟩ = some (.int .i64 N) ∧ w.cell? ⟨p, 2, none⟩ = some (.int .i64 D)) ∧ w.frozen? ⟨p, 0, none⟩ = false ∧ w.frozen? ⟨p, 1, none⟩ = false ∧ w.frozen? ⟨p, 2, none⟩ = false
theorem Box3.far {w w' : World} {b p : Nat} {V N D : Int} (h : Box3 w p V N D) (g : w.grownBy w' (some b)) (hb : b < p) : Box3 w' p V N D := by
  obtain ⟨⟨a0, a1, a2⟩, f0, f1, f2⟩ := h
  exact ⟨⟨far_cell g a0 hb, far_cell g a1 hb, far_cell g a2 hb⟩, far_frozen g a0 hb f0, far_frozen g a1 hb f1, far_frozen g a2 hb f2⟩
theorem Box3.alloc {w : World} {p : Nat} {V N D : Int} (h : Box3 w p V N D) (o : Obj) : Box3 (w.alloc o) p V N D := by
  obtain ⟨⟨a0, a1, a2⟩, f0, f1, f2⟩ := h
  have hl : p < w.heap.size := lt_of_cell (a := ⟨p, 0, none⟩) (by rw [a0]; rfl)
  have e := Below.heap_alloc w o p hl
  exact ⟨⟨(World.cell?_alloc_lt w o ⟨p, 0, none⟩ hl).trans a0, (World.cell?_alloc_lt w o ⟨p, 1, none⟩ hl).trans a1, (World.cell?_alloc_lt w o ⟨p, 2, none⟩ hl).trans a2⟩, (World.frozen?_of_block (w := w) e).trans f0, (World.frozen?_of_block (w := w) e).trans f1, (World.frozen?_of_block (w := w) e).trans f2⟩
theorem Box3.below {w w' : World} {p : Nat} {V N D : Int} (h : Box3 w p V N D) (hb : Below w.heap.size w w') : Box3 w' p V N D := by
  obtain ⟨⟨a0, a1, a2⟩, f0, f1, f2⟩ := h
  have hl : p < w.heap.size := lt_of_cell (a := ⟨p, 0, none⟩) (by rw [a0]; rfl)
  exact ⟨⟨(hb.cell (p := ⟨p, 0, none⟩) hl).trans a0, (hb.cell (p := ⟨p, 1, none⟩) hl).trans a1, (hb.cell (p := ⟨p, 2, none⟩) hl).trans a2⟩, (hb.frozen (p := ⟨p, 0, none⟩) hl).trans f0, (hb.frozen (p := ⟨p, 1, none⟩) hl).trans f1, (hb.frozen (p := ⟨p, 2, none⟩) hl).trans f2⟩
theorem Box3.setOther {w : World} {p : Nat} {V N D : Int} (h : Box3 w p V N D) {a : Addr} (ha : a.block ≠ p) (u : Value) : Box3 (w.setCell a u) p V N D := by
  obtain ⟨⟨a0, a1, a2⟩, f0, f1, f2⟩ := h
  have e := heap_setCell_other w a p u ha.symm
  exact ⟨⟨(World.cell?_of_block e).trans a0, (World.cell?_of_block e).trans a1, (World.cell?_of_block e).trans a2⟩, (World.frozen?_of_block e).trans f0, (World.frozen?_of_block e).trans f1, (World.frozen?_of_block e).trans f2⟩
theorem Box3.set0 {w : World} {p : Nat} {V N D : Int} (h : Box3 w p V N D) (u : Int) : Box3 (w.setCell ⟨p, 0, none⟩ (.int .i64 u)) p u N D := by
  obtain ⟨⟨a0, a1, a2⟩, f0, f1, f2⟩ := h
  exact ⟨⟨by simp [*, go_sem], by simp [*, go_sem], by simp [*, go_sem]⟩, by simp [*, go_sem], by simp [*, go_sem], by simp [*, go_sem]⟩
theorem Box3.set1 {w : World} {p : Nat} {V N D : Int} (h : Box3 w p V N D) (u : Int) : Box3 (w.setCell ⟨p, 1, none⟩ (.int .i64 u)) p V u D := by
  obtain ⟨⟨a0, a1, a2⟩, f0, f1, f2⟩ := h
  exact ⟨⟨by simp [*, go_sem], by simp [*, go_sem], by simp [*, go_sem]⟩, by simp [*, go_sem], by simp [*, go_sem], by simp [*, go_sem]⟩
theorem Box3.set2 {w : World} {p : Nat} {V N D : Int} (h : Box3 w p V N D) (u : Int) : Box3 (w.setCell ⟨p, 2, none⟩ (.int .i64 u)) p V N u := by
  obtain ⟨⟨a0, a1, a2⟩, f0, f1, f2⟩ := h
  exact ⟨⟨by simp [*, go_sem], by simp [*, go_sem], by simp [*, go_sem]⟩, by simp [*, go_sem], by simp [*, go_sem], by simp [*, go_sem]⟩
theorem Box3.new (w : World) (V N D : Int) (t : TypeId) : Box3 (w.alloc (.cells #[.int .i64 V, .int .i64 N, .int .i64 D] t)) w.heap.size V N D :=
  ⟨⟨by simp [go_sem], by simp [go_sem], by simp [go_sem]⟩, by simp [go_sem], by simp [go_sem], by simp [go_sem]⟩
theorem Box3.lt {w : World} {p : Nat} {V N D : Int} (h : Box3 w p V N D) : p < w.heap.size := lt_of_cell (a := ⟨p, 0, none⟩) (by rw [h.1.1]; rfl)
end Go.Proofs.Ytbfaejacfhblkaa
