/- The great laws on parcels: their own helpers, and contracts in the form that they need. -/
import Derived.Test.YtjpijcmfnckmaaaDDraw
import Derived.Test.YtjpijcmfnckmaaaPGPlain
import Derived.Test.YtjpijcmfnckmaaaPPushS
import Derived.Test.YtjpijcmfnckmaaaPRev
import Derived.Test.YtjpijcmfnckmaaaPDec
import Derived.Test.YtjpijcmfnckmaaaPLeast
import Derived.Test.YtjpijcmfnckmaaaPVol
namespace Go.Proofs.Ytjpijcmfnckmaaa
open Go.RowKit

theorem vBigP_c (A : Option Addr) (n c : Nat) (w : World) : Calls Try.prog 14 #[.slice A n c] w fun e w' => e = .returned (.bool (decide ((65536 : Int) < n))) ∧ w = w' := by
  go_enter Try.func14, Try.ntmps14
  go_wp2
  go_ret
  exact ⟨by simp, rfl⟩
set_option maxHeartbeats 1000000 in
/-- Two slices that read as one list. -/
theorem vParcels_c {B B' : Nat} (A A' : Option Addr) (c c' : Nat) (xs : List (Int × Int)) (w : World) (h : RdP w B A xs) (h' : RdP w B' A' xs) (hm : xs.length ≤ 9223372036854775807) :
    Calls Try.prog 18 #[.slice A xs.length c, .slice A' xs.length c'] w fun e w' => e = .returned (.bool true) ∧ ∃ n, w' = w.drewN n := by
  go_enter Try.func18, Try.ntmps18
  go_wp2
  go_loopw [5] (fun i wr => ∃ k : Nat, k ≤ xs.length ∧ i = .int .i64 k ∧ ∃ n, wr = w.drewN n) (fun i _ => xs.length - (intOf i).toNat)
  case atStart => exact ⟨0, by omega, rfl, 0, rfl⟩
  case round =>
    obtain ⟨k, hk, rfl, n, rfl⟩ := hrel
    by_cases hlt : k < xs.length
    · obtain ⟨b, off, x, y, rfl, hx, hb, hc0, hc1⟩ := h.at_ hlt
      obtain ⟨b', off', x', y', rfl, hx', hb', hc0', hc1'⟩ := h'.at_ hlt
      have e := hx'.trans hx.symm
      simp only [Prod.mk.injEq] at e
      obtain ⟨rfl, rfl⟩ := e
      have hl1 : (k : Int) < (xs.length : Int) := by omega
      clear hx hx' h h'
      go_wp2
      go_quiet (fail)
      go_wp2
      go_roundw
      case rel => exact ⟨k + 1, by omega, by go_num, _, rfl⟩
      case measure => simp [intOf]; omega
    · clear h h'
      go_wp2
      go_ret
      exact ⟨rfl, _, rfl⟩
/-- A list that can be read. -/
structure RL (W : World) (B : Option Addr) (zs : List (Int × Int)) : Prop where
  rd : RdP W W.heap.size B zs
  len : zs.length ≤ 1000000
theorem RL.below {W W' : World} {B : Option Addr} {zs : List (Int × Int)} (h : RL W B zs) (hb : Below W.heap.size W W') : RL W' B zs := ⟨(h.rd.below hb).more hb.size, h.len⟩
theorem RL.own {w' : World} {base : Nat} {B : Option Addr} {d : Nat} {zs : List (Int × Int)} (h : OwnP w' base (.slice B zs.length d) zs) (hl : zs.length ≤ 1000000) : RL w' B zs := ⟨h.rd, hl⟩
/-- A parcel's box. -/
structure PX (W : World) (p : Nat) (V G : Int) : Prop where
  c0 : W.cell? ⟨p, 0, none⟩ = some (.int .i64 V)
  c1 : W.cell? ⟨p, 1, none⟩ = some (.int .i64 G)
theorem PX.below {W W' : World} {p : Nat} {V G : Int} (h : PX W p V G) (hb : Below W.heap.size W W') : PX W' p V G :=
  ⟨(hb.cell (lt_of_cell (by rw [h.c0]; rfl))).trans h.c0, (hb.cell (lt_of_cell (by rw [h.c1]; rfl))).trans h.c1⟩
section
variable {W : World} {A : Option Addr} {xs : List (Int × Int)}
theorem RL.push (h : RL W A xs) (c : Nat) (V G : Int) (s l : List (Int × Int)) (ok : Bool) (e : pushR xs V G = ((s, l), ok)) (hl : xs.length ≤ 16) : Calls Try.prog 16 #[.slice A xs.length c, .agg #[.int .i64 V, .int .i64 G]] W fun e w' => ∃ A3 c3 A4 c4, e = .returned (.tuple #[.slice A3 s.length c3, .slice A4 l.length c4, .bool ok]) ∧ RL w' A3 s ∧ RL w' A4 l ∧ Below W.heap.size W w' := by
  have := implPush_c A c xs V G W h.rd (by omega)
  have ll := pushR_len2 xs V G hl
  rw [e] at this ll
  dsimp only at this ll
  exact this.mono fun e w' ⟨A3, c3, A4, c4, he, o, hb⟩ => ⟨A3, c3, A4, c4, he, RL.own o.1 (by omega), RL.own o.2.1 (by omega), hb⟩
theorem RL.spush (h : RL W A xs) (c : Nat) (V G : Int) (s l : List (Int × Int)) (ok : Bool) (e : pushR xs V G = ((s, l), ok)) (hl : xs.length ≤ 16) : Calls Try.prog 17 #[.slice A xs.length c, .agg #[.int .i64 V, .int .i64 G]] W fun e w' => ∃ A3 c3 A4 c4, e = .returned (.tuple #[.slice A3 s.length c3, .slice A4 l.length c4, .bool ok]) ∧ RL w' A3 s ∧ RL w' A4 l ∧ Below W.heap.size W w' := by
  have := specPush_c A c xs V G W h.rd (by omega)
  have ll := pushR_len2 xs V G hl
  rw [e] at this ll
  dsimp only at this ll
  exact this.mono fun e w' ⟨A3, c3, A4, c4, he, o, hb⟩ => ⟨A3, c3, A4, c4, he, RL.own o.1 (by omega), RL.own o.2.1 (by omega), hb⟩
theorem RL.pipe (h : RL W A xs) (c : Nat) (t : Bool) (e : goodPs xs = t) : Calls Try.prog 19 #[.slice A xs.length c] W fun e w' => e = .returned (.bool t) ∧ Below W.heap.size W w' := by
  have := implPipe_c A c xs W h.rd (Nat.le_refl _) (by have := h.len; omega)
  rw [e] at this; exact this
theorem RL.spipe (h : RL W A xs) (c : Nat) (t : Bool) (e : goodPs xs = t) : Calls Try.prog 20 #[.slice A xs.length c] W fun e w' => e = .returned (.bool t) ∧ Below W.heap.size W w' := by
  have := specPipe_c A c xs W h.rd (Nat.le_refl _) (by have := h.len; omega)
  rw [e] at this; exact this
theorem RL.vol (h : RL W A xs) (c : Nat) (v m : Int) (t : Bool) (e : volR xs = (v, m, t)) : Calls Try.prog 21 #[.slice A xs.length c] W fun e w' => e = .returned (.tuple #[.int .i64 v, .int .i64 m, .bool t]) ∧ Below W.heap.size W w' := by
  have := implVol_c A c xs W h.rd (Nat.le_refl _) (by have := h.len; omega)
  rw [e] at this; exact this
theorem RL.grade (h : RL W A xs) (c : Nat) (a g : Int) (t : Bool) (e : gradeR xs a = (g, t)) (ha : a ≤ 1000000) : Calls Try.prog 22 #[.slice A xs.length c, .int .i64 a] W fun e w' => e = .returned (.tuple #[.int .i64 g, .bool t]) ∧ Below W.heap.size W w' := by
  have := implGradeAt_c A c xs a W h.rd (Nat.le_refl _) (by have := h.len; omega) (by omega)
  rw [e] at this; exact this
theorem RL.sgrade (h : RL W A xs) (c : Nat) (a g : Int) (t : Bool) (e : gradeR xs a = (g, t)) (ha : a ≤ 1000000) : Calls Try.prog 24 #[.slice A xs.length c, .int .i64 a] W fun e w' => e = .returned (.tuple #[.int .i64 g, .bool t]) ∧ Below W.heap.size W w' := by
  have := specGradeAt_c A c xs a W h.rd (Nat.le_refl _) (by have := h.len; omega) (by omega)
  rw [e] at this; exact this
theorem RL.rev (h : RL W A xs) (c : Nat) (r : List (Int × Int)) (ok : Bool) (e : revR xs = (r, ok)) : Calls Try.prog 25 #[.slice A xs.length c] W (fun e w' => ∃ A3 c3, e = .returned (.tuple #[.slice A3 r.length c3, .bool ok]) ∧ RL w' A3 r ∧ Below W.heap.size W w') := by
  have := implRev_c A c xs W h.rd (by have := h.len; omega)
  have hl := h.len
  have ll : (revR xs).1.length ≤ 1000000 := by unfold revR; split <;> simp; omega
  rw [e] at this ll
  dsimp only at this ll
  exact this.mono fun e w' ⟨A3, c3, he, o, hb⟩ => ⟨A3, c3, he, RL.own o ll, hb⟩
theorem RL.srev (h : RL W A xs) (c : Nat) (r : List (Int × Int)) (ok : Bool) (e : revR xs = (r, ok)) : Calls Try.prog 26 #[.slice A xs.length c] W (fun e w' => ∃ A3 c3, e = .returned (.tuple #[.slice A3 r.length c3, .bool ok]) ∧ RL w' A3 r ∧ Below W.heap.size W w') := by
  have := specRev_c A c xs W h.rd (by have := h.len; omega)
  have hl := h.len
  have ll : (revR xs).1.length ≤ 1000000 := by unfold revR; split <;> simp; omega
  rw [e] at this ll
  dsimp only at this ll
  exact this.mono fun e w' ⟨A3, c3, he, o, hb⟩ => ⟨A3, c3, he, RL.own o ll, hb⟩
theorem RL.dec (h : RL W A xs) (c : Nat) (n d : Int) (r : List (Int × Int)) (ok : Bool) (e : decR xs n d = (r, ok)) (hl : xs.length ≤ 16) : Calls Try.prog 40 #[.slice A xs.length c, .int .i64 n, .int .i64 d] W (fun e w' => ∃ A3 c3, e = .returned (.tuple #[.slice A3 r.length c3, .bool ok]) ∧ RL w' A3 r ∧ Below W.heap.size W w') := by
  have := implDec_c A c xs n d W h.rd (by omega)
  have ll := decR_len2 xs n d hl
  rw [e] at this ll
  dsimp only at this ll
  exact this.mono fun e w' ⟨A3, c3, he, o, hb⟩ => ⟨A3, c3, he, RL.own o (by omega), hb⟩
theorem RL.sdec (h : RL W A xs) (c : Nat) (n d : Int) (r : List (Int × Int)) (ok : Bool) (e : decR xs n d = (r, ok)) (hl : xs.length ≤ 16) : Calls Try.prog 39 #[.slice A xs.length c, .int .i64 n, .int .i64 d] W (fun e w' => ∃ A3 c3, e = .returned (.tuple #[.slice A3 r.length c3, .bool ok]) ∧ RL w' A3 r ∧ Below W.heap.size W w') := by
  have := specDec_c A c xs n d W h.rd (by omega)
  have ll := decR_len2 xs n d hl
  rw [e] at this ll
  dsimp only at this ll
  exact this.mono fun e w' ⟨A3, c3, he, o, hb⟩ => ⟨A3, c3, he, RL.own o (by omega), hb⟩
theorem RL.least (h : RL W A xs) (c : Nat) (b a : Int) (t : Bool) (e : leastR xs = (b, a, t)) : Calls Try.prog 34 #[.slice A xs.length c] W fun e w' => e = .returned (.tuple #[.int .i64 b, .int .i64 a, .bool t]) ∧ Below W.heap.size W w' := by
  have := implLeast_c A c xs W h.rd (Nat.le_refl _) (by have := h.len; omega)
  rw [e] at this; exact this
theorem RL.sleast (h : RL W A xs) (c : Nat) (b a : Int) (t : Bool) (e : leastR xs = (b, a, t)) : Calls Try.prog 33 #[.slice A xs.length c] W fun e w' => e = .returned (.tuple #[.int .i64 b, .int .i64 a, .bool t]) ∧ Below W.heap.size W w' := by
  have := specLeast_c A c xs W h.rd (Nat.le_refl _) (by have := h.len; omega)
  rw [e] at this; exact this
theorem RL.mean (h : RL W A xs) (c : Nat) (b a : Int) (t : Bool) (e : meanPR xs = (b, a, t)) : Calls Try.prog 36 #[.slice A xs.length c] W fun e w' => e = .returned (.tuple #[.int .i64 b, .int .i64 a, .bool t]) ∧ Below W.heap.size W w' := by
  have := implMeanG_c A c xs W h.rd (Nat.le_refl _) (by have := h.len; omega)
  rw [e] at this; exact this
theorem RL.smean (h : RL W A xs) (c : Nat) (b a : Int) (t : Bool) (e : meanPR xs = (b, a, t)) : Calls Try.prog 35 #[.slice A xs.length c] W fun e w' => e = .returned (.tuple #[.int .i64 b, .int .i64 a, .bool t]) ∧ Below W.heap.size W w' := by
  have := specMeanG_c A c xs W h.rd (Nat.le_refl _) (by have := h.len; omega)
  rw [e] at this; exact this
theorem RL.flush (h : RL W A xs) (c : Nat) (l f : Int) (t : Bool) (e : flushR xs l = (f, t)) : Calls Try.prog 32 #[.slice A xs.length c, .int .i64 l] W fun e w' => e = .returned (.tuple #[.int .i64 f, .bool t]) ∧ Below W.heap.size W w' := by
  have := implFlush_c A c xs l W h.rd (Nat.le_refl _) (by have := h.len; omega)
  rw [e] at this; exact this
theorem RL.sflush (h : RL W A xs) (c : Nat) (l f : Int) (t : Bool) (e : flushR xs l = (f, t)) : Calls Try.prog 31 #[.slice A xs.length c, .int .i64 l] W fun e w' => e = .returned (.tuple #[.int .i64 f, .bool t]) ∧ Below W.heap.size W w' := by
  have := specFlush_c A c xs l W h.rd (Nat.le_refl _) (by have := h.len; omega)
  rw [e] at this; exact this
end
end Go.Proofs.Ytjpijcmfnckmaaa
