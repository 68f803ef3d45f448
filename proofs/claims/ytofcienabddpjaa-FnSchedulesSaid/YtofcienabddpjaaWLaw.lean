/- The great law on schedules, walked. -/
import Derived.Test.YtofcienabddpjaaWPlain
import Derived.Test.YtofcienabddpjaaWDraw
import Derived.Test.YtofcienabddpjaaQCheap
import Derived.Test.YtofcienabddpjaaEImpl
import Derived.Test.YtofcienabddpjaaInts
import Derived.Test.YtofcienabddpjaaAfter
namespace Go.Proofs.Ytofcienabddpjaa
open Go.RowKit

theorem vBigS_c (A : Option Addr) (n c : Nat) (w : World) : Calls Try.prog 13 #[.slice A n c] w fun e w' => e = .returned (.bool (decide ((65536 : Int) < n))) ∧ w = w' := by
  go_enter Try.func13, Try.ntmps13
  go_wp2
  go_ret
  exact ⟨by simp, rfl⟩
/-- The facts in one form. -/
theorem sched_facts2 (L E M P : Int) (xs ys zs : List Int) : ∃ (cost : Int) (ok : Bool) (best : List Int) (m : Int) (found : Bool) (lazy eg : List Int) (fine : Bool) (q r : Int),
    scost L E M P xs ys zs = (cost, ok) ∧ goodS L E M P xs ys zs = ok ∧ cheapT E M P L xs ys = (best, m, found) ∧ lazyT E M P L xs ys = (lazy, found) ∧ eagerT L E M P xs ys = (eg, fine) ∧ best.length ≤ 12 ∧ lazy.length ≤ 12 ∧ eg.length ≤ 12 ∧
    (ok = true → found = true ∧ m ≤ cost) ∧ (fine = true → found = true ∧ scost L E M P xs ys eg = (r, true) ∧ m ≤ r) ∧ (found = true → scost L E M P xs ys best = (m, true) ∧ scost L E M P xs ys lazy = (q, true) ∧ m ≤ q) := by
  rcases sched_facts L E M P xs ys with ⟨h1, h2, h3, h4⟩ | ⟨best, lazy, m, h1, h2, h3, ⟨q, h4, h5⟩, ⟨l1, l2⟩, h6, h7⟩
  · exact ⟨0, false, [], 0, false, [], [], false, 0, 0, by unfold scost; rw [if_neg (by rw [h4 zs]; simp)], h4 zs, h1, h2, h3, by simp, by simp, by simp, by simp, by simp, by simp⟩
  · obtain ⟨cost, ok, hs, ho, hm⟩ : ∃ cost ok, scost L E M P xs ys zs = (cost, ok) ∧ goodS L E M P xs ys zs = ok ∧ (ok = true → m ≤ cost) := by
      cases e : goodS L E M P xs ys zs
      · exact ⟨0, false, by unfold scost; rw [if_neg (by rw [e]; simp)], rfl, by simp⟩
      · obtain ⟨q, a, b⟩ := h6 zs e
        exact ⟨q, true, a, rfl, fun _ => b⟩
    rcases h7 with h7 | ⟨eg, r, a, l3, b, c⟩
    · exact ⟨cost, ok, best, m, true, lazy, [], false, q, 0, hs, ho, h1, h2, h7, l1, l2, by simp, fun h => ⟨rfl, hm h⟩, by simp, fun _ => ⟨h3, h4, h5⟩⟩
    · exact ⟨cost, ok, best, m, true, lazy, eg, true, q, r, hs, ho, h1, h2, a, l1, l2, l3, fun h => ⟨rfl, hm h⟩, fun _ => ⟨rfl, b, c⟩, fun _ => ⟨h3, h4, h5⟩⟩
/-- A pumping in the law's box. -/
structure SB (W : World) (p : Nat) (L E M P : Int) (A1 A2 : Option Addr) (c1 c2 : Nat) (xs ys : List Int) : Prop where
  pb : PB W p L E M P (.slice A1 xs.length c1) (.slice A2 ys.length c2)
  r1 : RdI W W.heap.size A1 xs
  r2 : RdI W W.heap.size A2 ys
  n1 : A1 = none → c1 = 0
  n2 : A2 = none → c2 = 0
  l1 : xs.length ≤ 14
  l2 : ys.length ≤ 14
theorem SB.below {W W' : World} {p : Nat} {L E M P : Int} {A1 A2 : Option Addr} {c1 c2 : Nat} {xs ys : List Int} (h : SB W p L E M P A1 A2 c1 c2 xs ys) (hb : Below W.heap.size W W') : SB W' p L E M P A1 A2 c1 c2 xs ys :=
  ⟨h.pb.below hb, (h.r1.below hb).more hb.size, (h.r2.below hb).more hb.size, h.n1, h.n2, h.l1, h.l2⟩
theorem SB.new {w w1 : World} {L E M P : Int} {A1 A2 : Option Addr} {c1 c2 : Nat} {xs ys : List Int} (O1 : OwnI w1 w.heap.size (.slice A1 xs.length c1) xs) (O2 : OwnI w1 w.heap.size (.slice A2 ys.length c2) ys) (hx : xs.length ≤ 14) (hy : ys.length ≤ 14) :
    SB (w1.alloc (.cells #[.int .i64 L, .int .i64 E, .int .i64 M, .int .i64 P, .slice A1 xs.length c1, .slice A2 ys.length c2] 28)) w1.heap.size L E M P A1 A2 c1 c2 xs ys :=
  ⟨PB.new _ _ _ _ _ _ _, (O1.rd.alloc (Nat.le_refl _) _).more (by simp), (O2.rd.alloc (Nat.le_refl _) _).more (by simp), own_nilcap O1, own_nilcap O2, hx, hy⟩
/-- A list that can be read. -/
structure RL (W : World) (B : Option Addr) (zs : List Int) : Prop where
  rd : RdI W W.heap.size B zs
theorem RL.below {W W' : World} {B : Option Addr} {zs : List Int} (h : RL W B zs) (hb : Below W.heap.size W W') : RL W' B zs := ⟨(h.rd.below hb).more hb.size⟩
theorem RL.own {w w' : World} {B : Option Addr} {d : Nat} {zs : List Int} (h : OwnI w' w.heap.size (.slice B zs.length d) zs) : RL w' B zs := ⟨h.rd⟩
section
variable {W : World} {p : Nat} {L E M P : Int} {A1 A2 : Option Addr} {c1 c2 : Nat} {xs ys : List Int}
theorem SB.iCost (h : SB W p L E M P A1 A2 c1 c2 xs ys) {B : Option Addr} {zs : List Int} (rz : RL W B zs) (d : Nat) (cost : Int) (ok : Bool) (e : scost L E M P xs ys zs = (cost, ok)) : Calls Try.prog 32 #[.agg #[.int .i64 L, .int .i64 E, .int .i64 M, .int .i64 P, .slice A1 xs.length c1, .slice A2 ys.length c2], .slice B zs.length d] W fun e w' => e = .returned (.tuple #[.int .i64 cost, .bool ok]) ∧ Below W.heap.size W w' := by
  have := implScost_c L E M P A1 A2 B c1 c2 d xs ys zs W h.r1 h.r2 rz.rd (Nat.le_refl _) (Nat.le_refl _) (Nat.le_refl _) h.n1 h.n2 (by have := h.l1; omega) (by have := h.l2; omega)
  rw [e] at this
  exact this
theorem SB.sCost (h : SB W p L E M P A1 A2 c1 c2 xs ys) {B : Option Addr} {zs : List Int} (rz : RL W B zs) (d : Nat) (cost : Int) (ok : Bool) (e : scost L E M P xs ys zs = (cost, ok)) : Calls Try.prog 31 #[.agg #[.int .i64 L, .int .i64 E, .int .i64 M, .int .i64 P, .slice A1 xs.length c1, .slice A2 ys.length c2], .slice B zs.length d] W fun e w' => e = .returned (.tuple #[.int .i64 cost, .bool ok]) ∧ Below W.heap.size W w' := by
  have := specScost_c L E M P A1 A2 B c1 c2 d xs ys zs W h.r1 h.r2 rz.rd (Nat.le_refl _) (Nat.le_refl _) (Nat.le_refl _) (by have := h.l1; omega) (by have := h.l2; omega)
  rw [e] at this
  exact this
theorem SB.iGood (h : SB W p L E M P A1 A2 c1 c2 xs ys) {B : Option Addr} {zs : List Int} (rz : RL W B zs) (d : Nat) (ok : Bool) (e : goodS L E M P xs ys zs = ok) : Calls Try.prog 29 #[.agg #[.int .i64 L, .int .i64 E, .int .i64 M, .int .i64 P, .slice A1 xs.length c1, .slice A2 ys.length c2], .slice B zs.length d] W fun e w' => e = .returned (.bool ok) ∧ Below W.heap.size W w' := by
  have := implSched_c L E M P A1 A2 B c1 c2 d xs ys zs W h.r1 h.r2 rz.rd (Nat.le_refl _) (Nat.le_refl _) (Nat.le_refl _) h.n1 h.n2 (by have := h.l1; omega) (by have := h.l2; omega)
  rw [e] at this
  exact this
theorem SB.iVal (h : SB W p L E M P A1 A2 c1 c2 xs ys) (t : Bool) (e : goodPm L E M P xs ys = t) : Calls Try.prog 17 #[.agg #[.int .i64 L, .int .i64 E, .int .i64 M, .int .i64 P, .slice A1 xs.length c1, .slice A2 ys.length c2]] W fun e w' => e = .returned (.bool t) ∧ Below W.heap.size W w' := by
  have := implPump_c L E M P A1 A2 c1 c2 xs ys W h.r1 h.r2 (Nat.le_refl _) (Nat.le_refl _) h.n1 h.n2 (by have := h.l1; omega) (by have := h.l2; omega)
  rw [e] at this
  exact this
theorem SB.sVal (h : SB W p L E M P A1 A2 c1 c2 xs ys) (t : Bool) (e : goodPm L E M P xs ys = t) : Calls Try.prog 24 #[.agg #[.int .i64 L, .int .i64 E, .int .i64 M, .int .i64 P, .slice A1 xs.length c1, .slice A2 ys.length c2]] W fun e w' => e = .returned (.bool t) ∧ Below W.heap.size W w' := by
  have := specPump_c L E M P A1 A2 c1 c2 xs ys W h.r1 h.r2 (Nat.le_refl _) (Nat.le_refl _) (by have := h.l1; omega) (by have := h.l2; omega)
  rw [e] at this
  exact this
theorem SB.cheap (h : SB W p L E M P A1 A2 c1 c2 xs ys) (zs : List Int) (m : Int) (t : Bool) (e : cheapT E M P L xs ys = (zs, m, t)) : Calls Try.prog 19 #[.agg #[.int .i64 L, .int .i64 E, .int .i64 M, .int .i64 P, .slice A1 xs.length c1, .slice A2 ys.length c2]] W fun e w' => ∃ (A3 : Option Addr) (c3 : Nat), e = .returned (.tuple #[.slice A3 zs.length c3, .int .i64 m, .bool t]) ∧ RL w' A3 zs ∧ Below W.heap.size W w' := by
  have := implCheap_c L E M P A1 A2 c1 c2 xs ys W h.r1 h.r2 (Nat.le_refl _) (Nat.le_refl _) h.n1 h.n2 (by have := h.l1; omega) (by have := h.l2; omega)
  rw [e] at this
  exact this.mono fun e w' ⟨A3, c3, he, o, hb⟩ => ⟨A3, c3, he, RL.own o, hb⟩
theorem SB.scheap (h : SB W p L E M P A1 A2 c1 c2 xs ys) (zs : List Int) (m : Int) (t : Bool) (e : cheapT E M P L xs ys = (zs, m, t)) : Calls Try.prog 40 #[.agg #[.int .i64 L, .int .i64 E, .int .i64 M, .int .i64 P, .slice A1 xs.length c1, .slice A2 ys.length c2]] W fun e w' => ∃ (A3 : Option Addr) (c3 : Nat), e = .returned (.tuple #[.slice A3 zs.length c3, .int .i64 m, .bool t]) ∧ RL w' A3 zs ∧ Below W.heap.size W w' := by
  have := specCheap_c L E M P A1 A2 c1 c2 xs ys W h.r1 h.r2 (Nat.le_refl _) (Nat.le_refl _) (by have := h.l1; omega) (by have := h.l2; omega)
  rw [e] at this
  exact this.mono fun e w' ⟨A3, c3, he, o, hb⟩ => ⟨A3, c3, he, RL.own o, hb⟩
theorem SB.lazy (h : SB W p L E M P A1 A2 c1 c2 xs ys) (zs : List Int) (t : Bool) (e : lazyT E M P L xs ys = (zs, t)) : Calls Try.prog 39 #[.agg #[.int .i64 L, .int .i64 E, .int .i64 M, .int .i64 P, .slice A1 xs.length c1, .slice A2 ys.length c2]] W fun e w' => ∃ (A3 : Option Addr) (c3 : Nat), e = .returned (.tuple #[.slice A3 zs.length c3, .bool t]) ∧ RL w' A3 zs ∧ Below W.heap.size W w' := by
  have := implLazy_c L E M P A1 A2 c1 c2 xs ys W h.r1 h.r2 (Nat.le_refl _) (Nat.le_refl _) h.n1 h.n2 (by have := h.l1; omega) (by have := h.l2; omega)
  rw [e] at this
  exact this.mono fun e w' ⟨A3, c3, he, o, hb⟩ => ⟨A3, c3, he, RL.own o, hb⟩
theorem SB.slazy (h : SB W p L E M P A1 A2 c1 c2 xs ys) (zs : List Int) (t : Bool) (e : lazyT E M P L xs ys = (zs, t)) : Calls Try.prog 38 #[.agg #[.int .i64 L, .int .i64 E, .int .i64 M, .int .i64 P, .slice A1 xs.length c1, .slice A2 ys.length c2]] W fun e w' => ∃ (A3 : Option Addr) (c3 : Nat), e = .returned (.tuple #[.slice A3 zs.length c3, .bool t]) ∧ RL w' A3 zs ∧ Below W.heap.size W w' := by
  have := specLazy_c L E M P A1 A2 c1 c2 xs ys W h.r1 h.r2 (Nat.le_refl _) (Nat.le_refl _) (by have := h.l1; omega) (by have := h.l2; omega)
  rw [e] at this
  exact this.mono fun e w' ⟨A3, c3, he, o, hb⟩ => ⟨A3, c3, he, RL.own o, hb⟩
theorem SB.eager (h : SB W p L E M P A1 A2 c1 c2 xs ys) (zs : List Int) (t : Bool) (e : eagerT L E M P xs ys = (zs, t)) : Calls Try.prog 34 #[.agg #[.int .i64 L, .int .i64 E, .int .i64 M, .int .i64 P, .slice A1 xs.length c1, .slice A2 ys.length c2]] W fun e w' => ∃ (A3 : Option Addr) (c3 : Nat), e = .returned (.tuple #[.slice A3 zs.length c3, .bool t]) ∧ RL w' A3 zs ∧ Below W.heap.size W w' := by
  have := implEager_c L E M P A1 A2 c1 c2 xs ys W h.r1 h.r2 (Nat.le_refl _) (Nat.le_refl _) h.n1 h.n2 (by have := h.l1; omega) (by have := h.l2; omega)
  rw [e] at this
  exact this.mono fun e w' ⟨A3, c3, he, o, hb⟩ => ⟨A3, c3, he, RL.own o, hb⟩
theorem SB.seager (h : SB W p L E M P A1 A2 c1 c2 xs ys) (zs : List Int) (t : Bool) (e : eagerT L E M P xs ys = (zs, t)) : Calls Try.prog 33 #[.agg #[.int .i64 L, .int .i64 E, .int .i64 M, .int .i64 P, .slice A1 xs.length c1, .slice A2 ys.length c2]] W fun e w' => ∃ (A3 : Option Addr) (c3 : Nat), e = .returned (.tuple #[.slice A3 zs.length c3, .bool t]) ∧ RL w' A3 zs ∧ Below W.heap.size W w' := by
  have := specEager_c L E M P A1 A2 c1 c2 xs ys W h.r1 h.r2 (Nat.le_refl _) (Nat.le_refl _) (by have := h.l1; omega) (by have := h.l2; omega)
  rw [e] at this
  exact this.mono fun e w' ⟨A3, c3, he, o, hb⟩ => ⟨A3, c3, he, RL.own o, hb⟩
end
set_option maxRecDepth 100000 in
set_option maxHeartbeats 16000000 in
theorem schedules_law (A : Option Addr) (n c : Nat) (w : World) (h : RdB w w.heap.size A n) : Calls Try.prog 12 #[.slice A n c] w fun e w' => e = .returned (.bool true) ∧ Below w.heap.size w w' := by
  by_cases hn : (65536 : Int) < (n : Int)
  · have hd : decide ((65536 : Int) < n) = true := by simp; omega
    go_enter Try.func12, Try.ntmps12
    go_wp2_with (go_at_call 13; refine (vBigS_c _ _ _ _).mono ?_; rintro e w' ⟨rfl, rfl⟩)
    (go_returns; exact ⟨by first | rfl | (simp; done) | (simp; omega), by (repeat' (first | (with_reducible exact Below.refl _ _) | (with_reducible assumption) | (with_reducible refine below_drewN ?_ _) | (with_reducible refine Below.alloc ?_ ?_ _) | (with_reducible refine Below.drew ?_) | (with_reducible refine Below.setCell ?_ ?_ _) | go_size))⟩)
  have hd : decide ((65536 : Int) < n) = false := by simp; omega
  go_enter Try.func12, Try.ntmps12
  go_wp2_with fail
  refine (vBigS_c _ _ _ _).mono ?_
  rintro e w' ⟨rfl, rfl⟩
  go_wp2_with fail
  refine (drawScost_c A n c _ h).mono ?_
  rintro e w1 ⟨L, E, M, P, A1, A2, B, c1, c2, d, xs, ys, zs, rfl, O1, O2, O3, hx, hy, hz, hb1⟩
  go_upto_region 4 with (fail)
  have X1 := SB.new (L := L) (E := E) (M := M) (P := P) O1 O2 hx hy
  have Z1 := (RL.own O3).below (below_alloc' (Nat.le_refl _) (.cells #[.int .i64 L, .int .i64 E, .int .i64 M, .int .i64 P, .slice A1 xs.length c1, .slice A2 ys.length c2] 28))
  obtain ⟨w2, hW⟩ : ∃ W, W = w1.alloc (.cells #[.int .i64 L, .int .i64 E, .int .i64 M, .int .i64 P, .slice A1 xs.length c1, .slice A2 ys.length c2] 28) := ⟨_, rfl⟩
  rw [← hW] at X1 Z1 ⊢
  have B1 : Below w.heap.size w w2 := by rw [hW]; exact hb1.alloc hb1.size _
  clear O1 O2 O3 hb1 hW h hx hy
  generalize w1.heap.size = p at *
  obtain ⟨cost, ok, best, m, found, lazy, eg, fine, q, r, F⟩ := sched_facts2 L E M P xs ys zs
  obtain ⟨f1, f2, f3, f4, f5, f6, f7, f8, f9⟩ := F
  have HF := Lib.hid (And.intro f1 (And.intro f2 (And.intro f3 (And.intro f4 (And.intro f5 f9)))))
  have HL := Lib.hid (And.intro f6 (And.intro f7 f8))
  clear f1 f2 f3 f4 f5 f6 f7 f8 f9
  obtain ⟨p0, p1, p2, p3, p4, p5⟩ := id X1.pb
  go_wp2_with fail
  refine (X1.iCost Z1 d cost ok HF.out.1).mono ?_
  rintro e w3 ⟨rfl, hb⟩
  clear p0 p1 p2 p3 p4 p5
  have X2 := X1.below hb
  have Z2 := Z1.below hb
  have B2 := B1.trans (hb.mono B1.size)
  clear X1 Z1 B1 hb
  obtain ⟨p0, p1, p2, p3, p4, p5⟩ := id X2.pb
  go_wp2_with fail
  refine (X2.sCost Z2 d cost ok HF.out.1).mono ?_
  rintro e w4 ⟨rfl, hb⟩
  clear p0 p1 p2 p3 p4 p5
  have X1 := X2.below hb
  have Z1 := Z2.below hb
  have B1 := B2.trans (hb.mono B2.size)
  clear X2 Z2 B2 hb
  obtain ⟨p0, p1, p2, p3, p4, p5⟩ := id X1.pb
  have G1 := Lib.hid (fun (s : After w4) => (X1.below s.h).iGood (Z1.below s.h) d ok HF.out.2.1)
  have G2 := Lib.hid (fun (s : After w4) => (X1.below s.h).iVal (goodPm L E M P xs ys) rfl)
  have G3 := Lib.hid (fun (s : After w4) => (X1.below s.h).sVal (goodPm L E M P xs ys) rfl)
  generalize goodPm L E M P xs ys = gp at *
  go_upto_region 6 with (fail)
  go_cut [69] (fun s wx => s = .bool false ∧ Below w4.heap.size w4 wx)
  case first => as_aux_lemma =>
    cases ok
    · cases gp
      · (refine wp_region_after (by kernel_rfl) (by kernel_rfl) (fun hAf => ?_); (repeat (go_big_quiet_step (first | (go_at_call 29; exact callsAfter (G1.out _)) | (go_at_call 17; exact callsAfter (G2.out _)) | (go_at_call 24; exact callsAfter (G3.out _))))); refine wpQuiet_nil ?_; intro w5 hw'; have hb5 := after_out hw'; clear hw' hAf)
        go_wp2_with fail
        go_meet
        exact ⟨rfl, hb5⟩
      · (refine wp_region_after (by kernel_rfl) (by kernel_rfl) (fun hAf => ?_); (repeat (go_big_quiet_step (first | (go_at_call 29; exact callsAfter (G1.out _)) | (go_at_call 17; exact callsAfter (G2.out _)) | (go_at_call 24; exact callsAfter (G3.out _))))); refine wpQuiet_nil ?_; intro w5 hw'; have hb5 := after_out hw'; clear hw' hAf)
        go_wp2_with fail
        go_meet
        exact ⟨rfl, hb5⟩
    · cases gp
      · (refine wp_region_after (by kernel_rfl) (by kernel_rfl) (fun hAf => ?_); (repeat (go_big_quiet_step (first | (go_at_call 29; exact callsAfter (G1.out _)) | (go_at_call 17; exact callsAfter (G2.out _)) | (go_at_call 24; exact callsAfter (G3.out _))))); refine wpQuiet_nil ?_; intro w5 hw'; have hb5 := after_out hw'; clear hw' hAf)
        go_wp2_with fail
        go_meet
        exact ⟨rfl, hb5⟩
      · (refine wp_region_after (by kernel_rfl) (by kernel_rfl) (fun hAf => ?_); (repeat (go_big_quiet_step (first | (go_at_call 29; exact callsAfter (G1.out _)) | (go_at_call 17; exact callsAfter (G2.out _)) | (go_at_call 24; exact callsAfter (G3.out _))))); refine wpQuiet_nil ?_; intro w5 hw'; have hb5 := after_out hw'; clear hw' hAf)
        go_wp2_with fail
        go_meet
        exact ⟨rfl, hb5⟩
  case rest => as_aux_lemma =>
    clear G1 G2 G3 p0 p1 p2 p3 p4 p5
    obtain ⟨rfl, hb⟩ := hcut
    have X2 := X1.below hb
    have B2 := B1.trans (hb.mono B1.size)
    clear X1 Z1 B1 hb
    obtain ⟨l1, l2, l3⟩ := HL.out
    obtain ⟨p0, p1, p2, p3, p4, p5⟩ := id X2.pb
    go_wp2_with fail
    refine (X2.cheap best m found HF.out.2.2.1).mono ?_
    rintro e w21 ⟨A3, c3, rfl, R3, hb⟩
    clear p0 p1 p2 p3 p4 p5
    have X1 := X2.below hb
    have B1 := B2.trans (hb.mono B2.size)
    clear X2 B2 hb
    obtain ⟨p0, p1, p2, p3, p4, p5⟩ := id X1.pb
    go_wp2_with fail
    refine (X1.scheap best m found HF.out.2.2.1).mono ?_
    rintro e w22 ⟨A4, c4, rfl, R4, hb⟩
    clear p0 p1 p2 p3 p4 p5
    have X2 := X1.below hb
    have B2 := B1.trans (hb.mono B1.size)
    replace R3 := R3.below hb
    clear X1 B1 hb
    go_upto_region 10 with (fail)
    go_cut [107] (fun s wx => s = .bool false ∧ ∃ k, wx = w22.drewN k)
    case first => as_aux_lemma =>
      cases ok
      · cases found
        · go_wp2_with (go_at_call 42; refine (vInts_c _ _ _ _ _ _ R3.rd R4.rd (by omega)).mono ?_; rintro e w' ⟨rfl, nd, rfl⟩)
          go_meet
          exact ⟨rfl, _, rfl⟩
        · go_wp2_with (go_at_call 42; refine (vInts_c _ _ _ _ _ _ R3.rd R4.rd (by omega)).mono ?_; rintro e w' ⟨rfl, nd, rfl⟩)
          go_meet
          exact ⟨rfl, _, rfl⟩
      · obtain ⟨rfl, hm⟩ := HF.out.2.2.2.2.2.1 rfl
        have dm : decide (cost < m) = false := by simp; omega
        go_wp2_with (go_at_call 42; refine (vInts_c _ _ _ _ _ _ R3.rd R4.rd (by omega)).mono ?_; rintro e w' ⟨rfl, nd, rfl⟩)
        go_meet
        exact ⟨rfl, _, rfl⟩
    case rest => as_aux_lemma =>
      obtain ⟨rfl, kd, rfl⟩ := hcut
      have hb := below_drewN (Below.refl w22.heap.size w22) kd
      have X1 := X2.below hb
      have B1 := B2.trans (hb.mono B2.size)
      replace R3 := R3.below hb
      clear X2 B2 hb R4
      generalize w22.drewN kd = w22d at *
      obtain ⟨p0, p1, p2, p3, p4, p5⟩ := id X1.pb
      go_wp2_with fail
      refine (X1.lazy lazy found HF.out.2.2.2.1).mono ?_
      rintro e w23 ⟨A5, c5, rfl, R5, hb⟩
      clear p0 p1 p2 p3 p4 p5
      have X2 := X1.below hb
      have B2 := B1.trans (hb.mono B1.size)
      replace R3 := R3.below hb
      clear X1 B1 hb
      obtain ⟨p0, p1, p2, p3, p4, p5⟩ := id X2.pb
      go_wp2_with fail
      refine (X2.slazy lazy found HF.out.2.2.2.1).mono ?_
      rintro e w24 ⟨A6, c6, rfl, R6, hb⟩
      clear p0 p1 p2 p3 p4 p5
      have X1 := X2.below hb
      have B1 := B2.trans (hb.mono B2.size)
      replace R3 := R3.below hb
      replace R5 := R5.below hb
      clear X2 B2 hb
      go_upto_region 14 with (fail)
      go_cut [131] (fun s wx => s = .bool false ∧ ∃ k, wx = w24.drewN k)
      case first => as_aux_lemma =>
        cases found
        · go_wp2_with (go_at_call 42; refine (vInts_c _ _ _ _ _ _ R5.rd R6.rd (by omega)).mono ?_; rintro e w' ⟨rfl, nd, rfl⟩)
          go_meet
          exact ⟨rfl, _, rfl⟩
        · go_wp2_with (go_at_call 42; refine (vInts_c _ _ _ _ _ _ R5.rd R6.rd (by omega)).mono ?_; rintro e w' ⟨rfl, nd, rfl⟩)
          go_meet
          exact ⟨rfl, _, rfl⟩
      case rest => as_aux_lemma =>
        obtain ⟨rfl, kd, rfl⟩ := hcut
        have hb := below_drewN (Below.refl w24.heap.size w24) kd
        have X2 := X1.below hb
        have B2 := B1.trans (hb.mono B1.size)
        replace R3 := R3.below hb
        replace R5 := R5.below hb
        clear X1 B1 hb R6
        generalize w24.drewN kd = w24d at *
        obtain ⟨p0, p1, p2, p3, p4, p5⟩ := id X2.pb
        go_wp2_with fail
        refine (X2.eager eg fine HF.out.2.2.2.2.1).mono ?_
        rintro e w25 ⟨A7, c7, rfl, R7, hb⟩
        clear p0 p1 p2 p3 p4 p5
        have X1 := X2.below hb
        have B1 := B2.trans (hb.mono B2.size)
        replace R3 := R3.below hb
        replace R5 := R5.below hb
        clear X2 B2 hb
        obtain ⟨p0, p1, p2, p3, p4, p5⟩ := id X1.pb
        go_wp2_with fail
        refine (X1.seager eg fine HF.out.2.2.2.2.1).mono ?_
        rintro e w26 ⟨A8, c8, rfl, R8, hb⟩
        clear p0 p1 p2 p3 p4 p5
        have X2 := X1.below hb
        have B2 := B1.trans (hb.mono B1.size)
        replace R3 := R3.below hb
        replace R5 := R5.below hb
        replace R7 := R7.below hb
        clear X1 B1 hb
        go_upto_region 18 with (fail)
        go_cut [157] (fun s wx => s = .bool false ∧ ∃ k, wx = w26.drewN k)
        case first => as_aux_lemma =>
          cases fine
          · go_wp2_with (go_at_call 42; refine (vInts_c _ _ _ _ _ _ R7.rd R8.rd (by omega)).mono ?_; rintro e w' ⟨rfl, nd, rfl⟩)
            go_meet
            exact ⟨rfl, _, rfl⟩
          · obtain ⟨rfl, _⟩ := HF.out.2.2.2.2.2.2.1 rfl
            go_wp2_with (go_at_call 42; refine (vInts_c _ _ _ _ _ _ R7.rd R8.rd (by omega)).mono ?_; rintro e w' ⟨rfl, nd, rfl⟩)
            go_meet
            exact ⟨rfl, _, rfl⟩
        case rest => as_aux_lemma =>
          obtain ⟨rfl, kd, rfl⟩ := hcut
          have hb := below_drewN (Below.refl w26.heap.size w26) kd
          have X1 := X2.below hb
          have B1 := B2.trans (hb.mono B2.size)
          replace R3 := R3.below hb
          replace R5 := R5.below hb
          replace R7 := R7.below hb
          clear X2 B2 hb R8
          generalize w26.drewN kd = w26d at *
          cases found
          · cases fine
            · go_wp2
              go_returns
              exact ⟨rfl, B1⟩
            · have := (HF.out.2.2.2.2.2.2.1 rfl).1
              cases this
          · obtain ⟨s1, s2, s3⟩ := HF.out.2.2.2.2.2.2.2 rfl
            have S1 := Lib.hid s1
            have S2 := Lib.hid s2
            have dq : decide (q < m) = false := by simp; omega
            clear s1 s2
            obtain ⟨p0, p1, p2, p3, p4, p5⟩ := id X1.pb
            go_wp2_with fail
            refine (X1.iCost R3 c3 m true S1.out).mono ?_
            rintro e w27 ⟨rfl, hb⟩
            clear p0 p1 p2 p3 p4 p5
            have X2 := X1.below hb
            have B2 := B1.trans (hb.mono B1.size)
            replace R3 := R3.below hb
            replace R5 := R5.below hb
            replace R7 := R7.below hb
            clear X1 B1 hb
            obtain ⟨p0, p1, p2, p3, p4, p5⟩ := id X2.pb
            go_wp2_with fail
            refine (X2.iCost R5 c5 q true S2.out).mono ?_
            rintro e w28 ⟨rfl, hb⟩
            clear p0 p1 p2 p3 p4 p5
            have X1 := X2.below hb
            have B1 := B2.trans (hb.mono B2.size)
            replace R3 := R3.below hb
            replace R5 := R5.below hb
            replace R7 := R7.below hb
            clear X2 B2 hb
            cases fine
            · go_wp2
              go_returns
              exact ⟨rfl, B1⟩
            · obtain ⟨_, s4, s5⟩ := HF.out.2.2.2.2.2.2.1 rfl
              have S4 := Lib.hid s4
              have dr : decide (m ≤ r) = true := by simp; omega
              clear s4
              obtain ⟨p0, p1, p2, p3, p4, p5⟩ := id X1.pb
              go_wp2_with fail
              refine (X1.iCost R7 c7 r true S4.out).mono ?_
              rintro e w29 ⟨rfl, hb⟩
              clear p0 p1 p2 p3 p4 p5
              have X2 := X1.below hb
              have B2 := B1.trans (hb.mono B1.size)
              replace R3 := R3.below hb
              replace R5 := R5.below hb
              replace R7 := R7.below hb
              clear X1 B1 hb
              go_wp2
              go_returns
              exact ⟨rfl, B2⟩
end Go.Proofs.Ytofcienabddpjaa
