/- Contracts: slices.Sort at twelve ints and fewer. -/
import Derived.Test.YtakpoalcfjedlaaZFPlain
import Derived.Test.YtakpoalcfjedlaaSlices
import Derived.BigRegion
namespace Go.Proofs.Ytakpoalcfjedlaa
open Go.RowKit

theorem isNaN_c (x : Int) (w : World) : Calls Try.prog 95 #[.int .i64 x] w fun e w' => e = .returned (.bool false) ∧ w = w' := by
  have hx : (x != x) = false := by simp
  go_enter Try.func95, Try.ntmps95
  go_wp2
  go_ret
  exact ⟨rfl, rfl⟩
theorem less_c (x y : Int) (w : World) : Calls Try.prog 85 #[.int .i64 x, .int .i64 y] w fun e w' => e = .returned (.bool (decide (x < y))) ∧ w = w' := by
  go_enter Try.func85, Try.ntmps85
  go_wp2_with (go_at_call 95; refine (isNaN_c _ _).mono ?_; rintro e w' ⟨rfl, rfl⟩)
  go_ret
  exact ⟨rfl, rfl⟩
theorem OwnI.cellN {w : World} {base g n cap : Nat} {xs : List Int} (h : OwnI w base (.slice (some ⟨g, 0, none⟩) n cap) xs) (hn : xs.length = n) {k : Nat} (hk : k < n) : w.cell? ⟨g, k, none⟩ = some (.int .i64 (xs.getD k 0)) := by
  subst hn; exact h.cellAt hk
theorem OwnI.frozenN {w : World} {base g n cap : Nat} {xs : List Int} (h : OwnI w base (.slice (some ⟨g, 0, none⟩) n cap) xs) (hn : xs.length = n) (k : Nat) : w.frozen? ⟨g, k, none⟩ = false := by
  subst hn; exact h.frozenAt k
theorem OwnI.storedN {w : World} {base g n cap : Nat} {xs : List Int} (h : OwnI w base (.slice (some ⟨g, 0, none⟩) n cap) xs) (hn : xs.length = n) (k : Nat) (x : Int) :
    OwnI (w.setCell ⟨g, k, none⟩ (.int .i64 x)) base (.slice (some ⟨g, 0, none⟩) n cap) (xs.set k x) ∧ w.grownBy (w.setCell ⟨g, k, none⟩ (.int .i64 x)) (some g) := by
  subst hn; exact h.stored k x
theorem grown_qN {w w' : World} {row : Option Nat} (h : w.grownBy w' row) (n : Nat) : w.grownBy (w'.drewN n) row := ⟨h.os, h.tape, h.output, h.size, h.block⟩
theorem grown_q {w w' : World} {row : Option Nat} (h : w.grownBy w' row) : w.grownBy w'.drew row := ⟨h.os, h.tape, h.output, h.size, h.block⟩
set_option maxHeartbeats 1000000 in
theorem insort_c (g base n cap : Nat) (xs : List Int) (w : World) (hn : xs.length = n) (hn12 : n ≤ 12) (o : OwnI w base (.slice (some ⟨g, 0, none⟩) n cap) xs) :
    Calls Try.prog 79 #[.slice (some ⟨g, 0, none⟩) n cap, .int .i64 0, .int .i64 n] w fun e w' => ∃ zs, e = .returned (.tuple #[]) ∧ zs.Perm xs ∧ zs.Pairwise (· ≤ ·) ∧ OwnI w' base (.slice (some ⟨g, 0, none⟩) n cap) zs ∧ w.grownBy w' (some g) := by
  have O1 := Lib.hid o
  have HN := Lib.hid hn
  clear hn o
  go_enter Try.func79, Try.ntmps79
  go_wp2
  go_loopw [6, 7] (fun iv _ wr => ∃ (i : Nat) (zs : List Int), 1 ≤ i ∧ (i ≤ n ∨ i = 1) ∧ iv = .int .i64 i ∧ OwnI wr base (.slice (some ⟨g, 0, none⟩) n cap) zs ∧ SrtI xs zs i i ∧ w.grownBy wr (some g)) (fun iv _ _ => n + 1 - (intOf iv).toNat)
  case atStart => exact ⟨1, xs, by omega, .inr rfl, rfl, O1.out, SrtI.start xs, World.grownBy.refl _ _⟩
  case round =>
    clear O1
    obtain ⟨i, zs, i1, i2, rfl, own, sr, gr⟩ := hrel
    by_cases hlt : i < n
    · have hi : (i : Int) < (n : Int) := by omega
      have W1 : IntKind.i64.wrap ((i : Int) + 1) = (i : Int) + 1 := IntWalk.i64_in _ (by omega)
      have O2 := Lib.hid own
      have S2 := Lib.hid sr
      clear own sr
      go_wp2
      go_loopw [7] (fun jv wr2 => ∃ (j : Nat) (zs : List Int), j ≤ i ∧ jv = .int .i64 j ∧ OwnI wr2 base (.slice (some ⟨g, 0, none⟩) n cap) zs ∧ SrtI xs zs i j ∧ w.grownBy wr2 (some g)) (fun jv _ => (intOf jv).toNat)
      case atStart => exact ⟨i, zs, by omega, rfl, O2.out, S2.out, gr⟩
      case round =>
        clear O2 S2 gr
        obtain ⟨j, zs, hj, rfl, own, sr, gr⟩ := hrel
        have zl := sr.len.trans HN.out
        by_cases hj0 : j = 0
        · subst hj0
          have O3 := Lib.hid own
          have S3 := Lib.hid (sr.done (.inl rfl))
          clear own sr zl
          go_wp2_with fail
          go_quiet (fail)
          go_wp2
          go_roundw
          case rel => exact ⟨i + 1, zs, by omega, .inl (by omega), by go_num, O3.out, S3.out, grown_qN gr _⟩
          case measure => simp [intOf]; omega
        · obtain ⟨j, rfl⟩ : ∃ j', j = j' + 1 := ⟨j - 1, by omega⟩
          have c1 := own.cellN zl (k := j + 1) (by omega)
          have c2 := own.cellN zl (k := j) (by omega)
          have f1 := own.frozenN zl (j + 1)
          have f2 := own.frozenN zl j
          have W2 : IntKind.i64.wrap (j : Int) = (j : Int) := IntWalk.i64_in _ (by omega)
          have j2 : (0 : Int) ≤ (j : Int) + 1 := by omega
          have j0 : (0 : Int) ≤ j := by omega
          have jn : (j : Int) < (n : Int) := by omega
          have j1n : (j : Int) + 1 < (n : Int) := by omega
          have j10 : (0 : Int) < (j : Int) + 1 := by omega
          have hgt : decide ((0 : Int) < (j : Int) + 1) = true := decide_eq_true j10
          obtain ⟨x, hx⟩ : ∃ x, x = zs.getD (j + 1) 0 := ⟨_, rfl⟩
          obtain ⟨y, hy⟩ : ∃ y, y = zs.getD j 0 := ⟨_, rfl⟩
          rw [← hx] at c1
          rw [← hy] at c2
          have HX := Lib.hid hx
          have HY := Lib.hid hy
          have HZ := Lib.hid zl
          clear hx hy zl
          by_cases less : x < y
          · have hl : decide (x < y) = true := decide_eq_true less
            have O3 := Lib.hid own
            have S3 := Lib.hid sr
            clear own sr
            go_wp2_with fail
            go_quiet ((go_at_call 85; exact Calls.quiet_of_same ((less_c _ _ _).mono fun _ _ hh => ⟨hh.1, hh.2.symm⟩)))
            have c3 : (wr.drewN nq).cell? ⟨g, j + 1, none⟩ = some (.int .i64 x) := c1
            have c4 : (wr.drewN nq).cell? ⟨g, j, none⟩ = some (.int .i64 y) := c2
            have f3 : (wr.drewN nq).frozen? ⟨g, j + 1, none⟩ = false := f1
            have f4 : (wr.drewN nq).frozen? ⟨g, j, none⟩ = false := f2
            have own4 : OwnI (wr.drewN nq) base (.slice (some ⟨g, 0, none⟩) n cap) zs := O3.out
            have gr4 := grown_qN gr nq
            have OW4 := Lib.hid own4
            clear c1 c2 f1 f2 own4 O3 gr hl hgt
            generalize wr.drewN nq = w4 at *
            go_upto_region 6 with (fail)
            go_big_region
            clear c3 c4 f3 f4
            have s1 := OW4.out.storedN HZ.out (j + 1) y
            have s2 := s1.1.storedN (by rw [List.length_set]; exact HZ.out) j x
            have g5 := grown_q (grown_trans (grown_trans gr4 s1.2) s2.2)
            have O5 := Lib.hid s2.1
            have sw := S3.out.swap (by have := HZ.out; omega) hj (by rw [← HX.out, ← HY.out]; exact less)
            rw [← HX.out, ← HY.out] at sw
            have S5 := Lib.hid sw
            clear s1 s2 sw OW4 S3 gr4
            go_wp2
            go_roundw
            case rel => exact ⟨j, _, by omega, by go_num, O5.out, S5.out, g5⟩
            case measure => simp [intOf]
          · have hl : decide (x < y) = false := decide_eq_false less
            have O3 := Lib.hid own
            have S3 := Lib.hid (sr.done (.inr (by rw [Nat.add_sub_cancel, ← HX.out, ← HY.out]; omega)))
            clear own sr
            go_wp2_with fail
            go_quiet ((go_at_call 85; exact Calls.quiet_of_same ((less_c _ _ _).mono fun _ _ hh => ⟨hh.1, hh.2.symm⟩)))
            go_wp2
            go_roundw
            case rel => exact ⟨i + 1, zs, by omega, .inl (by omega), by go_num, O3.out, S3.out, grown_qN gr _⟩
            case measure => simp [intOf]; omega
    · have P2 := Lib.hid sr.perm
      have P3 := Lib.hid (sr.pair (by have := HN.out; omega) (by have := HN.out; omega))
      have O2 := Lib.hid own
      clear own sr
      go_wp2
      go_returns
      exact ⟨zs, rfl, P2.out, P3.out, O2.out, gr⟩
set_option maxRecDepth 100000 in
set_option maxHeartbeats 4000000 in
/-- How many bits a number has: some. -/
theorem len64_c (x : Int) (w : World) (h0 : 0 ≤ x) (h1 : x ≤ 12) : Calls Try.prog 89 #[.int .u64 x] w fun e w' => (∃ z : Int, e = .returned (.int .i64 z)) ∧ w = w' := by
  go_enter Try.func89, Try.ntmps89
  go_wp2
  go_ret
  exact ⟨⟨_, rfl⟩, rfl⟩
set_option maxRecDepth 100000 in
theorem len_c (n : Nat) (w : World) (hn : n ≤ 12) : Calls Try.prog 78 #[.int .u64 n] w fun e w' => (∃ z : Int, e = .returned (.int .i64 z)) ∧ w = w' := by
  go_enter Try.func78, Try.ntmps78
  go_wp2_with fail
  go_at_call 89
  refine (len64_c n w (by omega) (by omega)).mono ?_
  rintro e w' ⟨⟨z, rfl⟩, rfl⟩
  go_wp2
  go_ret
  exact ⟨⟨_, rfl⟩, rfl⟩
theorem pdq_c (g base n cap : Nat) (xs : List Int) (l : Int) (w : World) (hn : xs.length = n) (hn12 : n ≤ 12) (o : OwnI w base (.slice (some ⟨g, 0, none⟩) n cap) xs) :
    Calls Try.prog 77 #[.slice (some ⟨g, 0, none⟩) n cap, .int .i64 0, .int .i64 n, .int .i64 l] w fun e w' => ∃ zs, e = .returned (.tuple #[]) ∧ zs.Perm xs ∧ zs.Pairwise (· ≤ ·) ∧ OwnI w' base (.slice (some ⟨g, 0, none⟩) n cap) zs ∧ w.grownBy w' (some g) := by
  have h12 : (n : Int) ≤ 12 := by omega
  have INS := Lib.hid (insort_c g base n cap xs w hn hn12 o)
  clear hn o
  go_enter Try.func77, Try.ntmps77
  go_wp2_with fail
  go_loopw [1, 2] (fun av bv wr => av = .int .i64 0 ∧ bv = .int .i64 n ∧ wr = w) (fun _ _ _ => 0)
  case atStart => exact ⟨rfl, rfl, rfl⟩
  case round =>
    obtain ⟨rfl, rfl, rfl⟩ := hrel
    go_wp2_with fail
    go_at_call 79
    refine INS.out.mono ?_
    rintro e w1 ⟨zs, rfl, p, s, o1, g1⟩
    have O1 := Lib.hid o1
    have P1 := Lib.hid p
    have S1 := Lib.hid s
    clear o1 INS p s
    go_wp2
    go_returns
    exact ⟨zs, rfl, P1.out, S1.out, O1.out, g1⟩
theorem sort_c (g base n cap : Nat) (xs : List Int) (w : World) (hn : xs.length = n) (hn12 : n ≤ 12) (o : OwnI w base (.slice (some ⟨g, 0, none⟩) n cap) xs) :
    Calls Try.prog 74 #[.slice (some ⟨g, 0, none⟩) n cap] w fun e w' => ∃ zs, e = .returned (.tuple #[]) ∧ zs.Perm xs ∧ zs.Pairwise (· ≤ ·) ∧ OwnI w' base (.slice (some ⟨g, 0, none⟩) n cap) zs ∧ w.grownBy w' (some g) := by
  have PD := Lib.hid (fun l => pdq_c g base n cap xs l w hn hn12 o)
  clear hn o
  go_enter Try.func74, Try.ntmps74
  go_wp2_with fail
  go_at_call 78
  refine (len_c n w hn12).mono ?_
  rintro e w' ⟨⟨z, rfl⟩, rfl⟩
  go_wp2_with fail
  go_at_call 77
  refine (PD.out z).mono ?_
  rintro e w1 ⟨zs, rfl, p, s, o1, g1⟩
  have O1 := Lib.hid o1
  have P1 := Lib.hid p
  have S1 := Lib.hid s
  clear o1 PD p s
  go_wp2
  go_returns
  exact ⟨zs, rfl, P1.out, S1.out, O1.out, g1⟩
end Go.Proofs.Ytakpoalcfjedlaa
