/- Slices of parcels: the statements' own helpers, and such slices among the arguments. -/
import Derived.Test.YtbfaejacfhblkaaPairs
namespace Go.Proofs.Ytbfaejacfhblkaa
open Go.ChangeShapes Go.WideShapes Go.ChangeAt Go.RowKit Go.Joins

theorem szParS_ok (A : Option Addr) (c n : Nat) (w : World) (h : n ≤ 1048576) : Calls Try.prog 52 #[.slice A n c, .int .i64 1048576] w fun e w' => e = .returned (.int .i64 (1048576 - n)) ∧ w = w' := by
  have e2 : ¬ (1048576 - (n : Int) < 0) := by omega
  go_enter Try.func52, Try.ntmps52
  go_wp2
  go_ret
  exact ⟨rfl, rfl⟩
theorem szParS_no (A : Option Addr) (c n : Nat) (w : World) (h : 1048576 < n) (hm : n ≤ 9223372036854775807) : Calls Try.prog 52 #[.slice A n c, .int .i64 1048576] w fun e w' => e = .returned (.int .i64 (-1)) ∧ w = w' := by
  have e2 : (1048576 - (n : Int) < 0) := by omega
  go_enter Try.func52, Try.ntmps52
  go_wp2
  go_ret
  exact ⟨rfl, rfl⟩
theorem toPar_c (V G : Int) (w : World) : Calls Try.prog 77 #[.agg #[.int .i64 V, .int .i64 G]] w fun e w' => e = .returned (.agg #[.int .i64 V, .int .i64 G]) ∧ Below w.heap.size w w' := by
  go_enter Try.func77, Try.ntmps77
  go_wp2
  (refine bodyPost_ret (v := .agg #[.int .i64 V, .int .i64 G]) (by simp (maxDischargeDepth := 3) [results, Try.results77, go_sem, *]) rfl ?_; exact ⟨rfl, by (repeat' (first | (with_reducible exact Below.refl _ _) | (with_reducible assumption) | (with_reducible refine below_drewN ?_ _) | (with_reducible refine Below.alloc ?_ ?_ _) | (with_reducible refine Below.drew ?_) | (with_reducible refine Below.setCell ?_ ?_ _) | go_size))⟩)
theorem eqPar_c (V G : Int) (w : World) : Calls Try.prog 78 #[.agg #[.int .i64 V, .int .i64 G], .agg #[.int .i64 V, .int .i64 G]] w fun e w' => e = .returned (.bool true) ∧ Below w.heap.size w w' := by
  go_enter Try.func78, Try.ntmps78
  go_wp2
  (go_returns; exact ⟨by first | rfl | (simp; done) | (simp; omega), by (repeat' (first | (with_reducible exact Below.refl _ _) | (with_reducible assumption) | (with_reducible refine below_drewN ?_ _) | (with_reducible refine Below.alloc ?_ ?_ _) | (with_reducible refine Below.drew ?_) | (with_reducible refine Below.setCell ?_ ?_ _) | go_size))⟩)
set_option maxHeartbeats 400000 in
theorem toParS_c (A : Option Addr) (c : Nat) (xs : List (Int × Int)) (w : World) (h : RdP w w.heap.size A xs) (hn : xs.length ≤ 1048576) :
    Calls Try.prog 54 #[.slice A xs.length c] w (RetP w xs id) := by
  have hmk := make_par xs.length hn
  go_enter Try.func54, Try.ntmps54
  go_wp2
  go_loopw [4] (fun i wr => ∃ k : Nat, k ≤ xs.length ∧ i = .int .i64 k ∧ OwnP wr w.heap.size (.slice (some ⟨w.heap.size, 0, none⟩) xs.length xs.length) (filling k xs) ∧ Below w.heap.size w wr ∧ w.heap.size < wr.heap.size) (fun i _ => xs.length - (intOf i).toNat)
  case atStart => exact ⟨0, by omega, rfl, by rw [filling_zero]; exact OwnP.made w xs.length (by unfold maxLen; omega), by (repeat' (first | (with_reducible exact Below.refl _ _) | (with_reducible assumption) | (with_reducible refine below_drewN ?_ _) | (with_reducible refine Below.alloc ?_ ?_ _) | (with_reducible refine Below.drew ?_) | (with_reducible refine Below.setCell ?_ ?_ _) | go_size)), by simp⟩
  case round =>
    clear hmk
    obtain ⟨k, hk, rfl, hrow, hB, hsz⟩ := hrel
    by_cases hlt : k < xs.length
    · obtain ⟨b, off, x, y, rfl, hx, hb, hc0, hc1⟩ := h.at_ hlt
      have c0 := (hB.cell (p := ⟨b, off + k * 2, none⟩) hb).trans hc0
      have c1 := (hB.cell (p := ⟨b, off + k * 2 + 1, none⟩) hb).trans hc1
      have hl := filling_length k xs hk
      have hs := filling_set hlt
      rw [← hx] at hs
      have HR := Lib.hid hrow
      have HS := Lib.hid hs
      have HL := Lib.hid hl
      have H := Lib.hid h
      clear hx hrow hc0 hc1 h hs hl
      go_wp2_with fail
      refine (toPar_c _ _ _).mono ?_
      rintro e w1 ⟨rfl, hb1⟩
      have hrow1 := HR.out.below hb1
      have z1 := hb1.size
      have hB1 := hB.trans (hb1.mono hB.size)
      have hk1 : k < (filling k xs).length := by rw [HL.out]; exact hlt
      have hf0 := hrow1.frozenAt (k * 2)
      have hf1 := hrow1.frozenAt (k * 2 + 1)
      have hst := OwnP.store hrow1 hk1 x y
      rw [HS.out] at hst
      obtain ⟨u0, u1, g0, g1⟩ := hrow1.cells2 hk1
      have HST := Lib.hid hst
      have hz : w.heap.size < w1.heap.size := by omega
      clear hst hrow1 hk1
      go_wp2
      go_roundw
      case rel => exact ⟨k + 1, by omega, by go_num, HST.out.1, hB1.grown HST.out.2 (by omega) (by intro g hg; simp at hg; omega), by simp; omega⟩
      case measure => simp [intOf]; omega
    · have hk' : k = xs.length := by omega
      subst hk'
      rw [filling_all] at hrow
      clear h
      go_wp2
      go_ret
      exact ⟨_, _, rfl, hrow, hB⟩
set_option maxHeartbeats 400000 in
/-- Two slices that read as one list. -/
theorem eqParS_c {B B' : Nat} (A A' : Option Addr) (c c' : Nat) (xs : List (Int × Int)) (w : World) (h : RdP w B A xs) (h' : RdP w B' A' xs) (hB1 : B ≤ w.heap.size) (hB2 : B' ≤ w.heap.size) (hm : xs.length ≤ 9223372036854775807) :
    Calls Try.prog 56 #[.slice A xs.length c, .slice A' xs.length c'] w fun e w' => e = .returned (.bool true) ∧ Below w.heap.size w w' := by
  go_enter Try.func56, Try.ntmps56
  go_wp2
  go_loopw [5] (fun i wr => ∃ k : Nat, k ≤ xs.length ∧ i = .int .i64 k ∧ Below w.heap.size w wr) (fun i _ => xs.length - (intOf i).toNat)
  case atStart => exact ⟨0, by omega, rfl, by (repeat' (first | (with_reducible exact Below.refl _ _) | (with_reducible assumption) | (with_reducible refine below_drewN ?_ _) | (with_reducible refine Below.alloc ?_ ?_ _) | (with_reducible refine Below.drew ?_) | (with_reducible refine Below.setCell ?_ ?_ _) | go_size))⟩
  case round =>
    obtain ⟨k, hk, rfl, hB⟩ := hrel
    by_cases hlt : k < xs.length
    · have hsz := hB.size
      obtain ⟨b, off, x, y, rfl, hx, hb, hc0, hc1⟩ := (h.below (hB.mono hB1)).at_ hlt
      obtain ⟨b', off', x', y', rfl, hx', hb', hc0', hc1'⟩ := (h'.below (hB.mono hB2)).at_ hlt
      have e := hx'.trans hx.symm
      simp only [Prod.mk.injEq] at e
      obtain ⟨rfl, rfl⟩ := e
      have hl1 : (k : Int) < (xs.length : Int) := by omega
      clear hx hx' h h'
      go_wp2
      go_region_held3 (fun w' => w'.cell? ⟨b, off + k * 2, none⟩ = some (.int .i64 x') ∧ w'.cell? ⟨b, off + k * 2 + 1, none⟩ = some (.int .i64 y') ∧ w'.cell? ⟨b', off' + k * 2, none⟩ = some (.int .i64 x') ∧ w'.cell? ⟨b', off' + k * 2 + 1, none⟩ = some (.int .i64 y')) (simp (maxDischargeDepth := 3) [*, go_sem]) (first | (go_at_call 78; (with_reducible refine (eqPar_c x' y' _).mono ?_); rintro e w1 ⟨rfl, hb1⟩; have hz1 := hb1.size; (repeat (first | rw [World.size_alloc] at hz1 | rw [World.size_drew] at hz1 | rw [World.heap_drewN] at hz1 | rw [World.size_setCell] at hz1)); have hB : Below w.heap.size w w1 := Below.trans (by (repeat' (first | (with_reducible exact Below.refl _ _) | (with_reducible assumption) | (with_reducible refine below_drewN ?_ _) | (with_reducible refine Below.alloc ?_ ?_ _) | (with_reducible refine Below.drew ?_) | (with_reducible refine Below.setCell ?_ ?_ _) | go_size))) (hb1.mono (by go_size)); have hL1 := hb1; clear hb1; obtain ⟨hc1, hf1⟩ := bcell hL1))
      go_wp2
      go_roundw
      case rel => exact ⟨k + 1, by omega, by go_num, by (repeat' (first | (with_reducible exact Below.refl _ _) | (with_reducible assumption) | (with_reducible refine below_drewN ?_ _) | (with_reducible refine Below.alloc ?_ ?_ _) | (with_reducible refine Below.drew ?_) | (with_reducible refine Below.setCell ?_ ?_ _) | go_size))⟩
      case measure => simp [intOf]; omega
    · clear h h'
      go_wp2
      go_ret
      exact ⟨rfl, by (repeat' (first | (with_reducible exact Below.refl _ _) | (with_reducible assumption) | (with_reducible refine below_drewN ?_ _) | (with_reducible refine Below.alloc ?_ ?_ _) | (with_reducible refine Below.drew ?_) | (with_reducible refine Below.setCell ?_ ?_ _) | go_size))⟩
set_option maxHeartbeats 400000 in
theorem markParS_c (A : Option Addr) (c base : Nat) (xs : List (Int × Int)) (k0 : Int) (w : World) (ho : OwnP w base (.slice A xs.length c) xs) (h0 : 0 ≤ k0) (h1 : k0 ≤ 4611686018427387904) (hm : xs.length ≤ 1152921504606846976) :
    Calls Try.prog 62 #[.slice A xs.length c, .int .i64 k0] w (RetMP w base (.slice A xs.length c) k0 xs.length) := by
  by_cases hp : 0 < xs.length
  · obtain ⟨g, cap, hv, hg1, hg2⟩ := ho.head hp
    simp only [Value.slice.injEq, true_and] at hv
    obtain ⟨rfl, rfl⟩ := hv
    go_enter Try.func62, Try.ntmps62
    go_wp2
    go_loopw [1, 5] (fun kk i wr => ∃ k : Nat, k ≤ xs.length ∧ i = .int .i64 k ∧ kk = .int .i64 (k0 + 2 * k) ∧ OwnP wr base (.slice (some ⟨g, 0, none⟩) xs.length c) (markingP k0 k xs) ∧ w.grownBy wr (some g)) (fun _ i _ => xs.length - (intOf i).toNat)
    case atStart => exact ⟨0, by omega, rfl, by simp, by rw [markingP_zero]; exact ho, World.grownBy.refl _ _⟩
    case round =>
      clear ho
      obtain ⟨k, hk, rfl, rfl, hown, hgr⟩ := hrel
      by_cases hlt : k < xs.length
      · have hl := markingP_length k0 k xs hk
        have hk1 : k < (markingP k0 k xs).length := by omega
        have hf0 := hown.frozenAt (k * 2)
        have hf1 := hown.frozenAt (k * 2 + 1)
        have hst := OwnP.store hown hk1 (k0 + 2 * k) (k0 + 2 * k + 1)
        rw [markingP_set k0 k xs hlt] at hst
        obtain ⟨u0, u1, g0, g1⟩ := hown.cells2 hk1
        have HST := Lib.hid hst
        clear hst hown hl hk1
        go_wp2
        go_roundw
        case rel => exact ⟨k + 1, by omega, by go_num, by go_num, HST.out.1, grown_trans hgr HST.out.2⟩
        case measure => simp [intOf]; omega
      · have hk' : k = xs.length := by omega
        subst hk'
        rw [markingP_all] at hown
        clear hg1 hg2
        go_wp2
        go_ret
        exact ⟨rfl, hown, hgr⟩
  · have hx : xs = [] := List.eq_nil_of_length_eq_zero (by omega)
    subst hx
    go_enter Try.func62, Try.ntmps62
    go_wp2
    refine wp_loop_rounds 1 ?_
    rw [rounds_succ]
    go_wp2
    go_ret
    exact ⟨by simp, by simpa [marksP] using ho, World.grownBy.refl _ _⟩
set_option maxHeartbeats 400000 in
theorem heldParS_c {B : Nat} (A : Option Addr) (c n : Nat) (k0 : Int) (w : World) (h : RdP w B A (marksP k0 n)) (h0 : 0 ≤ k0) (h1 : k0 ≤ 4611686018427387904) (hm : n ≤ 1152921504606846976) :
    Calls Try.prog 63 #[.slice A n c, .int .i64 k0] w fun e w' => e = .returned (.int .i64 (k0 + 2 * n)) ∧ w = w' := by
  go_enter Try.func63, Try.ntmps63
  go_wp2
  go_loop [1, 5] (fun kk i => ∃ k : Nat, k ≤ n ∧ i = .int .i64 k ∧ kk = .int .i64 (k0 + 2 * k)) (fun _ i => n - (intOf i).toNat)
  case atStart => exact ⟨0, by omega, rfl, by simp⟩
  case round =>
    obtain ⟨k, hk, rfl, rfl⟩ := hrel
    by_cases hlt : k < n
    · obtain ⟨b, off, x, y, rfl, hx, hb, hc0, hc1⟩ := h.at_ (k := k) (by rw [marksP_length]; exact hlt)
      rw [marksP_getD k0 n k hlt] at hx
      simp only [Prod.mk.injEq] at hx
      obtain ⟨rfl, rfl⟩ := hx
      clear h
      go_wp2
      go_round
      case rel => exact ⟨k + 1, by omega, by go_num, by go_num⟩
      case measure => simp [intOf]; omega
    · have hk' : k = n := by omega
      subst hk'
      clear h
      go_wp2
      go_ret
      exact ⟨rfl, rfl⟩
theorem marksP_rd {w : World} {base c n : Nat} {A : Option Addr} {k0 : Int} (h : OwnP w base (.slice A n c) (marksP k0 n)) : RdP w w.heap.size A (marksP k0 n) := h.rd

theorem cellsPar : Try.prog.cellsOf 81 = 2 := by kernel_rfl
section
variable {H : Type} {enc : TypeId × Value → H} {W : World} {base : Nat} {hd : Bool}
theorem open_par {v : Value} {d : DataW H} {p : List MemPlace} (hv : Value.okWide Try.prog W .any base 81 v) (h : DataW.Trod enc Try.prog W 0 (fun _ => true) true 81 v d p) :
    ∃ V G : Int, v = .agg #[.int .i64 V, .int .i64 G] := by
  obtain ⟨v0, v1, y0, y1, n, rfl, _, _, h0, h1⟩ := open_agg2 Try.underlying81 (by kernel_rfl) cellsPar hv h
  obtain ⟨V, rfl, _⟩ := open_ci h0
  obtain ⟨G, rfl, _⟩ := open_ci h1
  exact ⟨V, G, rfl⟩
theorem open_cps {n : Nat} {v : Value} {y : DataW H × List MemPlace} (h : DataW.trod enc Try.prog W 0 (fun _ => true) hd n 22 [v] = some y) :
    ∃ (A : Option Addr) (c : Nat) (xs : List (Int × Int)), v = .slice A xs.length c ∧ RdP W W.heap.size A xs ∧ xs.length ≤ 9223372036854775807 := by
  rcases Go.Deep.open_slice_pairs Try.underlying22 Try.underlying81 cellsPar rfl rfl (by kernel_rfl) (by kernel_rfl) h with ⟨hcs, _⟩ | ⟨a, len, cap, m, n', V0, V1, D0, D1, P0, P1, hcs, _, hl, hm, hmm, _, hx⟩
  · simp at hcs
    exact ⟨none, 0, [], hcs, RdP.nil, by simp⟩
  · simp at hcs
    have hlm : len ≤ m := by rw [hmm]; split <;> omega
    have each : ∀ i, i < m → ∃ q : Int × Int, V0 i = .int .i64 q.1 ∧ V1 i = .int .i64 q.2 := by
      intro i hi
      obtain ⟨_, _, t0, t1⟩ := hx i hi
      obtain ⟨a0, e0, _⟩ := open_ci t0
      obtain ⟨a1, e1, _⟩ := open_ci t1
      exact ⟨(a0, a1), e0, e1⟩
    obtain ⟨q, hq⟩ := Go.Deep.choose_lt each
    have hlen : ((List.range len).map q).length = len := by simp
    refine ⟨some a, cap, (List.range len).map q, by rw [hlen]; exact hcs, fun hp => ?_, by rw [hlen]; unfold maxLen at hm; omega⟩
    obtain ⟨b, off, spot⟩ := a
    have hp' : 0 < m := by rw [hlen] at hp; omega
    have hspot : spot = none := by simpa [Addr.add] using World.cell?_spot (hx 0 hp').1
    subst hspot
    have hb : b < W.heap.size := lt_of_cell (w := W) (a := (⟨b, off, none⟩ : Addr).add (0 * 2)) (by rw [(hx 0 hp').1]; rfl)
    refine ⟨b, off, rfl, hb, fun j u hj => ?_⟩
    have hjl : j < len * 2 := by
      have := (List.getElem?_eq_some_iff.1 hj).1
      rwa [pc_length, hlen] at this
    have hi : j / 2 < ((List.range len).map q).length := by rw [hlen]; omega
    obtain ⟨e0, e1, _, _⟩ := hx (j / 2) (by omega)
    obtain ⟨f0, f1⟩ := hq (j / 2) (by omega)
    rw [Go.WideShapes.add_plain] at e0 e1
    have hg : ((List.range len).map q).getD (j / 2) (0, 0) = q (j / 2) := by simp [List.getD_eq_getElem?_getD, show j / 2 < len by omega]
    have hj2 : j = j / 2 * 2 ∨ j = j / 2 * 2 + 1 := by omega
    rcases hj2 with h2 | h2
    · have g := pc_get0 _ _ hi
      rw [← h2, hj, hg] at g
      rw [← h2, f0] at e0
      rw [e0, Option.some.inj g]
    · have g := pc_get1 _ _ hi
      rw [← h2, hj, hg] at g
      rw [← h2, f1] at e1
      rw [e1, Option.some.inj g]
theorem open_ps {v : Value} {d : DataW H} {p : List MemPlace} (hv : Value.okWide Try.prog W .any base 22 v) (h : DataW.Trod enc Try.prog W 0 (fun _ => true) hd 22 v d p) :
    ∃ (A : Option Addr) (c : Nat) (xs : List (Int × Int)), v = .slice A xs.length c ∧ RdP W W.heap.size A xs ∧ xs.length ≤ 9223372036854775807 := by
  obtain ⟨a0, len, cap, rfl⟩ := okWide_slice Try.underlying22 hv
  obtain ⟨fuel, hf⟩ := h
  exact open_cps hf
end
end Go.Proofs.Ytbfaejacfhblkaa
