/- Contracts: the stable sort of the repairs. -/
import Derived.Test.YtdkhiedgikjnkaaRPlain
import Derived.Deep.WholeRow
import Derived.BigRegion
namespace Go.Proofs.Ytdkhiedgikjnkaa
open Go.RowKit

theorem mulR {a b : Int} (h0 : 0 ≤ a) (h1 : a ≤ 1000000) (h2 : 1 ≤ b) (h3 : b ≤ 100) : 0 ≤ a * b ∧ a * b ≤ 100000000 :=
  ⟨Int.mul_nonneg h0 (by omega), Int.le_trans (Int.mul_le_mul h1 h3 (by omega) (by omega)) (by decide)⟩
theorem isNaN_c (x : Int) (w : World) : Calls Try.prog 72 #[.int .i64 x] w fun e w' => e = .returned (.bool false) ∧ w = w' := by
  have hx : (x != x) = false := by simp
  go_enter Try.func72, Try.ntmps72
  go_wp2
  go_ret
  exact ⟨rfl, rfl⟩
theorem compare_c (x y : Int) (w : World) : Calls Try.prog 65 #[.int .i64 x, .int .i64 y] w fun e w' => e = .returned (.int .i64 (cmpI x y)) ∧ w = w' := by
  by_cases h1 : x < y
  · have e : cmpI x y = -1 := by unfold cmpI; rw [if_pos h1]
    rw [e]
    go_enter Try.func65, Try.ntmps65
    go_wp2_with (go_at_call 72; refine (isNaN_c _ _).mono ?_; rintro e w' ⟨rfl, rfl⟩)
    go_ret
    exact ⟨rfl, rfl⟩
  · by_cases h2 : y < x
    · have e : cmpI x y = 1 := by unfold cmpI; rw [if_neg h1, if_pos h2]
      rw [e]
      go_enter Try.func65, Try.ntmps65
      go_wp2_with (go_at_call 72; refine (isNaN_c _ _).mono ?_; rintro e w' ⟨rfl, rfl⟩)
      go_ret
      exact ⟨rfl, rfl⟩
    · have e : cmpI x y = 0 := by unfold cmpI; rw [if_neg h1, if_neg h2]
      rw [e]
      go_enter Try.func65, Try.ntmps65
      go_wp2_with (go_at_call 72; refine (isNaN_c _ _).mono ?_; rintro e w' ⟨rfl, rfl⟩)
      go_ret
      exact ⟨rfl, rfl⟩
/-- What the comparison reads. -/
structure RepB (w : World) (b2 b3 B : Nat) (A A' : Option Addr) (c c' : Nat) (ls hs : List Int) : Prop where
  p2 : w.cell? ⟨b2, 0, none⟩ = some (.slice A ls.length c)
  p3 : w.cell? ⟨b3, 0, none⟩ = some (.slice A' hs.length c')
  r2 : RdI w B A ls
  r3 : RdI w B A' hs
  l2 : b2 < B
  l3 : b3 < B
theorem RepB.far {w w' : World} {b2 b3 B : Nat} {A A' : Option Addr} {c c' : Nat} {ls hs : List Int} (h : RepB w b2 b3 B A A' c c' ls hs) (hb : Below B w w') : RepB w' b2 b3 B A A' c c' ls hs :=
  ⟨(hb.cell (p := ⟨b2, 0, none⟩) h.l2).trans h.p2, (hb.cell (p := ⟨b3, 0, none⟩) h.l3).trans h.p3, h.r2.below hb, h.r3.below hb, h.l2, h.l3⟩
theorem clos_c {b2 b3 B : Nat} {A A' : Option Addr} {c c' : Nat} {ls hs : List Int} (w : World) (h : RepB w b2 b3 B A A' c c' ls hs) (g : repG ls hs = true) (i k : Nat) (hi : i < ls.length) (hk : k < ls.length) :
    Calls Try.prog 64 #[.int .i64 i, .int .i64 k, .pointer (some ⟨b2, 0, none⟩), .pointer (some ⟨b3, 0, none⟩)] w fun e w' => e = .returned (.int .i64 (cmpI (ls.getD k 0 * hs.getD i 0) (ls.getD i 0 * hs.getD k 0))) ∧ ∃ n, w' = w.drewN n := by
  obtain ⟨n10, nq, hb⟩ := repG_out g
  obtain ⟨p2, p3, r2, r3, _, _⟩ := h
  obtain ⟨bA, oA, x, eA, hx, _, cx⟩ := r2.at_ hi
  obtain ⟨bA', oA', y, eA', hy, _, cy⟩ := r2.at_ hk
  obtain ⟨bC, oC, u, eC, hu, _, cu⟩ := r3.at_ (k := i) (by omega)
  obtain ⟨bC', oC', v, eC', hv, _, cv⟩ := r3.at_ (k := k) (by omega)
  subst eA
  obtain ⟨rfl, rfl⟩ : bA = bA' ∧ oA = oA' := by simp at eA'; exact eA'
  subst eC
  obtain ⟨rfl, rfl⟩ : bC = bC' ∧ oC = oC' := by simp at eC'; exact eC'
  have bi := hb i hi
  have bk := hb k hk
  rw [← hx, ← hu] at bi
  rw [← hy, ← hv] at bk
  rw [← hx, ← hy, ← hu, ← hv]
  have m1 := mulR bk.1 bk.2.1 bi.2.2.1 bi.2.2.2
  have m2 := mulR bi.1 bi.2.1 bk.2.2.1 bk.2.2.2
  have W1 : IntKind.i64.wrap (y * u) = y * u := IntWalk.i64_in _ (by omega)
  have W2 : IntKind.i64.wrap (x * v) = x * v := IntWalk.i64_in _ (by omega)
  have hi1 : (i : Int) < (ls.length : Int) := by omega
  have hk1 : (k : Int) < (ls.length : Int) := by omega
  have hi2 : (i : Int) < (hs.length : Int) := by omega
  have hk2 : (k : Int) < (hs.length : Int) := by omega
  clear hx hy hu hv bi bk m1 m2 hb nq r2 r3 g
  go_enter Try.func64, Try.ntmps64
  go_wp2_with fail
  go_quiet ((go_at_call 65; exact (compare_c _ _ _).mono fun _ _ hh => ⟨hh.1, _, hh.2.symm⟩))
  go_wp2
  go_ret
  exact ⟨rfl, _, rfl⟩
theorem OwnI.cellN {w : World} {base g n cap : Nat} {xs : List Int} (h : OwnI w base (.slice (some ⟨g, 0, none⟩) n cap) xs) (hn : xs.length = n) {k : Nat} (hk : k < n) : w.cell? ⟨g, k, none⟩ = some (.int .i64 (xs.getD k 0)) := by
  subst hn; exact h.cellAt hk
theorem OwnI.frozenN {w : World} {base g n cap : Nat} {xs : List Int} (h : OwnI w base (.slice (some ⟨g, 0, none⟩) n cap) xs) (hn : xs.length = n) (k : Nat) : w.frozen? ⟨g, k, none⟩ = false := by
  subst hn; exact h.frozenAt k
theorem OwnI.storedN {w : World} {base g n cap : Nat} {xs : List Int} (h : OwnI w base (.slice (some ⟨g, 0, none⟩) n cap) xs) (hn : xs.length = n) (k : Nat) (x : Int) :
    OwnI (w.setCell ⟨g, k, none⟩ (.int .i64 x)) base (.slice (some ⟨g, 0, none⟩) n cap) (xs.set k x) ∧ w.grownBy (w.setCell ⟨g, k, none⟩ (.int .i64 x)) (some g) := by
  subst hn; exact h.stored k x
theorem ordR_one (ls hs : List Int) (q : Nat) : ordR ls hs 1 q = ordR ls hs 0 q := by
  show putR (fun q : Nat => (q : Int)) 0 0 q = (q : Int)
  exact putR_self (f := fun q : Nat => (q : Int)) (fun q _ => rfl) q
theorem less_cmp (ls hs : List Int) (i k : Nat) : decide (cmpI (ls.getD k 0 * hs.getD i 0) (ls.getD i 0 * hs.getD k 0) < 0) = lessR ls hs i k := by
  unfold lessR
  rw [Int.toNat_natCast, Int.toNat_natCast]
  generalize ls.getD k 0 * hs.getD i 0 = p
  generalize ls.getD i 0 * hs.getD k 0 = q
  rcases cmpI_ways p q with ⟨h, e⟩ | ⟨h, e⟩ | ⟨h, e⟩
  · rw [e]; simp [h]
  · rw [e]; simp; omega
  · rw [e, h]; simp
theorem drewN_trans {w w' : World} {m : Nat} (h : ∃ q, w' = (w.drewN m).drewN q) : ∃ q, w' = w.drewN q := by
  obtain ⟨q, rfl⟩ := h
  exact ⟨m + q, by unfold World.drewN; simp only [Nat.add_assoc]⟩
theorem grown_drewN {w w' : World} {row : Option Nat} (h : w.grownBy w' row) (n : Nat) : w.grownBy (w'.drewN n) row := ⟨h.os, h.tape, h.output, h.size, h.block⟩
theorem grown_drew' {w w' : World} {row : Option Nat} (h : w.grownBy w' row) : w.grownBy w'.drew row := ⟨h.os, h.tape, h.output, h.size, h.block⟩
theorem below_of_grown {w w' : World} {g B : Nat} (h : w.grownBy w' (some g)) (hB : B ≤ g) (hg : g < w.heap.size) : Below B w w' :=
  ⟨h.os, h.tape, h.output, h.size, fun k hk => h.block k (by omega) (fun e => by have := Option.some.inj e; omega)⟩
set_option maxHeartbeats 1000000 in
theorem insort_c {b2 b3 B : Nat} {A A' : Option Addr} {c c' : Nat} {ls hs : List Int} (g base n cap : Nat) (w : World) (h : RepB w b2 b3 B A A' c c' ls hs) (hg : repG ls hs = true) (hn : n = ls.length) (hB : B ≤ base) (o : OwnI w base (.slice (some ⟨g, 0, none⟩) n cap) (rowR (ordR ls hs 0) n)) :
    Calls Try.prog 74 #[.slice (some ⟨g, 0, none⟩) n cap, .int .i64 0, .int .i64 n, .func (.func 64) #[] #[.pointer (some ⟨b2, 0, none⟩), .pointer (some ⟨b3, 0, none⟩)]] w fun e w' => e = .returned (.tuple #[]) ∧ OwnI w' base (.slice (some ⟨g, 0, none⟩) n cap) (rowR (ordR ls hs n) n) ∧ w.grownBy w' (some g) := by
  have hn10 : n ≤ 10 := by rw [hn]; exact (repG_out hg).1
  have gB : base ≤ g ∨ n = 0 := by
    by_cases e : n = 0
    · exact .inr e
    · exact .inl (o.lt g rfl).1
  have o1 : OwnI w base (.slice (some ⟨g, 0, none⟩) n cap) (rowR (ordR ls hs 1) n) := by rw [rowR_congr (fun q _ => ordR_one ls hs q)]; exact o
  have H := Lib.hid h
  have HG := Lib.hid hg
  have HN := Lib.hid hn
  have O1 := Lib.hid o1
  have HW := Lib.hid (show n = 0 ∨ g < w.heap.size from if e : n = 0 then .inl e else .inr (o.lt g rfl).2)
  clear h hg hn o o1
  go_enter Try.func74, Try.ntmps74
  go_wp2
  go_loopw [8, 9] (fun iv _ wr => ∃ i : Nat, 1 ≤ i ∧ (i ≤ n ∨ i = 1) ∧ iv = .int .i64 i ∧ OwnI wr base (.slice (some ⟨g, 0, none⟩) n cap) (rowR (ordR ls hs i) n) ∧ w.grownBy wr (some g)) (fun iv _ _ => n + 1 - (intOf iv).toNat)
  case atStart => exact ⟨1, by omega, .inr rfl, rfl, O1.out, World.grownBy.refl _ _⟩
  case round =>
    clear O1
    obtain ⟨i, i1, i2, rfl, own, gr⟩ := hrel
    by_cases hlt : i < n
    · have hi : (i : Int) < (n : Int) := by omega
      have W1 : IntKind.i64.wrap ((i : Int) + 1) = (i : Int) + 1 := IntWalk.i64_in _ (by omega)
      have gB2 : base ≤ g := gB.resolve_right (by omega)
      have ob := ordR_b ls hs (n := n) i (by omega)
      have own2 : OwnI wr base (.slice (some ⟨g, 0, none⟩) n cap) (rowR (putR (ordR ls hs i) i i) n) := by rw [rowR_congr (fun q _ => putR_self (fun q hq => ordR_hi ls hs i q hq) q)]; exact own
      have os : ordR ls hs (i + 1) = putR (ordR ls hs i) i (posR ls hs (ordR ls hs i) i i) := rfl
      have OB := Lib.hid ob
      have OS := Lib.hid os
      have O2 := Lib.hid own2
      clear own own2 ob os
      generalize ordR ls hs i = f at *
      go_wp2
      go_loopw [9] (fun jv wr2 => ∃ j : Nat, j ≤ i ∧ jv = .int .i64 j ∧ posR ls hs f i i = posR ls hs f i j ∧ OwnI wr2 base (.slice (some ⟨g, 0, none⟩) n cap) (rowR (putR f i j) n) ∧ w.grownBy wr2 (some g)) (fun jv _ => (intOf jv).toNat)
      case atStart => exact ⟨i, by omega, rfl, rfl, O2.out, gr⟩
      case round =>
        clear O2 gr
        obtain ⟨j, hj, rfl, hp, own, gr⟩ := hrel
        by_cases hj0 : j = 0
        · subst hj0
          rw [posR] at hp
          have own3 : OwnI wr base (.slice (some ⟨g, 0, none⟩) n cap) (rowR (ordR ls hs (i + 1)) n) := by rw [OS.out, hp]; exact own
          have O3 := Lib.hid own3
          clear hp own own3
          go_wp2_with fail
          go_quiet (fail)
          go_wp2
          go_roundw
          case rel => exact ⟨i + 1, by omega, .inl (by omega), by go_num, O3.out, grown_drewN gr _⟩
          case measure => simp [intOf]; omega
        · obtain ⟨j, rfl⟩ : ∃ j', j = j' + 1 := ⟨j - 1, by omega⟩
          have hob := OB.out j (by omega)
          obtain ⟨oo, ho⟩ : ∃ oo : Nat, f j = oo := ⟨(f j).toNat, by omega⟩
          have hl := less_cmp ls hs i oo
          rw [posR, ho] at hp
          have c1 := own.cellN (rowR_len _ _) (k := j + 1) (by omega)
          have c2 := own.cellN (rowR_len _ _) (k := j) (by omega)
          rw [rowR_get _ (by omega), putR_at] at c1
          rw [rowR_get _ (by omega), putR_lo f (by omega), ho] at c2
          have f1 := own.frozenN (rowR_len _ _) (j + 1)
          have f2 := own.frozenN (rowR_len _ _) j
          have hgw := (own.lt g rfl).2
          have rb := H.out.far (below_of_grown gr (Nat.le_trans hB gB2) (by first | exact HW.out.resolve_left (by omega) | omega))
          have af := fun m => clos_c (wr.drewN m) ⟨rb.p2, rb.p3, rb.r2, rb.r3, rb.l2, rb.l3⟩ HG.out i oo (by have := HN.out; omega) (by have := HN.out; omega)
          generalize cmpI (ls.getD oo 0 * hs.getD i 0) (ls.getD i 0 * hs.getD oo 0) = z at *
          have W2 : IntKind.i64.wrap (j : Int) = (j : Int) := IntWalk.i64_in _ (by omega)
          have j2 : (0 : Int) ≤ (j : Int) + 1 := by omega
          have j0 : (0 : Int) ≤ j := by omega
          have jn : (j : Int) < (n : Int) := by omega
          have j1n : (j : Int) + 1 < (n : Int) := by omega
          have j10 : (0 : Int) < (j : Int) + 1 := by omega
          have hgt : decide ((0 : Int) < (j : Int) + 1) = true := decide_eq_true j10
          have AF := Lib.hid af
          have HO := Lib.hid ho
          clear af rb ho hob
          cases less : lessR ls hs i oo
          · rw [less] at hl
            rw [if_neg (by rw [less]; decide)] at hp
            have own3 : OwnI wr base (.slice (some ⟨g, 0, none⟩) n cap) (rowR (ordR ls hs (i + 1)) n) := by rw [OS.out, hp]; exact own
            have O3 := Lib.hid own3
            clear hp own own3 less
            go_wp2_with fail
            go_quiet ((go_at_call 64; exact (AF.out _).mono fun _ _ hh => ⟨hh.1, drewN_trans hh.2⟩))
            go_wp2
            go_roundw
            case rel => exact ⟨i + 1, by omega, .inl (by omega), by go_num, O3.out, grown_drewN gr _⟩
            case measure => simp [intOf]; omega
          · rw [less] at hl
            rw [if_pos less] at hp
            have HP := Lib.hid hp
            have O3 := Lib.hid own
            clear hp own less
            go_wp2_with fail
            go_quiet ((go_at_call 64; exact (AF.out _).mono fun _ _ hh => ⟨hh.1, drewN_trans hh.2⟩))
            have c3 : (wr.drewN nq).cell? ⟨g, j + 1, none⟩ = some (.int .i64 i) := c1
            have c4 : (wr.drewN nq).cell? ⟨g, j, none⟩ = some (.int .i64 oo) := c2
            have f3 : (wr.drewN nq).frozen? ⟨g, j + 1, none⟩ = false := f1
            have f4 : (wr.drewN nq).frozen? ⟨g, j, none⟩ = false := f2
            have own4 : OwnI (wr.drewN nq) base (.slice (some ⟨g, 0, none⟩) n cap) (rowR (putR f i (j + 1)) n) := O3.out
            have gr4 := grown_drewN gr nq
            have OW4 := Lib.hid own4
            clear c1 c2 f1 f2 own4 O3 gr AF hl hgt
            generalize wr.drewN nq = w4 at *
            go_upto_region 6 with (fail)
            go_big_region
            clear c3 c4 f3 f4
            have s1 := OW4.out.storedN (rowR_len _ _) (j + 1) (oo : Int)
            have s2 := s1.1.storedN (by rw [List.length_set, rowR_len]) j (i : Int)
            have sw := rowR_swap f (i := i) (j := j) (n := n) hj
            rw [HO.out] at sw
            have g5 := grown_drew' (grown_trans (grown_trans gr4 s1.2) s2.2)
            have o5 : OwnI ((w4.setCell ⟨g, j + 1, none⟩ (.int .i64 oo)).setCell ⟨g, j, none⟩ (.int .i64 i)).drew base (.slice (some ⟨g, 0, none⟩) n cap) (rowR (putR f i j) n) := by rw [← sw]; exact s2.1
            have O5 := Lib.hid o5
            clear s1 s2 sw o5 OW4
            go_wp2
            go_roundw
            case rel => exact ⟨j, by omega, by go_num, HP.out, O5.out, g5⟩
            case measure => simp [intOf]
    · have own2 : OwnI wr base (.slice (some ⟨g, 0, none⟩) n cap) (rowR (ordR ls hs n) n) := by
        by_cases e : n = i
        · rw [e] at own ⊢; exact own
        · have e0 : n = 0 := by omega
          subst e0
          exact own
      have O2 := Lib.hid own2
      clear own own2
      go_wp2
      go_returns
      exact ⟨rfl, O2.out, gr⟩
set_option maxHeartbeats 1000000 in
theorem stable_c {b2 b3 B : Nat} {A A' : Option Addr} {c c' : Nat} {ls hs : List Int} (g base n cap : Nat) (w : World) (h : RepB w b2 b3 B A A' c c' ls hs) (hg : repG ls hs = true) (hn : n = ls.length) (hB : B ≤ base) (o : OwnI w base (.slice (some ⟨g, 0, none⟩) n cap) (rowR (ordR ls hs 0) n)) :
    Calls Try.prog 71 #[.slice (some ⟨g, 0, none⟩) n cap, .int .i64 n, .func (.func 64) #[] #[.pointer (some ⟨b2, 0, none⟩), .pointer (some ⟨b3, 0, none⟩)]] w fun e w' => e = .returned (.tuple #[]) ∧ OwnI w' base (.slice (some ⟨g, 0, none⟩) n cap) (rowR (ordR ls hs n) n) ∧ w.grownBy w' (some g) := by
  have hn10 : n ≤ 10 := by rw [hn]; exact (repG_out hg).1
  have h20 : ¬ (20 : Int) ≤ (n : Int) := by omega
  have h20' : ¬ (20 : Int) < (n : Int) := by omega
  have ins := insort_c g base n cap w h hg hn hB o
  have INS := Lib.hid ins
  clear h hg hn hB o ins
  go_enter Try.func71, Try.ntmps71
  go_wp2
  go_loopw [7, 8] (fun av bv wr => av = .int .i64 0 ∧ bv = .int .i64 20 ∧ wr = w) (fun _ _ _ => 0)
  case atStart => exact ⟨rfl, rfl, rfl⟩
  case round =>
    obtain ⟨rfl, rfl, rfl⟩ := hrel
    go_wp2_with fail
    go_at_call 74
    refine INS.out.mono ?_
    rintro e w1 ⟨rfl, o1, g1⟩
    have O1 := Lib.hid o1
    clear o1 INS
    go_wp2
    go_loopw [6, 7, 8, 9] (fun bs _ _ _ wr => bs = .int .i64 20 ∧ wr = w1) (fun _ _ _ _ _ => 0)
    case atStart => exact ⟨rfl, rfl⟩
    case round =>
      obtain ⟨rfl, rfl⟩ := hrel
      go_wp2
      go_returns
      exact ⟨rfl, O1.out, g1⟩
theorem sortStable_c {b2 b3 B : Nat} {A A' : Option Addr} {c c' : Nat} {ls hs : List Int} (g base n cap : Nat) (w : World) (h : RepB w b2 b3 B A A' c c' ls hs) (hg : repG ls hs = true) (hn : n = ls.length) (hB : B ≤ base) (o : OwnI w base (.slice (some ⟨g, 0, none⟩) n cap) (rowR (ordR ls hs 0) n)) :
    Calls Try.prog 63 #[.slice (some ⟨g, 0, none⟩) n cap, .func (.func 64) #[] #[.pointer (some ⟨b2, 0, none⟩), .pointer (some ⟨b3, 0, none⟩)]] w fun e w' => e = .returned (.tuple #[]) ∧ OwnI w' base (.slice (some ⟨g, 0, none⟩) n cap) (rowR (ordR ls hs n) n) ∧ w.grownBy w' (some g) := by
  have ins := stable_c g base n cap w h hg hn hB o
  have INS := Lib.hid ins
  clear h hg hn hB o ins
  go_enter Try.func63, Try.ntmps63
  go_wp2_with fail
  go_at_call 71
  refine INS.out.mono ?_
  rintro e w1 ⟨rfl, o1, g1⟩
  have O1 := Lib.hid o1
  clear o1 INS
  go_wp2
  go_returns
  exact ⟨rfl, O1.out, g1⟩
end Go.Proofs.Ytdkhiedgikjnkaa
