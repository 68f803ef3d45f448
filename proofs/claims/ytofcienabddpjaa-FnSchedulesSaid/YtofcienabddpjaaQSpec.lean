/- Contracts: the table of costs, the reference. -/
import Derived.Test.YtofcienabddpjaaQTab
import Derived.Test.YtofcienabddpjaaQSched
import Derived.Test.YtofcienabddpjaaSSpec
namespace Go.Proofs.Ytofcienabddpjaa
open Go.RowKit

/-- A row of a table of slices: m numbers in a block of their own. -/
def RowS (W : World) (B T i : Nat) (f : Nat → Int) (m : Nat) : Prop :=
  ∃ b off c, W.cell? ⟨T, i, none⟩ = some (.slice (some ⟨b, off, none⟩) m c) ∧ b ≠ T ∧ b < B ∧ ∀ l, l < m → W.cell? ⟨b, off + l, none⟩ = some (.int .i64 (f l))
/-- A table of n + 1 slices, whose rows from lo on are whole. -/
structure TabS (W : World) (B T n lo : Nat) (f : Nat → Nat → Int) (m : Nat) : Prop where
  lt : T < B
  size : B ≤ W.heap.size
  slot : ∀ i, i ≤ n → ∃ v, W.cell? ⟨T, i, none⟩ = some v
  free : ∀ i, i ≤ n → W.frozen? ⟨T, i, none⟩ = false
  rows : ∀ i, lo ≤ i → i ≤ n → RowS W B T i (f i) m
section
variable {W W' : World} {B T n lo m : Nat} {f : Nat → Nat → Int}
theorem TabS.below (h : TabS W B T n lo f m) (hb : Below B W W') : TabS W' B T n lo f m where
  lt := h.lt
  size := Nat.le_trans h.size hb.size
  slot i hi := by rw [hb.cell (by exact h.lt)]; exact h.slot i hi
  free i hi := by rw [World.frozen?_of_block (hb.block T h.lt)]; exact h.free i hi
  rows i h1 h2 := by
    obtain ⟨b, off, c, e, hne, hlt, hr⟩ := h.rows i h1 h2
    exact ⟨b, off, c, by rw [hb.cell (by exact h.lt)]; exact e, hne, hlt, fun l hl => by rw [hb.cell (by exact hlt)]; exact hr l hl⟩
theorem TabS.drew (h : TabS W B T n lo f m) : TabS W.drew B T n lo f m := ⟨h.lt, h.size, h.slot, h.free, h.rows⟩
theorem TabS.put (h : TabS W B T n (lo + 1) f m) (hi : lo ≤ n) {b off c : Nat} (hne : b ≠ T) (hb : b < W.heap.size) (hr : ∀ l, l < m → W.cell? ⟨b, off + l, none⟩ = some (.int .i64 (f lo l))) : TabS (W.setCell ⟨T, lo, none⟩ (.slice (some ⟨b, off, none⟩) m c)) W.heap.size T n lo f m where
  lt := Nat.lt_of_lt_of_le h.lt h.size
  size := by rw [World.size_setCell]; exact Nat.le_refl _
  slot i hi' := by
    obtain ⟨v, hv⟩ := h.slot i hi'
    by_cases e : i = lo
    · subst e; exact ⟨.slice (some ⟨b, off, none⟩) m c, by simp [hv, go_sem]⟩
    · have ne : (⟨T, lo, none⟩ : Addr) ≠ ⟨T, i, none⟩ := fun q => e (congrArg Addr.off q).symm
      exact ⟨v, by rw [World.cell?_setCell_other (h := ne)]; exact hv⟩
  free i hi' := by simpa [go_sem] using h.free i hi'
  rows i h1 h2 := by
    by_cases e : i = lo
    · subst e
      obtain ⟨v, hv⟩ := h.slot i h2
      refine ⟨b, off, c, by simp [hv, go_sem], hne, hb, fun l hl => ?_⟩
      have ne : (⟨T, i, none⟩ : Addr) ≠ ⟨b, off + l, none⟩ := fun q => hne (congrArg Addr.block q).symm
      rw [World.cell?_setCell_other (h := ne)]
      exact hr l hl
    · obtain ⟨b', off', c', e', hne', hlt', hr'⟩ := h.rows i (by omega) h2
      have ne : (⟨T, lo, none⟩ : Addr) ≠ ⟨T, i, none⟩ := fun q => e (congrArg Addr.off q).symm
      refine ⟨b', off', c', by rw [World.cell?_setCell_other (h := ne)]; exact e', hne', Nat.lt_of_lt_of_le hlt' h.size, fun l hl => ?_⟩
      have ne2 : (⟨T, lo, none⟩ : Addr) ≠ ⟨b', off' + l, none⟩ := fun q => hne' (congrArg Addr.block q).symm
      rw [World.cell?_setCell_other (h := ne2)]
      exact hr' l hl
theorem TabS.new (w : World) (n lo m : Nat) (f : Nat → Nat → Int) (t : TypeId) (h : n < lo) : TabS (w.alloc (.cells (madeCells #[.slice none 0 0] (n + 1)) t)) (w.heap.size + 1) w.heap.size n lo f m where
  lt := Nat.lt_succ_self _
  size := by rw [World.size_alloc]; exact Nat.le_refl _
  slot i hi := by
    rw [World.cell?_alloc_new]
    exact ⟨_, Array.getElem?_eq_getElem (by rw [size_madeCells]; omega)⟩
  free i hi := by simp [go_sem]
  rows i h1 h2 := absurd h1 (by omega)
end
theorem below_alloc {B : Nat} {w : World} (h : B ≤ w.heap.size) (o : Obj) : Below B w (w.alloc o) := (Below.refl B w).alloc h o
/-- The running best of a level, and where it ends. -/
def rowV (E M P L : Int) (xs ys : List Int) (n : Nat) : Nat → Int → Nat → Int
  | 0, l, _ => tabV E M P L xs ys n 0 l
  | r + 1, l, k => if E ≤ l then bstV (tabV E M P L xs ys n r) E M (xs.getD (n - (r + 1)) 0) (ys.getD (n - (r + 1)) 0) l k else -1
theorem rowV_end (E M P L : Int) (xs ys : List Int) (n r : Nat) (l : Int) : rowV E M P L xs ys n r l (P.toNat + 1) = tabV E M P L xs ys n r l := by
  cases r <;> rfl
set_option maxRecDepth 100000 in
set_option maxHeartbeats 1000000 in
theorem l13Table_c {B B' : Nat} (L E M P : Int) (A A' : Option Addr) (c c' : Nat) (xs ys : List Int) (w : World) (h : RdI w B A xs) (h' : RdI w B' A' ys) (hS1 : B ≤ w.heap.size) (hS2 : B' ≤ w.heap.size) (g : goodPm L E M P xs ys = true) :
    Calls Try.prog 48 #[.agg #[.int .i64 L, .int .i64 E, .int .i64 M, .int .i64 P, .slice A xs.length c, .slice A' ys.length c']] w fun e w' => ∃ (T : Nat) (B : Nat), e = .returned (.slice (some ⟨T, 0, none⟩) (ys.length + 1) (ys.length + 1)) ∧ TabS w' B T ys.length 0 (fun i l => tabV E M P L xs ys ys.length (ys.length - i) l) (M.toNat + 1) ∧ Below w.heap.size w w' := by
  have nb := NumB.of g
  obtain ⟨e0, el, lm, m1, g0, g1, n1, n2, hxl, hxs, hys⟩ := id nb
  obtain ⟨e, rfl⟩ := Int.eq_ofNat_of_zero_le e0
  obtain ⟨m, rfl⟩ := Int.eq_ofNat_of_zero_le (show 0 ≤ M by omega)
  rw [hxl, Int.toNat_natCast]
  have H1 := Lib.hid h
  have H2 := Lib.hid h'
  have NX := Lib.hid hxl
  have NB := Lib.hid nb
  have HX := Lib.hid hxs
  have HY := Lib.hid hys
  have W0 : IntKind.i64.wrap ((ys.length : Int) + 1) = (ys.length : Int) + 1 := IntWalk.i64_in _ (by omega)
  clear h h' nb g hxl hxs hys
  have hmk := run_make_row' (P := Try.prog) 68 26 (.slice none 0 0) 24 Try.underlying68 (by kernel_rfl) rfl .i64 .i64 (ys.length + 1) (by omega) (by omega)
  rw [Int.natCast_succ] at hmk
  go_enter Try.func48, Try.ntmps48
  go_wp2
  obtain ⟨w0, hw0⟩ : ∃ w0, w0 = ((w.alloc (.cells #[.int .i64 L, .int .i64 e, .int .i64 m, .int .i64 P, .slice A ys.length c, .slice A' ys.length c'] 28)).alloc (.cells (madeCells #[.slice none 0 0] (ys.length + 1)) 26)) := ⟨_, rfl⟩
  have P0 : PB w0 w.heap.size L e m P (.slice A ys.length c) (.slice A' ys.length c') := by rw [hw0]; exact (PB.new w L e m P _ _).alloc _
  have T0 : TabS w0 (w.heap.size + 1 + 1) (w.heap.size + 1) ys.length (ys.length + 1) (fun i l => tabV e m P L xs ys ys.length (ys.length - i) l) (m + 1) := by
    rw [hw0]
    have := TabS.new (w.alloc (.cells #[.int .i64 L, .int .i64 e, .int .i64 m, .int .i64 P, .slice A ys.length c, .slice A' ys.length c'] 28)) ys.length (ys.length + 1) (m + 1) (fun i l => tabV e m P L xs ys ys.length (ys.length - i) l) 26 (by omega)
    rw [World.size_alloc] at this
    exact this
  have B0 : Below w.heap.size w w0 := by rw [hw0]; (repeat' (first | (with_reducible exact Below.refl _ _) | (with_reducible assumption) | (with_reducible refine below_drewN ?_ _) | (with_reducible refine Below.alloc ?_ ?_ _) | (with_reducible refine Below.drew ?_) | (with_reducible refine Below.setCell ?_ ?_ _) | go_size))
  have K0 := Lib.hid (And.intro P0 (And.intro T0 B0))
  rw [← hw0]
  clear hw0 P0 T0 B0 hmk
  go_loopw [5, 6, 7, 8, 9, 10, 11, 12] (fun hr _ _ _ _ _ _ _ wr => ∃ r B0 : Nat, r ≤ ys.length + 1 ∧ hr = .int .i64 ((ys.length : Int) - r) ∧ PB wr w.heap.size L e m P (.slice A ys.length c) (.slice A' ys.length c') ∧ TabS wr B0 (w.heap.size + 1) ys.length (ys.length + 1 - r) (fun i l => tabV e m P L xs ys ys.length (ys.length - i) l) (m + 1) ∧ Below w.heap.size w wr) (fun hr _ _ _ _ _ _ _ _ => (intOf hr + 1).toNat)
  case atStart => exact ⟨0, _, by omega, by simp, K0.out.1, K0.out.2.1, K0.out.2.2⟩
  case round =>
    clear K0
    obtain ⟨r, B0, hr, rfl, PX, TX, BX⟩ := hrel
    by_cases hle : r ≤ ys.length
    · obtain ⟨h, hh1, hh2⟩ : ∃ h, ys.length ≤ h + r ∧ h + r ≤ ys.length := ⟨ys.length - r, by omega, by omega⟩
      have hv : (ys.length : Int) - r = h := by omega
      have hlo : ys.length + 1 - r = h + 1 := by omega
      rw [hv]
      rw [hlo] at TX
      clear hv hlo
      have W1 : IntKind.i64.wrap ((h : Int) - 1) = (h : Int) - 1 := IntWalk.i64_in _ (by omega)
      have W2 : IntKind.i64.wrap ((h : Int) + 1) = (h : Int) + 1 := IntWalk.i64_in _ (by omega)
      have h0 : (0 : Int) ≤ h := by omega
      have hB2 : w.heap.size + 1 < B0 := TX.lt
      have hB3 : B0 ≤ wr.heap.size := TX.size
      obtain ⟨b1, hb1⟩ : ∃ b1, b1 = wr.heap.size := ⟨_, rfl⟩
      have O1 : OwnI (wr.alloc (.cells #[] 3)) b1 (.slice (some ⟨wr.heap.size, 0, none⟩) 0 0) [] := own_empty wr b1 (by omega)
      have P1 := PX.alloc (.cells #[] 3)
      have T1 := TX.below (below_alloc hB3 (.cells #[] 3))
      have B1 := BX.alloc (by omega) (.cells #[] 3)
      have Z1 : b1 ≤ (wr.alloc (.cells #[] 3)).heap.size := by rw [World.size_alloc]; omega
      have K1 := Lib.hid (And.intro O1 (And.intro P1 (And.intro T1 (And.intro B1 Z1))))
      have hB4 : B0 ≤ b1 := by omega
      clear O1 P1 T1 B1 PX TX BX Z1
      go_wp2
      clear hb1
      go_loopw [6, 7, 8, 9, 10, 11, 12] (fun o lv _ _ _ _ _ wr => ∃ l : Nat, l ≤ m + 1 ∧ lv = .int .i64 l ∧ OwnI wr b1 o (mapK (fun j => tabV e m P L xs ys ys.length r j) l) ∧ PB wr w.heap.size L e m P (.slice A ys.length c) (.slice A' ys.length c') ∧ TabS wr B0 (w.heap.size + 1) ys.length (h + 1) (fun i l => tabV e m P L xs ys ys.length (ys.length - i) l) (m + 1) ∧ Below w.heap.size w wr ∧ b1 ≤ wr.heap.size) (fun _ lv _ _ _ _ _ _ => m + 1 - (intOf lv).toNat)
      case atStart => exact ⟨0, by omega, rfl, K1.out.1, K1.out.2.1, K1.out.2.2.1, K1.out.2.2.2.1, K1.out.2.2.2.2⟩
      case round =>
        clear K1
        obtain ⟨l, hlm, rfl, own, PX, TX, BX, hZ⟩ := hrel
        by_cases hl : l ≤ m
        · have hl' : (l : Int) ≤ (m : Int) := by omega
          have OWN := Lib.hid own
          clear own
          obtain ⟨p0, p1, p2, p3, p4, p5⟩ := id PX
          have W3 : IntKind.i64.wrap ((l : Int) + 1) = (l : Int) + 1 := IntWalk.i64_in _ (by omega)
          go_upto_region 11 with (fail)
          obtain ⟨tb, htb⟩ : ∃ tb, tb = decide (r = 0 ∧ L ≤ l) := ⟨_, rfl⟩
          have HTB := Lib.hid htb
          clear htb
          go_cut [41] (fun b wx => b = .bool tb ∧ wx = wr)
          case first =>
            by_cases hr0 : r = 0
            · subst hr0
              obtain rfl : h = ys.length := by omega
              have hee : ((ys.length : Int) == (ys.length : Int)) = true := by simp
              by_cases hL : L ≤ l
              all_goals
                go_wp2
                go_meet
                exact ⟨by rw [HTB.out]; simp [hL]; try omega, rfl⟩
            · have hne : ((h : Int) == (ys.length : Int)) = false := by simp; omega
              go_wp2
              go_meet
              exact ⟨by rw [HTB.out]; simp [hr0], rfl⟩
          case rest =>
          obtain ⟨rfl, rfl⟩ := hcut
          go_upto_if 41 with (fail)
          go_cut [8] (fun b wx => b = .int .i64 (rowV e m P L xs ys ys.length r l 0) ∧ wx = wc)
          case first =>
            have hrow : rowV e m P L xs ys ys.length r l 0 = if tb = true then 0 else -1 := by
              rw [HTB.out]
              cases r with
              | zero => simp [rowV, tabV]
              | succ r' => simp [rowV, bstV]
            have HROW := Lib.hid hrow
            clear hrow HTB
            cases tb
            all_goals
              go_wp2
              go_meet
              exact ⟨by rw [HROW.out]; rfl, rfl⟩
          case rest =>
            obtain ⟨rfl, rfl⟩ := hcut
            clear HTB
            have KX := Lib.hid (And.intro PX (And.intro TX BX))
            clear PX TX BX
            go_wp2
            go_loopw [8, 9, 10, 11, 12] (fun bv kv _ _ _ wr => ∃ k : Nat, (k : Int) ≤ P + 1 ∧ kv = .int .i64 k ∧ bv = .int .i64 (rowV e m P L xs ys ys.length r l k) ∧ OwnI wr b1 u6 (mapK (fun j => tabV e m P L xs ys ys.length r j) l) ∧ PB wr w.heap.size L e m P (.slice A ys.length c) (.slice A' ys.length c') ∧ TabS wr B0 (w.heap.size + 1) ys.length (h + 1) (fun i l => tabV e m P L xs ys ys.length (ys.length - i) l) (m + 1) ∧ Below w.heap.size w wr ∧ b1 ≤ wr.heap.size) (fun _ kv _ _ _ _ => (P + 1 - intOf kv).toNat)
            case atStart => exact ⟨0, by omega, rfl, rfl, OWN.out, KX.out.1, KX.out.2.1, KX.out.2.2, hZ⟩
            case round =>
              clear KX OWN p0 p1 p2 p3 p4 p5
              obtain ⟨k, hkP, rfl, rfl, own, PX, TX, BX, hZ2⟩ := hrel
              have OW := Lib.hid own
              clear own
              obtain ⟨p0, p1, p2, p3, p4, p5⟩ := id PX
              by_cases hin : (k : Int) ≤ P ∧ ¬ r = 0 ∧ (e : Int) ≤ l
              · obtain ⟨hk, hr0, hel⟩ := hin
                obtain ⟨r', rfl⟩ : ∃ r', r = r' + 1 := ⟨r - 1, by omega⟩
                have hlt : (h : Int) < (ys.length : Int) := by omega
                have W5 : IntKind.i64.wrap ((k : Int) + 1) = (k : Int) + 1 := IntWalk.i64_in _ (by omega)
                obtain ⟨x, hx⟩ : ∃ x, x = xs.getD h 0 := ⟨_, rfl⟩
                obtain ⟨u, hu⟩ : ∃ u, u = ys.getD h 0 := ⟨_, rfl⟩
                have hxb := HX.out h (by omega)
                have hub := HY.out h (by omega)
                rw [← hx] at hxb
                rw [← hu] at hub
                have hh : HourB e m l k u := ⟨by omega, by omega, by omega, by omega, by omega, by omega, by omega, by omega, by omega, by omega⟩
                have e1 : ys.length - (r' + 1) = h := by omega
                have row : rowV e m P L xs ys ys.length (r' + 1) l k = bstV (tabV e m P L xs ys ys.length r') e m x u l k := by rw [rowV, if_pos hel, e1, ← hx, ← hu]
                have rown : rowV e m P L xs ys ys.length (r' + 1) l ((k + 1 : Nat) : Int).toNat = bstV (tabV e m P L xs ys ys.length r') e m x u l (k + 1) := by rw [Int.toNat_natCast, rowV, if_pos hel, e1, ← hx, ← hu]
                rw [Int.toNat_natCast] at rown
                have nxt := l13Next_c L e m P l k u h A A' c c' ys ys wr (H2.out.below (BX.mono hS2)) (Nat.le_trans hS2 BX.size) (by omega) hu hh
                rw [show decide (spT m l k + msT e m l k u = 0) = okV e m l k u from rfl] at nxt
                rw [row]
                have HXX := Lib.hid hx
                clear row e1 hh hu hx
                cases ok : okV e m l k u
                · rw [ok] at nxt
                  rw [bstV_no (.inl ok)] at rown
                  have NXT := Lib.hid nxt
                  have RN := Lib.hid rown
                  clear nxt rown ok
                  generalize bstV (tabV e m P L xs ys ys.length r') e m x u l k = bb at *
                  go_wp2_with fail
                  go_at_call 66
                  with_reducible refine NXT.out.mono ?_
                  rintro e' w2 ⟨rfl, hb2⟩
                  have PX2 := PX.below hb2
                  have TX2 := TX.below (hb2.mono TX.size)
                  have BX2 := BX.trans (hb2.mono BX.size)
                  have OW2 := Lib.hid (OW.out.below hb2)
                  have hZ3 := Nat.le_trans hZ2 hb2.size
                  clear p0 p1 p2 p3 p4 p5 hb2 PX TX BX OW
                  go_wp2
                  go_roundw
                  case rel => exact ⟨k + 1, by omega, by go_num, by rw [RN.out], OW2.out, PX2, TX2, BX2, hZ3⟩
                  case measure => simp [intOf]; omega
                · rw [ok] at nxt
                  have o := (okV_iff e m l k u).1 ok
                  have en := okV_next ok
                  obtain ⟨z, hz⟩ : ∃ z : Nat, (l : Int) + k - u = z := ⟨((l : Int) + k - u).toNat, by omega⟩
                  rw [en, hz] at nxt
                  have hzm : z < m + 1 := by omega
                  obtain ⟨b3, o3, c3, q1, q2, q3, q4⟩ := TX.rows (h + 1) (by omega) (by omega)
                  have q5 : wr.cell? ⟨b3, o3 + z, none⟩ = some (.int .i64 (tabV e m P L xs ys ys.length (ys.length - (h + 1)) z)) := q4 z hzm
                  rw [show ys.length - (h + 1) = r' by omega] at q5
                  have tb := tabV_b (E := e) (M := m) (L := L) (ys := ys) (xs := xs) (P := P) g1 HX.out r' (by omega) z
                  have bbb := bstV_b (g := tabV e m P L xs ys ys.length r') (E := e) (M := m) (u := u) (l := l) (B := 1000 * r') hxb.1 hxb.2 (fun y => (tabV_b (E := e) (M := m) (L := L) (ys := ys) (xs := xs) (P := P) g1 HX.out r' (by omega) y).2) (by omega) k (by omega)
                  have mm := mulB hxb.1 hxb.2 (show (0 : Int) ≤ k by omega) (show (k : Int) ≤ 10 by omega)
                  have s1 : tabV e m P L xs ys ys.length r' z < 0 → rowV e m P L xs ys ys.length (r' + 1) l (k + 1) = bstV (tabV e m P L xs ys ys.length r') e m x u l k := fun q => by rw [rown]; exact bstV_no (.inr (by rw [en, hz]; exact q))
                  have s2 : 0 ≤ tabV e m P L xs ys ys.length r' z → (bstV (tabV e m P L xs ys ys.length r') e m x u l k < 0 ∨ x * k + tabV e m P L xs ys ys.length r' z < bstV (tabV e m P L xs ys ys.length r') e m x u l k) → rowV e m P L xs ys ys.length (r' + 1) l (k + 1) = x * k + tabV e m P L xs ys ys.length r' z := fun q q' => by
                    have := bstV_new (g := tabV e m P L xs ys ys.length r') (E := e) (M := m) (x := x) (u := u) (l := l) (k := k) ok
                    rw [en, hz] at this
                    rw [rown]
                    exact this q q'
                  have s3 : ¬ (bstV (tabV e m P L xs ys ys.length r') e m x u l k < 0 ∨ x * k + tabV e m P L xs ys ys.length r' z < bstV (tabV e m P L xs ys ys.length r') e m x u l k) → rowV e m P L xs ys ys.length (r' + 1) l (k + 1) = bstV (tabV e m P L xs ys ys.length r') e m x u l k := fun q => by
                    have := bstV_old (g := tabV e m P L xs ys ys.length r') (E := e) (M := m) (x := x) (u := u) (l := l) (k := k)
                    rw [en, hz] at this
                    rw [rown]
                    exact this q
                  have NXT := Lib.hid nxt
                  have S1 := Lib.hid s1
                  have S2 := Lib.hid s2
                  have S3 := Lib.hid s3
                  have q6 : b3 < wr.heap.size := Nat.lt_of_lt_of_le q3 TX.size
                  clear nxt rown ok o en hz s1 s2 s3 q4
                  generalize bstV (tabV e m P L xs ys ys.length r') e m x u l k = bb at *
                  generalize tabV e m P L xs ys ys.length r' z = y at *
                  have W6 : IntKind.i64.wrap (x * k) = x * k := IntWalk.i64_in _ (by omega)
                  have W7 : IntKind.i64.wrap (x * k + y) = x * k + y := IntWalk.i64_in _ (by omega)
                  have z0 : (0 : Int) ≤ z := by omega
                  have zm : (z : Int) < (m : Int) + 1 := by omega
                  have hp0 : (0 : Int) ≤ (h : Int) + 1 := by omega
                  have hpn : (h : Int) + 1 < (ys.length : Int) + 1 := by omega
                  have RX := H1.out.below (BX.mono hS1)
                  have RA : RdI wr B A xs := RX
                  obtain ⟨b4, o4, x', rfl, hx', hb4, hcx⟩ := RA.at_ (k := h) (by have := NX.out; omega)
                  obtain rfl := hx'.trans HXX.out.symm
                  clear hx' RX RA HXX
                  go_wp2_with fail
                  go_at_call 66
                  with_reducible refine NXT.out.mono ?_
                  rintro e' w2 ⟨rfl, hb2⟩
                  have PX2 := PX.below hb2
                  have TX2 := TX.below (hb2.mono TX.size)
                  have BX2 := BX.trans (hb2.mono BX.size)
                  have OW2 := Lib.hid (OW.out.below hb2)
                  have hZ3 := Nat.le_trans hZ2 hb2.size
                  have c3' := (hb2.cell (p := ⟨w.heap.size + 1, h + 1, none⟩) (Nat.lt_of_lt_of_le TX.lt TX.size)).trans q1
                  have c4' := (hb2.cell (p := ⟨b3, o3 + z, none⟩) q6).trans q5
                  have c5' := (hb2.cell (p := ⟨b4, o4 + h, none⟩) (by show b4 < _; have := BX.size; omega)).trans hcx
                  clear p0 p1 p2 p3 p4 p5 hb2 PX TX BX OW q1 q5 hcx
                  obtain ⟨p0, p1, p2, p3, p4, p5⟩ := id PX2
                  by_cases hy0 : y < 0
                  · go_wp2
                    go_roundw
                    case rel => exact ⟨k + 1, by omega, by go_num, by rw [S1.out hy0], OW2.out, PX2, TX2, BX2, hZ3⟩
                    case measure => simp [intOf]; omega
                  · go_upto_region 18 with (fail)
                    go_big_region
                    clear c3' c4' c5' p0 p1 p2 p3 p4 p5
                    by_cases hb0 : bb < 0
                    · go_wp2
                      go_roundw
                      case rel => exact ⟨k + 1, by omega, by go_num, by rw [S2.out (by omega) (.inl hb0)], OW2.out, PX2.drew, TX2.drew, below_drew BX2, hZ3⟩
                      case measure => simp [intOf]; omega
                    · by_cases hb1 : x' * (k : Int) + y < bb
                      · go_wp2
                        go_roundw
                        case rel => exact ⟨k + 1, by omega, by go_num, by rw [S2.out (by omega) (.inr hb1)], OW2.out, PX2.drew, TX2.drew, below_drew BX2, hZ3⟩
                        case measure => simp [intOf]; omega
                      · go_wp2
                        go_roundw
                        case rel => exact ⟨k + 1, by omega, by go_num, by rw [S3.out (fun q => q.elim hb0 hb1)], OW2.out, PX2.drew, TX2.drew, below_drew BX2, hZ3⟩
                        case measure => simp [intOf]; omega
              · have fin : rowV e m P L xs ys ys.length r l k = tabV e m P L xs ys ys.length r l := by
                  by_cases a : (k : Int) ≤ P
                  · by_cases b : r = 0
                    · subst b; rfl
                    · obtain ⟨r', rfl⟩ : ∃ r', r = r' + 1 := ⟨r - 1, by omega⟩
                      have c : ¬ (e : Int) ≤ l := fun q => hin ⟨a, b, q⟩
                      rw [rowV, tabV, if_neg c, if_neg c]
                  · rw [show k = P.toNat + 1 by omega, rowV_end]
                rw [fin]
                clear fin
                have hlen : (mapK (fun j => tabV e m P L xs ys ys.length r j) l).length = l := mapK_len _ _
                have c3 : (¬ (k : Int) ≤ P) ∨ ((k : Int) ≤ P ∧ ¬ (h : Int) < (ys.length : Int)) ∨ ((k : Int) ≤ P ∧ (h : Int) < (ys.length : Int) ∧ ¬ (e : Int) ≤ l) := by omega
                clear hin
                rcases c3 with a | ⟨a, b⟩ | ⟨a, b, d⟩
                all_goals
                  go_wp2_with (at_builtin; refine wpList_appI rfl (.tmp 105) (.tmp 107) rfl b1 _ _ _ rfl OW.out rfl (by rw [mapK_len]; omega) hZ2 ?_; intro v2 w2 o2 hb2; have z2 := hb2.size; have PX2 := Lib.hid (PX.ofBlock (hb2.block _ (show w.heap.size < b1 by omega))); have TX2 := Lib.hid (TX.below (hb2.mono hB4)); have BX2 := Lib.hid (BX.trans (hb2.mono (by omega))); have O2 := Lib.hid o2; clear PX TX BX OW p0 p1 p2 p3 p4 p5 o2 hb2)
                  go_roundw
                  case rel => exact ⟨l + 1, by omega, by go_num, O2.out, PX2.out, TX2.out, BX2.out, by omega⟩
                  case measure => simp [intOf]; omega
        · obtain rfl : l = m + 1 := by omega
          obtain ⟨gb, cap, hv, hg1, hg2⟩ := own.head (by rw [mapK_len]; omega)
          rw [hv] at own
          have hr : ∀ l, l < m + 1 → wr.cell? ⟨gb, 0 + l, none⟩ = some (.int .i64 (tabV e m P L xs ys ys.length (ys.length - h) l)) := fun l hl => by
            rw [Nat.zero_add, own.cellAt (by rw [mapK_len]; omega), mapK_get _ hl, show ys.length - h = r by omega]
          rw [mapK_len] at hv
          subst hv
          have T3 := TX.put (lo := h) (by omega) (b := gb) (off := 0) (c := cap) (by omega) hg2 hr
          have P3 := PX.set (a := ⟨w.heap.size + 1, h, none⟩) (by simp) (.slice (some ⟨gb, 0, none⟩) (m + 1) cap)
          have B3 := BX.setCell (p := ⟨w.heap.size + 1, h, none⟩) (by simp) (.slice (some ⟨gb, 0, none⟩) (m + 1) cap)
          obtain ⟨v0, s0⟩ := TX.slot h (by omega)
          have f0 := TX.free h (by omega)
          have hpn : (h : Int) < (ys.length : Int) + 1 := by omega
          have hlm' : ¬ ((m : Int) + 1 ≤ (m : Int)) := by omega
          obtain ⟨p0, p1, p2, p3, p4, p5⟩ := id PX
          have T4 := Lib.hid T3
          have P4 := Lib.hid P3
          have B4 := Lib.hid B3
          clear own hr T3 P3 B3 TX PX BX
          go_wp2
          go_roundw
          case rel => exact ⟨r + 1, wr.heap.size, by omega, by rw [show (ys.length : Int) - ((r + 1 : Nat) : Int) = (h : Int) - 1 by omega], P4.out, by rw [show ys.length + 1 - (r + 1) = h by omega]; exact T4.out, B4.out⟩
          case measure => (simp [intOf] <;> omega)
    · obtain rfl : r = ys.length + 1 := by omega
      rw [show (ys.length : Int) - ((ys.length + 1 : Nat) : Int) = -1 by omega]
      rw [Nat.sub_self] at TX
      have T4 := Lib.hid TX
      clear TX PX
      go_wp2
      go_returns
      exact ⟨_, B0, rfl, T4.out, BX⟩
end Go.Proofs.Ytofcienabddpjaa
