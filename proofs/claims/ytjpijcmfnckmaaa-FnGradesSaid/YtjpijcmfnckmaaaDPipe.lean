/- Contracts: pipefuls drawn. -/
import Derived.Test.YtjpijcmfnckmaaaDraw
import Derived.Test.YtjpijcmfnckmaaaCur3
import Derived.Test.YtjpijcmfnckmaaaPAddS
namespace Go.Proofs.Ytjpijcmfnckmaaa
open Go.RowKit

theorem ownP_far {w w' : World} {base b : Nat} {v : Value} {xs : List (Int × Int)} (h : OwnP w base v xs) (g : w.grownBy w' (some b)) (hb : b < base) : OwnP w' base v xs := h.kept g (.inr (fun q => by have := (h.lt b q).1; omega))
theorem ownP_ge {w : World} {base : Nat} {v : Value} {l : List (Int × Int)} (o : OwnP w base v l) : ∀ k, v.ownBlock = some k → base ≤ k := fun k hk => (o.lt k hk).1
/-- A list while it is drawn. -/
structure PipW (w wr : World) (b : Nat) (A : Option Addr) (n c m : Nat) (v : Value) (ys : List (Int × Int)) : Prop where
  cur : Cur wr b A n c m
  gr : w.grownBy wr (some b)
  own : OwnP wr w.heap.size v ys
  lt : b < w.heap.size
theorem PipW.far {w wr w' : World} {b : Nat} {A : Option Addr} {n c m m' : Nat} {v : Value} {ys : List (Int × Int)} (h : PipW w wr b A n c m v ys) (C : Cur w' b A n c m') (g : wr.grownBy w' (some b)) : PipW w w' b A n c m' v ys :=
  ⟨C, grown_trans h.gr g, ownP_far h.own g h.lt, h.lt⟩
theorem PipW.below {w wr w' : World} {b : Nat} {A : Option Addr} {n c m : Nat} {v : Value} {ys : List (Int × Int)} (h : PipW w wr b A n c m v ys) (hb : Below wr.heap.size wr w') : PipW w w' b A n c m v ys :=
  ⟨h.cur.below hb, grown_trans h.gr (grown_below hb), h.own.below hb, h.lt⟩
theorem PipW.app {w wr w' : World} {b : Nat} {A : Option Addr} {n c m : Nat} {v v' : Value} {ys zs : List (Int × Int)} (h : PipW w wr b A n c m v ys) (o : OwnP w' w.heap.size v' zs) (g : wr.grownBy w' v.ownBlock) : PipW w w' b A n c m v' zs := by
  have q := ownP_ge h.own
  have l := h.lt
  exact ⟨h.cur.kept g (fun k hk => by have := q _ hk; omega), grown_own h.gr g q, o, l⟩
theorem PipW.weak {w wr : World} {b : Nat} {A : Option Addr} {n c m m' : Nat} {v : Value} {ys : List (Int × Int)} (h : PipW w wr b A n c m v ys) (hm : m ≤ m') : PipW w wr b A n c m' v ys := ⟨h.cur.weak hm, h.gr, h.own, h.lt⟩
theorem PipW.room {w wr : World} {b : Nat} {A : Option Addr} {n c m : Nat} {v : Value} {ys : List (Int × Int)} (h : PipW w wr b A n c m v ys) : w.heap.size ≤ wr.heap.size := h.gr.size
set_option maxHeartbeats 4000000 in
theorem pipeful_c (b : Nat) (A : Option Addr) (n c m : Nat) (w : World) (h : Cur w b A n c m) (hm : m ≤ 900000) :
    Calls Try.prog 45 #[.pointer (some ⟨b, 0, none⟩)] w fun e w' => ∃ (A1 : Option Addr) (c1 : Nat) (ys : List (Int × Int)), e = .returned (.slice A1 ys.length c1) ∧ Cur w' b A n c (m + 100) ∧ w.grownBy w' (some b) ∧ OwnP w' w.heap.size (.slice A1 ys.length c1) ys ∧ ys.length ≤ 16 := by
  have hlt := h.lt
  go_enter Try.func45, Try.ntmps45
  go_upto_region 2 with (fail)
  obtain ⟨w0, hW⟩ : ∃ W, W = w.alloc (.cells #[] 26) := ⟨_, rfl⟩
  rw [← hW]
  have P0 : PipW w w0 b A n c m (.slice (some ⟨w.heap.size, 0, none⟩) 0 0) [] := by
    rw [hW]
    exact ⟨h.alloc _, World.grownBy_alloc _ _ _, OwnP.empty w _ (Nat.le_refl _), hlt⟩
  clear hW h
  go_wp2_with fail
  refine (pick_c b A n c m 5 w0 P0.cur (by omega) (by omega)).mono ?_
  rintro e w1 ⟨x, x0, x1, rfl, C1, g1⟩
  have P1 := P0.far C1 g1
  obtain ⟨k0, rfl⟩ := Int.eq_ofNat_of_zero_le x0
  have Wk : IntKind.i64.wrap (1 + (k0 : Int)) = ((k0 + 1 : Nat) : Int) := by rw [show (1 + (k0 : Int)) = ((k0 + 1 : Nat) : Int) by omega]; exact IntWalk.i64_in _ (by omega)
  have PH := Lib.hid P1
  have k5 : k0 + 1 ≤ 5 := by omega
  clear P0 C1 g1 x0 x1 P1
  go_wp2
  go_loopw [3, 4, 5] (fun lv nv _ wr => ∃ (k : Nat) (v : Value) (ys : List (Int × Int)) (q : Int), k ≤ 5 ∧ nv = .int .i64 k ∧ v = lv ∧ ys.length + k ≤ 5 ∧ 0 ≤ q ∧ q + 1000 * k ≤ 5000 ∧ bnd ys q ∧ PipW w wr b A n c (m + 42 - 8 * k) v ys) (fun _ nv _ _ => (intOf nv).toNat)
  case atStart => exact ⟨k0 + 1, _, [], 0, by omega, rfl, rfl, by simp; omega, by omega, by omega, bnd_nil _, PH.out.weak (by omega)⟩
  case round =>
    clear PH Wk k5
    obtain ⟨k, v, ys, q, hk, rfl, rfl, hl, q0, q1, hbn, P⟩ := hrel
    by_cases hk0 : 0 < k
    · obtain ⟨k, rfl⟩ : ∃ j, k = j + 1 := ⟨k - 1, by omega⟩
      have hi : (0 : Int) < ((k + 1 : Nat) : Int) := by omega
      have Wk : IntKind.i64.wrap (((k + 1 : Nat) : Int) - 1) = (k : Int) := by rw [show (((k + 1 : Nat) : Int) - 1) = (k : Int) by omega]; exact IntWalk.i64_in _ (by omega)
      have PC := Lib.hid (parcel_c b A n c _ wr P.cur (by omega))
      have PH := Lib.hid P
      have BN := Lib.hid hbn
      clear P hbn
      go_wp2_with fail
      refine PC.out.mono ?_
      rintro e w2 ⟨V, G, V0, V1, G0, G1, rfl, C2, g2⟩
      have P2 := PH.out.far C2 g2
      clear C2 g2 PC PH
      go_upto_region 6 with (fail)
      obtain ⟨w3, hW⟩ : ∃ W, W = w2.alloc (.cells #[.int .i64 V, .int .i64 G] 26) := ⟨_, rfl⟩
      rw [← hW]
      have hb3 : Below w2.heap.size w2 w3 := by rw [hW]; exact (Below.refl _ _).alloc (Nat.le_refl _) _
      have P3 := P2.below hb3
      have d0 : w3.cell? ⟨w2.heap.size, 0, none⟩ = some (.int .i64 V) := by rw [hW]; exact World.cell?_alloc_new w2 _ _ 0
      have d1 : w3.cell? ⟨w2.heap.size, 1, none⟩ = some (.int .i64 G) := by rw [hW]; exact World.cell?_alloc_new w2 _ _ 1
      clear hW hb3 P2
      generalize w2.heap.size = p at *
      have LS := l15Single_c V G w3
      cases ok : okP V G
      · rw [ok] at LS
        have LH := Lib.hid LS
        have PH := Lib.hid P3
        clear LS P3
        go_wp2_with fail
        refine LH.out.mono ?_
        rintro e w4 ⟨rfl, hb4⟩
        have P4 := PH.out.below hb4
        clear hb4 d0 d1 PH LH
        go_wp2
        go_roundw
        case rel => exact ⟨k, _, ys, q, by omega, by go_num, rfl, by omega, q0, by omega, BN.out, P4.weak (by omega)⟩
        case measure => simp [intOf]
      · rw [ok] at LS
        have ob := okP_out ok
        have LH := Lib.hid LS
        have PH := Lib.hid P3
        clear LS P3
        go_wp2_with fail
        refine LH.out.mono ?_
        rintro e w4 ⟨rfl, hb4⟩
        have P4 := PH.out.below hb4
        replace d0 := (hb4.cell (lt_of_cell (by rw [d0]; rfl))).trans d0
        replace d1 := (hb4.cell (lt_of_cell (by rw [d1]; rfl))).trans d1
        have AD := Lib.hid (l15Add_c v ys V G w.heap.size w4 P4.own P4.room (by omega) (fun z hz => by have := BN.out z hz; omega) (by omega) (by omega))
        have PH4 := Lib.hid P4
        clear hb4 PH LH P4
        go_wp2_with fail
        refine AD.out.mono ?_
        rintro e w5 ⟨v', rfl, o5, g5, _⟩
        have P5 := PH4.out.app o5 g5
        have al := addP_len ys (V, G)
        have bn := bnd_add (p := (V, G)) BN.out q0 (by simp only; omega) (by simp only; omega)
        have BN2 := Lib.hid bn
        clear d0 d1 o5 g5 AD PH4 bn
        go_wp2
        go_roundw
        case rel => exact ⟨k, v', _, q + 1000, by omega, by go_num, rfl, by omega, by omega, by omega, BN2.out, P5.weak (by omega)⟩
        case measure => simp [intOf]
    · obtain rfl : k = 0 := by omega
      have PC := Lib.hid (pick_c b A n c _ 24 wr P.cur (by omega) (by omega))
      have PH := Lib.hid P
      have BN := Lib.hid hbn
      clear P hbn
      go_wp2_with fail
      refine PC.out.mono ?_
      rintro e w2 ⟨x, x0, x1, rfl, C2, g2⟩
      have P2 := PH.out.far C2 g2
      clear C2 g2 PC PH
      by_cases c0 : x = 0
      · subst c0
        have PC := Lib.hid (parcel_c b A n c _ w2 P2.cur (by omega))
        have PH := Lib.hid P2
        have c1b : ((0 : Int) == 1) = false := by simp
        have c2b : ((0 : Int) == 2) = false := by simp
        clear P2
        go_wp2_with fail
        refine PC.out.mono ?_
        rintro e w3 ⟨V, G, V0, V1, G0, G1, rfl, C3, g3⟩
        have P3 := PH.out.far C3 g3
        have zr := P3.room
        clear C3 g3 PC PH
        go_wp2_with (at_builtin; refine wpList_appR (wr := w3.alloc (.cells #[.int .i64 V, .int .i64 G] 26)) rfl (.tmp 26) (.tmp 29) rfl w.heap.size _ _ _ ys [(V, G)] rfl (P3.own.alloc _) rfl (RdP.lit w3 V G _) (by omega) (by simp) (by rw [World.size_alloc]; omega) ?_; intro v4 w4 o4 g4 l4)
        have P4 := (P3.below ((Below.refl _ _).alloc (Nat.le_refl _) (.cells #[.int .i64 V, .int .i64 G] 26))).app o4 g4
        obtain ⟨A1, c1, rfl⟩ := P4.own.shape
        have PH := Lib.hid P4
        clear P3 P4 o4 g4 l4
        go_wp2
        go_returns
        exact ⟨A1, c1, _, rfl, PH.out.cur.weak (by omega), PH.out.gr, PH.out.own, by simp; omega⟩
      by_cases c1 : x = 1
      · subst c1
        have zr := P2.room
        have C3 := P2.cur.alloc (.cells #[] 26)
        have g3 := grown_alloc P2.gr (.cells #[] 26)
        have o3 := OwnP.empty w2 w.heap.size zr
        clear P2
        go_wp2
        go_returns
        exact ⟨_, _, [], rfl, C3.weak (by omega), g3, o3, by simp⟩
      by_cases c2 : x = 2
      · subst c2
        have PH := Lib.hid P2
        clear P2
        go_wp2
        go_loopw [3, 6] (fun lv nv wr => ∃ (j : Nat) (v : Value) (ys : List (Int × Int)), j ≤ 10 ∧ nv = .int .i64 j ∧ v = lv ∧ ys.length ≤ 5 + j ∧ PipW w wr b A n c (m + 44 + 2 * j) v ys) (fun _ nv _ => 11 - (intOf nv).toNat)
        case atStart => exact ⟨0, _, ys, by omega, rfl, rfl, by omega, PH.out.weak (by omega)⟩
        case round =>
          clear PH BN hl
          obtain ⟨j, v, ys, hj, rfl, rfl, hl, P⟩ := hrel
          obtain ⟨A1, c1, rfl⟩ := P.own.shape
          have PC := Lib.hid (pick_c b A n c _ 2 wr P.cur (by omega) (by omega))
          have PH := Lib.hid P
          clear P
          go_wp2_with fail
          refine PC.out.mono ?_
          rintro e w3 ⟨z, z0, z1, rfl, C3, g3⟩
          have P3 := PH.out.far C3 g3
          have zr := P3.room
          have Wz : IntKind.i64.wrap (8 + z) = 8 + z := IntWalk.i64_in _ (by omega)
          clear C3 g3 PC PH
          by_cases t1 : (ys.length : Int) < 8 + z
          · have d1 : decide ((ys.length : Int) < 8 + z) = true := decide_eq_true t1
            by_cases t2 : j < 10
            · have d2 : decide ((j : Int) < 10) = true := by simp; omega
              have Wj : IntKind.i64.wrap (30 + (j : Int)) = 30 + (j : Int) := IntWalk.i64_in _ (by omega)
              have Wj1 : IntKind.i64.wrap ((j : Int) + 1) = (j : Int) + 1 := IntWalk.i64_in _ (by omega)
              go_wp2_with (at_builtin; refine wpList_appR (wr := w3.alloc (.cells #[.int .i64 2, .int .i64 (30 + (j : Int))] 26)) rfl (.tmp 48) (.tmp 52) rfl w.heap.size _ _ _ ys [(2, 30 + (j : Int))] rfl (P3.own.alloc _) rfl (RdP.lit w3 2 (30 + (j : Int)) _) (by omega) (by simp) (by rw [World.size_alloc]; omega) ?_; intro v4 w4 o4 g4 l4)
              have P4 := (P3.below ((Below.refl _ _).alloc (Nat.le_refl _) (.cells #[.int .i64 2, .int .i64 (30 + (j : Int))] 26))).app o4 g4
              obtain ⟨A2, c2, rfl⟩ := P4.own.shape
              have PH := Lib.hid P4
              clear P3 P4 o4 g4 l4
              go_roundw
              case rel => exact ⟨j + 1, _, _, by omega, by go_num, rfl, by simp; omega, PH.out.weak (by omega)⟩
              case measure => simp [intOf]; omega
            · have d2 : decide ((j : Int) < 10) = false := by simp; omega
              have PH := Lib.hid P3
              clear P3
              go_wp2
              go_returns
              exact ⟨A1, c1, ys, rfl, PH.out.cur.weak (by omega), PH.out.gr, PH.out.own, by omega⟩
          · have d1 : decide ((ys.length : Int) < 8 + z) = false := decide_eq_false t1
            have PH := Lib.hid P3
            clear P3
            go_wp2
            go_returns
            exact ⟨A1, c1, ys, rfl, PH.out.cur.weak (by omega), PH.out.gr, PH.out.own, by omega⟩
      have c0b : (x == 0) = false := by simp [c0]
      have c1b : (x == 1) = false := by simp [c1]
      have c2b : (x == 2) = false := by simp [c2]
      obtain ⟨A1, c1', rfl⟩ := P2.own.shape
      have PH := Lib.hid P2
      clear P2
      go_wp2
      go_returns
      exact ⟨A1, c1', ys, rfl, PH.out.cur.weak (by omega), PH.out.gr, PH.out.own, by omega⟩
end Go.Proofs.Ytjpijcmfnckmaaa
