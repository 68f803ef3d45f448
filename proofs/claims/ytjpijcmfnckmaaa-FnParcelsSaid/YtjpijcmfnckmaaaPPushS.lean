/- Contracts: PushParcel (the reference). -/
import Derived.Test.YtjpijcmfnckmaaaPPush
namespace Go.Proofs.Ytjpijcmfnckmaaa
open Go.RowKit

theorem Own2.keep {w w' : World} {base : Nat} {v u t : Value} {xs ys : List (Int × Int)} (h : Own2 w base v xs u ys) (hg : w.grownBy w' t.ownBlock) (h1 : ∀ g, t.ownBlock = some g → v.ownBlock ≠ some g) (h2 : ∀ g, t.ownBlock = some g → u.ownBlock ≠ some g) : Own2 w' base v xs u ys :=
  ⟨h.1.kept hg (apart_of h1), h.2.1.kept hg (apart_of h2), h.2.2⟩
theorem Own2.flip {w : World} {base : Nat} {v u : Value} {xs ys : List (Int × Int)} (h : Own2 w base v xs u ys) : Own2 w base u ys v xs := ⟨h.2.1, h.1, fun g e e2 => h.2.2 g e2 e⟩
/-- Three slices of the call's own, apart. -/
def Own3 (w : World) (base : Nat) (v : Value) (xs : List (Int × Int)) (u : Value) (ys : List (Int × Int)) (t : Value) (zs : List (Int × Int)) : Prop := Own2 w base v xs u ys ∧ Own2 w base v xs t zs ∧ Own2 w base u ys t zs
theorem Own3.alloc {w : World} {base : Nat} {v u t : Value} {xs ys zs : List (Int × Int)} (h : Own3 w base v xs u ys t zs) (o : Obj) : Own3 (w.alloc o) base v xs u ys t zs := ⟨h.1.alloc o, h.2.1.alloc o, h.2.2.alloc o⟩
theorem Own3.first {w w' : World} {base : Nat} {v u t v' : Value} {xs ys zs xs' : List (Int × Int)} (h : Own3 w base v xs u ys t zs) (hown : OwnP w' base v' xs') (hg : w.grownBy w' v.ownBlock) (hat : v'.ownBlock = v.ownBlock ∨ ∀ g, v'.ownBlock = some g → w.heap.size ≤ g) : Own3 w' base v' xs' u ys t zs :=
  ⟨h.1.left hown hg hat, h.2.1.left hown hg hat, h.2.2.keep hg h.1.2.2 h.2.1.2.2⟩
theorem Own3.second {w w' : World} {base : Nat} {v u t u' : Value} {xs ys zs ys' : List (Int × Int)} (h : Own3 w base v xs u ys t zs) (hown : OwnP w' base u' ys') (hg : w.grownBy w' u.ownBlock) (hat : u'.ownBlock = u.ownBlock ∨ ∀ g, u'.ownBlock = some g → w.heap.size ≤ g) : Own3 w' base v xs u' ys' t zs :=
  ⟨h.1.right hown hg hat, h.2.1.keep hg h.1.flip.2.2 h.2.2.2.2, h.2.2.left hown hg hat⟩
theorem Own3.s {w : World} {base : Nat} {v u t : Value} {xs ys zs : List (Int × Int)} (h : Own3 w base v xs u ys t zs) : OwnP w base v xs := by
  obtain ⟨⟨a, _⟩, _⟩ := h
  exact a
theorem Own3.l {w : World} {base : Nat} {v u t : Value} {xs ys zs : List (Int × Int)} (h : Own3 w base v xs u ys t zs) : OwnP w base u ys := by
  obtain ⟨⟨_, a, _⟩, _⟩ := h
  exact a
theorem own2_new {w w' : World} {base : Nat} {v u : Value} {xs ys : List (Int × Int)} (h : OwnP w base v xs) (h' : OwnP w' w.heap.size u ys) (hb : base ≤ w.heap.size) (hw : Below w.heap.size w w') : Own2 w' base v xs u ys :=
  ⟨h.below hw, h'.weak hb, fun g e e2 => by have a := (h.lt g e).2; have b := (h'.lt g e2).1; omega⟩
theorem empties (w : World) (o : Obj) (base : Nat) (h : base ≤ w.heap.size) : Own2 (((w.alloc o).alloc (.cells #[] 26)).alloc (.cells #[] 26)) base (.slice (some ⟨w.heap.size + 1, 0, none⟩) 0 0) [] (.slice (some ⟨w.heap.size + 1 + 1, 0, none⟩) 0 0) [] := by
  refine ⟨(OwnP.empty2 w o base (by omega)).alloc _, ?_, fun g e e2 => by simp [Value.ownBlock] at e e2; omega⟩
  have := OwnP.empty2 (w.alloc o) (.cells #[] 26) base (by rw [World.size_alloc]; omega)
  rwa [World.size_alloc] at this
theorem empties2 (w : World) (base : Nat) (h : base ≤ w.heap.size) : Own2 ((w.alloc (.cells #[] 26)).alloc (.cells #[] 26)) base (.slice (some ⟨w.heap.size, 0, none⟩) 0 0) [] (.slice (some ⟨w.heap.size + 1, 0, none⟩) 0 0) [] :=
  ⟨(OwnP.empty w base h).alloc _, OwnP.empty2 w _ base (by omega), fun g e e2 => by simp [Value.ownBlock] at e e2; omega⟩
theorem Own2.below {w w' : World} {base : Nat} {v u : Value} {xs ys : List (Int × Int)} (h : Own2 w base v xs u ys) (hb : Below w.heap.size w w') : Own2 w' base v xs u ys := ⟨h.1.below hb, h.2.1.below hb, h.2.2⟩
theorem Own2.drewN {w : World} {base : Nat} {v u : Value} {xs ys : List (Int × Int)} (h : Own2 w base v xs u ys) (n : Nat) : Own2 (w.drewN n) base v xs u ys := h
set_option maxHeartbeats 2000000 in
theorem specPush_c (A : Option Addr) (c : Nat) (xs : List (Int × Int)) (V G : Int) (w : World) (h : RdP w w.heap.size A xs) (hm0 : xs.length ≤ 1048576) :
    Calls Try.prog 17 #[.slice A xs.length c, .agg #[.int .i64 V, .int .i64 G]] w fun e w' => ∃ A1 c1 A2 c2, e = .returned (.tuple #[.slice A1 (pushR xs V G).1.1.length c1, .slice A2 (pushR xs V G).1.2.length c2, .bool (pushR xs V G).2]) ∧
      Own2 w' w.heap.size (.slice A1 (pushR xs V G).1.1.length c1) (pushR xs V G).1.1 (.slice A2 (pushR xs V G).1.2.length c2) (pushR xs V G).1.2 ∧ Below w.heap.size w w' := by
  have hm : xs.length ≤ 4611686018427387904 := by omega
  cases h1 : goodPs xs
  · rw [pushR_no h1]
    go_enter Try.func17, Try.ntmps17
    go_wp2_with (first | (go_at_call 51; refine (specPipe0_c _ _ _ _ (((h.alloc (Nat.le_refl _) _).alloc (by simp) _).alloc (by simp; omega) _) (by simp; omega) hm).mono ?_; rintro e w1 ⟨rfl, hb1⟩; have hz1 := hb1.size; (repeat (first | rw [World.size_alloc] at hz1 | rw [World.size_drew] at hz1 | rw [World.heap_drewN] at hz1 | rw [World.size_setCell] at hz1)); have hB : Below w.heap.size w w1 := Below.trans (by (repeat' (first | (with_reducible exact Below.refl _ _) | (with_reducible assumption) | (with_reducible refine below_drewN ?_ _) | (with_reducible refine Below.alloc ?_ ?_ _) | (with_reducible refine Below.drew ?_) | (with_reducible refine Below.setCell ?_ ?_ _) | go_size))) (hb1.mono (by go_size)); have hL1 := hb1; clear hb1; obtain ⟨hc1, hf1⟩ := bcell hL1) | (go_at_call 52; refine (l15Single_c _ _ _).mono ?_; rintro e w2 ⟨rfl, hb2⟩; have hz2 := hb2.size; (repeat (first | rw [World.size_alloc] at hz2 | rw [World.size_drew] at hz2 | rw [World.heap_drewN] at hz2 | rw [World.size_setCell] at hz2)); replace hB : Below w.heap.size w w2 := Below.trans (by (repeat' (first | (with_reducible exact Below.refl _ _) | (with_reducible assumption) | (with_reducible refine below_drewN ?_ _) | (with_reducible refine Below.alloc ?_ ?_ _) | (with_reducible refine Below.drew ?_) | (with_reducible refine Below.setCell ?_ ?_ _) | go_size))) (hb2.mono (by go_size)); (first | (refine extend_then hL1 hb2 ?_ ?_ (fun hq => ?_); (focus ((repeat' (first | (with_reducible exact Below.refl _ _) | (with_reducible assumption) | (with_reducible refine below_drewN ?_ _) | (with_reducible refine Below.alloc ?_ ?_ _) | (with_reducible refine Below.drew ?_) | (with_reducible refine Below.setCell ?_ ?_ _) | go_size)); done)); (focus (go_size; done)); replace hL1 := hq; clear hq hc1 hf1; obtain ⟨hc1, hf1⟩ := bcell hL1) | (clear hL1 hc1 hf1) | skip); have hL2 := hb2; clear hb2; obtain ⟨hc2, hf2⟩ := bcell hL2))
    go_returns
    exact ⟨_, _, _, _, rfl, (empties w _ _ (Nat.le_refl _)).below hL1, by (repeat' (first | (with_reducible exact Below.refl _ _) | (with_reducible assumption) | (with_reducible refine below_drewN ?_ _) | (with_reducible refine Below.alloc ?_ ?_ _) | (with_reducible refine Below.drew ?_) | (with_reducible refine Below.setCell ?_ ?_ _) | go_size))⟩
  cases h2 : okP V G
  · rw [pushR_no2 h2]
    go_enter Try.func17, Try.ntmps17
    go_wp2_with (first | (go_at_call 51; refine (specPipe0_c _ _ _ _ (((h.alloc (Nat.le_refl _) _).alloc (by simp) _).alloc (by simp; omega) _) (by simp; omega) hm).mono ?_; rintro e w1 ⟨rfl, hb1⟩; have hz1 := hb1.size; (repeat (first | rw [World.size_alloc] at hz1 | rw [World.size_drew] at hz1 | rw [World.heap_drewN] at hz1 | rw [World.size_setCell] at hz1)); have hB : Below w.heap.size w w1 := Below.trans (by (repeat' (first | (with_reducible exact Below.refl _ _) | (with_reducible assumption) | (with_reducible refine below_drewN ?_ _) | (with_reducible refine Below.alloc ?_ ?_ _) | (with_reducible refine Below.drew ?_) | (with_reducible refine Below.setCell ?_ ?_ _) | go_size))) (hb1.mono (by go_size)); have hL1 := hb1; clear hb1; obtain ⟨hc1, hf1⟩ := bcell hL1) | (go_at_call 52; refine (l15Single_c _ _ _).mono ?_; rintro e w2 ⟨rfl, hb2⟩; have hz2 := hb2.size; (repeat (first | rw [World.size_alloc] at hz2 | rw [World.size_drew] at hz2 | rw [World.heap_drewN] at hz2 | rw [World.size_setCell] at hz2)); replace hB : Below w.heap.size w w2 := Below.trans (by (repeat' (first | (with_reducible exact Below.refl _ _) | (with_reducible assumption) | (with_reducible refine below_drewN ?_ _) | (with_reducible refine Below.alloc ?_ ?_ _) | (with_reducible refine Below.drew ?_) | (with_reducible refine Below.setCell ?_ ?_ _) | go_size))) (hb2.mono (by go_size)); (first | (refine extend_then hL1 hb2 ?_ ?_ (fun hq => ?_); (focus ((repeat' (first | (with_reducible exact Below.refl _ _) | (with_reducible assumption) | (with_reducible refine below_drewN ?_ _) | (with_reducible refine Below.alloc ?_ ?_ _) | (with_reducible refine Below.drew ?_) | (with_reducible refine Below.setCell ?_ ?_ _) | go_size)); done)); (focus (go_size; done)); replace hL1 := hq; clear hq hc1 hf1; obtain ⟨hc1, hf1⟩ := bcell hL1) | (clear hL1 hc1 hf1) | skip); have hL2 := hb2; clear hb2; obtain ⟨hc2, hf2⟩ := bcell hL2))
    go_returns
    exact ⟨_, _, _, _, rfl, (empties w _ _ (Nat.le_refl _)).below hL1, by (repeat' (first | (with_reducible exact Below.refl _ _) | (with_reducible assumption) | (with_reducible refine below_drewN ?_ _) | (with_reducible refine Below.alloc ?_ ?_ _) | (with_reducible refine Below.drew ?_) | (with_reducible refine Below.setCell ?_ ?_ _) | go_size))⟩
  have g := goodPs_out h1
  have o := okP_out h2
  have hb := sumV_b g.2.2.1 xs.length (Nat.le_refl _)
  have hok := push_ok h1 h2
  have hst := stays_ok h1 h2
  obtain ⟨b0, off0, x0, y0, hA0, _⟩ := h.at_ (k := 0) (by omega)
  subst hA0
  have hr0 : ∀ S L, S = staysL xs V G → L = leavesL xs V G → (S.length ≤ 8 → pushR xs V G = ((S, L), true)) ∧ (¬ S.length ≤ 8 → pushR xs V G = (([], []), false)) := fun S L hS hL => by
    subst hS hL
    exact ⟨pushR_yes h1 h2, pushR_no3⟩
  have HR0 := Lib.hid hr0
  have HST := Lib.hid hst
  have HOK := Lib.hid hok
  clear hr0 hst hok
  go_enter Try.func17, Try.ntmps17
  go_wp2_with (first | (go_at_call 51; refine (specPipe0_c _ _ _ _ (((h.alloc (Nat.le_refl _) _).alloc (by simp) _).alloc (by simp; omega) _) (by simp; omega) hm).mono ?_; rintro e w1 ⟨rfl, hb1⟩; have hz1 := hb1.size; (repeat (first | rw [World.size_alloc] at hz1 | rw [World.size_drew] at hz1 | rw [World.heap_drewN] at hz1 | rw [World.size_setCell] at hz1)); have hB : Below w.heap.size w w1 := Below.trans (by (repeat' (first | (with_reducible exact Below.refl _ _) | (with_reducible assumption) | (with_reducible refine below_drewN ?_ _) | (with_reducible refine Below.alloc ?_ ?_ _) | (with_reducible refine Below.drew ?_) | (with_reducible refine Below.setCell ?_ ?_ _) | go_size))) (hb1.mono (by go_size)); have hL1 := hb1; clear hb1; obtain ⟨hc1, hf1⟩ := bcell hL1) | (go_at_call 52; refine (l15Single_c _ _ _).mono ?_; rintro e w2 ⟨rfl, hb2⟩; have hz2 := hb2.size; (repeat (first | rw [World.size_alloc] at hz2 | rw [World.size_drew] at hz2 | rw [World.heap_drewN] at hz2 | rw [World.size_setCell] at hz2)); replace hB : Below w.heap.size w w2 := Below.trans (by (repeat' (first | (with_reducible exact Below.refl _ _) | (with_reducible assumption) | (with_reducible refine below_drewN ?_ _) | (with_reducible refine Below.alloc ?_ ?_ _) | (with_reducible refine Below.drew ?_) | (with_reducible refine Below.setCell ?_ ?_ _) | go_size))) (hb2.mono (by go_size)); (first | (refine extend_then hL1 hb2 ?_ ?_ (fun hq => ?_); (focus ((repeat' (first | (with_reducible exact Below.refl _ _) | (with_reducible assumption) | (with_reducible refine below_drewN ?_ _) | (with_reducible refine Below.alloc ?_ ?_ _) | (with_reducible refine Below.drew ?_) | (with_reducible refine Below.setCell ?_ ?_ _) | go_size)); done)); (focus (go_size; done)); replace hL1 := hq; clear hq hc1 hf1; obtain ⟨hc1, hf1⟩ := bcell hL1) | (clear hL1 hc1 hf1) | skip); have hL2 := hb2; clear hb2; obtain ⟨hc2, hf2⟩ := bcell hL2) | (go_at_call 53; refine (l15Sum_c _ _ xs _ ((((h.alloc (Nat.le_refl _) _).alloc (by simp) _).alloc (by simp; omega) _).below (hL1.mono (by simp; omega))) g.2.2.1 g.2.1).mono ?_; rintro e w' ⟨rfl, nd, rfl⟩) | (at_builtin; refine wpList_appR (B := w.heap.size) rfl (.tmp 33) (.tmp 34) rfl w2.heap.size (.slice (some ⟨w2.heap.size, 0, none⟩) 1 1) _ _ [(V, G)] xs rfl (OwnP.lit (w2.drewN nd) _ V G (Nat.le_refl _)) rfl (((h.below hB).drewN nd).alloc hB.size _) (by simp) hm0 (by simp) ?_; intro v4 w4 hown4 hg4 _; have hB4' := ((Below.refl w2.heap.size (w2.drewN nd)).alloc (Nat.le_refl _) _).trans (below_of_grown (OwnP.lit (w2.drewN nd) w2.heap.size V G (Nat.le_refl _)) hg4 (by simp))))
  have hE := (((empties w (.cells #[.int .i64 V, .int .i64 G] 26) w.heap.size (Nat.le_refl _)).below hL1).drewN nd)
  have hE4 := hE.below hB4'
  have hz2 := hB.size
  have hall1 := own2_new hE.1 hown4 hz2 hB4'
  have hall2 := own2_new hE.2.1 hown4 hz2 hB4'
  have hB4 : Below w.heap.size w w4 := (below_drewN hB nd).trans (hB4'.mono hz2)
  obtain ⟨ALL, hALL⟩ : ∃ ALL, ALL = (V, G) :: xs := ⟨_, rfl⟩
  have hcons : [(V, G)] ++ xs = ALL := hALL.symm
  rw [hcons] at hall1 hall2
  have hln : ALL.length = xs.length + 1 := by rw [hALL]; rfl
  have hokA : okAll ALL := hALL ▸ HOK.out
  obtain ⟨vv, hvv⟩ : ∃ vv, vv = sumV xs xs.length := ⟨_, rfl⟩
  have hv0 : 0 ≤ vv := by omega
  have hv1 : vv ≤ 1000 := by omega
  have hS : joinT (firstT ALL vv ALL.length) ALL.length = staysL xs V G := by unfold staysL; rw [hln, hALL, hvv]
  have hL : joinT (restT ALL vv ALL.length) ALL.length = leavesL xs V G := by unfold leavesL; rw [hln, hALL, hvv]
  have HS := Lib.hid hS
  have HL := Lib.hid hL
  have hA9 : ALL.length ≤ 9 := by omega
  rw [← hvv]
  clear hS hL hln hALL hcons hvv hb hE hL1 hc1 hf1 hz1 hL2 hc2 hf2 hown4 hB4' hB h
  go_loopw [7, 8, 9, 12, 13, 14] (fun s l r i _ _ wr => ∃ k : Nat, k ≤ ALL.length ∧ i = .int .i64 k ∧ r = .int .i64 (volK ALL vv k) ∧ Own3 wr w.heap.size s (joinT (firstT ALL vv ALL.length) k) l (joinT (restT ALL vv ALL.length) k) v4 ALL ∧ Below w.heap.size w wr) (fun _ _ _ i _ _ _ => ALL.length - (intOf i).toNat)
  case atStart => exact ⟨0, by omega, rfl, rfl, ⟨hE4, hall1, hall2⟩, hB4⟩
  case round =>
    clear hE4 hall1 hall2 hB4
    obtain ⟨k, hk, rfl, rfl, hown, hB⟩ := hrel
    have hsz := hB.size
    obtain ⟨A4, c4, rfl⟩ := hown.2.1.2.1.shape
    by_cases hlt : k < ALL.length
    · obtain ⟨b, off, x, y, rfl, hx, hbB, hc0, hc1⟩ := hown.2.1.2.1.rd.at_ hlt
      have hi : (k : Int) < (ALL.length : Int) := by omega
      have ok := hokA k x y hlt hx
      have vb := volK_b hokA hv0 k hk
      have hmc := minI_comm (volK ALL vv k) x
      have mb : 0 ≤ minI x (volK ALL vv k) ∧ minI x (volK ALL vv k) ≤ x ∧ minI x (volK ALL vv k) ≤ volK ALL vv k := by unfold minI; split <;> omega
      have j1 := joinT_succ (firstT_get (v := vv) hx hlt)
      have j2 := joinT_succ (restT_get (v := vv) hx hlt)
      have l1 := joinT_len (firstT ALL vv ALL.length) k
      have l2 := joinT_len (restT ALL vv ALL.length) k
      have d1 := joinT_bnd (firstT_bnd hokA hv0 ALL.length (Nat.le_refl _)) k (by rw [firstT_len]; exact hk)
      have d2 := joinT_bnd (restT_bnd hokA hv0 ALL.length (Nat.le_refl _)) k (by rw [restT_len]; exact hk)
      have HV := Lib.hid (volK_next (v := vv) hx)
      generalize joinT (firstT ALL vv ALL.length) k = js at *
      generalize joinT (restT ALL vv ALL.length) k = jr at *
      generalize minI x (volK ALL vv k) = mm at *
      have D1 : bnd js 1000000 := fun q hq => by have := d1 q hq; omega
      have D2 : bnd jr 1000000 := fun q hq => by have := d2 q hq; omega
      have n1 : js.length ≤ 60000 := by omega
      have n2 : jr.length ≤ 60000 := by omega
      have w1' : IntKind.i64.wrap (volK ALL vv k - mm) = volK ALL vv k - mm := IntWalk.i64_in _ (by omega)
      have w2' : IntKind.i64.wrap (x - mm) = x - mm := IntWalk.i64_in _ (by omega)
      obtain ⟨As, cs, rfl⟩ := hown.1.1.shape
      obtain ⟨Al, cl, rfl⟩ := hown.1.2.1.shape
      have hne := fun gg e => (hown.1.1.lt gg e).2
      have O1 := hown.alloc (.cells #[.int .i64 x, .int .i64 y] 26)
      have HNE := Lib.hid hne
      have HO := Lib.hid O1
      have HD1 := Lib.hid D1
      have HD2 := Lib.hid D2
      have HJ1 := Lib.hid j1
      have HJ2 := Lib.hid j2
      have HMC := Lib.hid hmc
      clear hx hown O1 hne D1 D2 d1 d2 j1 j2 hmc
      go_wp2_with (first | (go_at_call 54; refine (l1Least_c _ _ _).mono ?_; rintro e w' ⟨rfl, rfl⟩; rw [HMC.out]) | (go_at_call 55; (with_reducible refine (l15Add_c (.slice As js.length cs) js mm y w.heap.size _ HO.out.s (by simp; omega) n1 HD1.out (by omega) (by omega)).mono ?_); rintro e w5 ⟨v5, rfl, hown5, hg5, hat5⟩; have O5 := HO.out.first hown5 hg5 hat5; have B5 := below_of_grown HO.out.s hg5 (by simp; omega); have z5 := hg5.size; have e0 : w5.cell? ⟨wr.heap.size, 0, none⟩ = some (.int .i64 x) := (hg5.cell_far' ⟨wr.heap.size, 0, none⟩ (by simp) (fun e => absurd (HNE.out _ e.symm) (Nat.lt_irrefl _))).trans (by simp [go_sem]); have e1 : w5.cell? ⟨wr.heap.size, 1, none⟩ = some (.int .i64 y) := (hg5.cell_far' ⟨wr.heap.size, 1, none⟩ (by simp) (fun e => absurd (HNE.out _ e.symm) (Nat.lt_irrefl _))).trans (by simp [go_sem]); have HO5 := Lib.hid O5; clear O5 hown5 hat5) | (go_at_call 55; (with_reducible refine (l15Add_c (.slice Al jr.length cl) jr (x - mm) y w.heap.size _ HO5.out.l (by simp at z5 ⊢; omega) n2 HD2.out (by omega) (by omega)).mono ?_); rintro e w6 ⟨v6, rfl, hown6, hg6, hat6⟩; have O6 := HO5.out.second hown6 hg6 hat6; have B6 := below_of_grown HO5.out.l hg6 (by simp at z5 ⊢; omega)))
      go_roundw
      case rel => exact ⟨k + 1, by omega, by go_num, by rw [HV.out], by rw [HJ1.out, HJ2.out]; exact O6, ((hB.alloc hsz _).trans B5).trans B6⟩
      case measure => simp [intOf]; omega
    · obtain rfl : k = ALL.length := by omega
      obtain ⟨As, cs, rfl⟩ := hown.1.1.shape
      obtain ⟨Al, cl, rfl⟩ := hown.1.2.1.shape
      have n1 := joinT_len (firstT ALL vv ALL.length) ALL.length
      have hr := HR0.out _ _ HS.out HL.out
      have hst := HST.out
      rw [← HS.out] at hst
      generalize joinT (firstT ALL vv ALL.length) ALL.length = S at *
      generalize joinT (restT ALL vv ALL.length) ALL.length = L at *
      have hrd := hown.1.1.rd
      by_cases h3 : S.length ≤ 8
      · have hr1 := hr.1 h3
        have hgS : goodPs S = true := by rw [hst]; simp [h3]
        have HR := Lib.hid hr1
        have HO := Lib.hid hown.1
        clear hr hr1 hst hown
        go_wp2_with (go_at_call 51; refine (specPipe0_c _ _ S _ hrd (Nat.le_refl _) (by omega)).mono ?_; rintro e w1 ⟨rfl, hb1⟩; have hz1 := hb1.size; (repeat (first | rw [World.size_alloc] at hz1 | rw [World.size_drew] at hz1 | rw [World.heap_drewN] at hz1 | rw [World.size_setCell] at hz1)); have hB : Below w.heap.size w w1 := Below.trans (by (repeat' (first | (with_reducible exact Below.refl _ _) | (with_reducible assumption) | (with_reducible refine below_drewN ?_ _) | (with_reducible refine Below.alloc ?_ ?_ _) | (with_reducible refine Below.drew ?_) | (with_reducible refine Below.setCell ?_ ?_ _) | go_size))) (hb1.mono (by go_size)); have hL1 := hb1; clear hb1; obtain ⟨hc1, hf1⟩ := bcell hL1)
        go_returns
        exact ⟨As, cs, Al, cl, by rw [HR.out]; rfl, by rw [HR.out]; exact HO.out.below hL1, by (repeat' (first | (with_reducible exact Below.refl _ _) | (with_reducible assumption) | (with_reducible refine below_drewN ?_ _) | (with_reducible refine Below.alloc ?_ ?_ _) | (with_reducible refine Below.drew ?_) | (with_reducible refine Below.setCell ?_ ?_ _) | go_size))⟩
      · have hr1 := hr.2 h3
        have hgS : goodPs S = false := by rw [hst]; simp [h3]
        have HR := Lib.hid hr1
        clear hr hr1 hst hown
        go_wp2_with (go_at_call 51; refine (specPipe0_c _ _ S _ hrd (Nat.le_refl _) (by omega)).mono ?_; rintro e w1 ⟨rfl, hb1⟩; have hz1 := hb1.size; (repeat (first | rw [World.size_alloc] at hz1 | rw [World.size_drew] at hz1 | rw [World.heap_drewN] at hz1 | rw [World.size_setCell] at hz1)); have hB : Below w.heap.size w w1 := Below.trans (by (repeat' (first | (with_reducible exact Below.refl _ _) | (with_reducible assumption) | (with_reducible refine below_drewN ?_ _) | (with_reducible refine Below.alloc ?_ ?_ _) | (with_reducible refine Below.drew ?_) | (with_reducible refine Below.setCell ?_ ?_ _) | go_size))) (hb1.mono (by go_size)); have hL1 := hb1; clear hb1; obtain ⟨hc1, hf1⟩ := bcell hL1)
        go_returns
        exact ⟨_, _, _, _, by rw [HR.out]; rfl, by rw [HR.out]; exact empties2 w1 _ hB.size, by (repeat' (first | (with_reducible exact Below.refl _ _) | (with_reducible assumption) | (with_reducible refine below_drewN ?_ _) | (with_reducible refine Below.alloc ?_ ?_ _) | (with_reducible refine Below.drew ?_) | (with_reducible refine Below.setCell ?_ ?_ _) | go_size))⟩
end Go.Proofs.Ytjpijcmfnckmaaa
