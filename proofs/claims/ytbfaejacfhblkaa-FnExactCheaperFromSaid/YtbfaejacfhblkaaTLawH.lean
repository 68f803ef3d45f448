/- The law on CheaperFrom, walked. -/
import Derived.Test.YtbfaejacfhblkaaTCh
import Derived.Test.YtbfaejacfhblkaaTMark
namespace Go.Proofs.Ytbfaejacfhblkaa
open Go.RowKit

theorem szTar2_ok (F : Int) (A : Option Addr) (c : Nat) (xs : List (Int × Int)) (L : Int) (w : World) (h : (xs.length : Int) ≤ L) (h2 : L ≤ 1048576) : Calls Try.prog 15 #[.agg #[.int .i64 F, .slice A xs.length c], .int .i64 L] w fun e w' => e = .returned (.int .i64 (L - xs.length)) ∧ Below w.heap.size w w' := by
  have e2 : ¬ (L - (xs.length : Int) < 0) := by omega
  have wr1 : IntKind.i64.wrap (L - (xs.length : Int)) = L - (xs.length : Int) := IntWalk.i64_in _ (by omega)
  have e3 : decide (L - (xs.length : Int) < 0) = false := by simp; omega
  go_enter Try.func15, Try.ntmps15
  go_wp2_with (go_at_call 52; go_in; go_wp2)
  (go_returns; exact ⟨by first | rfl | (simp; done) | (simp; omega), by (repeat' (first | (with_reducible exact Below.refl _ _) | (with_reducible assumption) | (with_reducible refine below_drewN ?_ _) | (with_reducible refine Below.alloc ?_ ?_ _) | (with_reducible refine Below.drew ?_) | (with_reducible refine Below.setCell ?_ ?_ _) | go_size))⟩)
theorem heldT {W w' w'' : World} {b : Nat} {u0 u1 u2 u3 : Value} (h : w'.cell? ⟨b, 0, none⟩ = some u0 ∧ w'.cell? ⟨b, 1, none⟩ = some u1 ∧ w'.cell? ⟨b + 1, 0, none⟩ = some u2 ∧ w'.cell? ⟨b + 1, 1, none⟩ = some u3 ∧ Below W.heap.size W w') (hb : Below w'.heap.size w' w'') (kb : b + 1 < W.heap.size) :
    w''.cell? ⟨b, 0, none⟩ = some u0 ∧ w''.cell? ⟨b, 1, none⟩ = some u1 ∧ w''.cell? ⟨b + 1, 0, none⟩ = some u2 ∧ w''.cell? ⟨b + 1, 1, none⟩ = some u3 ∧ Below W.heap.size W w'' := by
  obtain ⟨h0, h1, h2, h3, h4⟩ := h
  have hs := h4.size
  exact ⟨(hb.cell (p := ⟨b, 0, none⟩) (show b < _ by omega)).trans h0, (hb.cell (p := ⟨b, 1, none⟩) (show b < _ by omega)).trans h1, (hb.cell (p := ⟨b + 1, 0, none⟩) (show b + 1 < _ by omega)).trans h2, (hb.cell (p := ⟨b + 1, 1, none⟩) (show b + 1 < _ by omega)).trans h3, h4.trans (hb.mono hs)⟩
set_option maxHeartbeats 2000000 in
theorem cheaperFrom_law (Fa Fb : Int) (A A' : Option Addr) (c c' : Nat) (xa xb : List (Int × Int)) (w : World) (h : RdP w w.heap.size A xa) (h' : RdP w w.heap.size A' xb) (hall : xa.length + xb.length ≤ 1048576) : Calls Try.prog 6 #[.agg #[.int .i64 Fa, .slice A xa.length c], .agg #[.int .i64 Fb, .slice A' xb.length c']] w fun e w' => e = .returned (.bool true) ∧ Below w.heap.size w w' := by
  obtain ⟨W, hW⟩ : ∃ W, W = (w.alloc (.cells #[.int .i64 Fa, .slice A xa.length c] 24)).alloc (.cells #[.int .i64 Fb, .slice A' xb.length c'] 24) := ⟨_, rfl⟩
  have h0 : RdP W W.heap.size A xa := by rw [hW]; exact ((h.alloc (Nat.le_refl _) _).alloc (by simp) _).more (by simp; omega)
  have h1 : RdP W W.heap.size A' xb := by rw [hW]; exact ((h'.alloc (Nat.le_refl _) _).alloc (by simp) _).more (by simp; omega)
  have kb : w.heap.size + 1 < W.heap.size := by rw [hW]; simp
  have k0b : w.heap.size < W.heap.size := by omega
  have k1b := k0b
  have k2b := kb
  have k3b := kb
  have B0 : Below w.heap.size w W := by rw [hW]; exact ((Below.refl _ _).alloc (Nat.le_refl _) _).alloc (by simp) _
  have k0 : W.cell? ⟨w.heap.size, 0, none⟩ = some (.int .i64 Fa) := by rw [hW]; simp [go_sem]
  have k1 : W.cell? ⟨w.heap.size, 1, none⟩ = some (.slice A xa.length c) := by rw [hW]; simp [go_sem]
  have k2 : W.cell? ⟨w.heap.size + 1, 0, none⟩ = some (.int .i64 Fb) := by rw [hW]; simp [go_sem]
  have k3 : W.cell? ⟨w.heap.size + 1, 1, none⟩ = some (.slice A' xb.length c') := by rw [hW]; simp [go_sem]
  have BW := Below.refl W.heap.size W
  have HW := Lib.hid hW
  clear hW h h'
  have hbig : xa.length ≤ 1048576 := by omega
  have hbig' : xb.length ≤ 1048576 := by omega
  have hm : xa.length ≤ 4611686018427387904 := by omega
  have hm' : xb.length ≤ 4611686018427387904 := by omega
  have hsz : ¬ (1048576 - (xa.length : Int) < 0) := by omega
  have hsz2 : ¬ (1048576 - (xa.length : Int) - (xb.length : Int) < 0) := by omega
  have hszd : decide (1048576 - (xa.length : Int) < 0) = false := by simp; omega
  have hszd2 : decide (1048576 - (xa.length : Int) - (xb.length : Int) < 0) = false := by simp; omega
  go_enter Try.func6, Try.ntmps6
  go_wp2_with fail
  rw [← HW.out]
  clear HW
  refine (szTar_ok Fa A c xa _ hbig).mono ?_
  rintro e w1 ⟨rfl, hb1⟩
  replace BW := stepB BW hb1
  have hs1 := BW.size
  replace k0 := (hb1.cell (p := ⟨w.heap.size, 0, none⟩) (show w.heap.size < _ by omega)).trans k0
  replace k1 := (hb1.cell (p := ⟨w.heap.size, 1, none⟩) (show w.heap.size < _ by omega)).trans k1
  replace k2 := (hb1.cell (p := ⟨w.heap.size + 1, 0, none⟩) kb).trans k2
  replace k3 := (hb1.cell (p := ⟨w.heap.size + 1, 1, none⟩) kb).trans k3
  clear hb1
  go_wp2_with fail
  refine (szTar2_ok Fb A' c' xb (1048576 - xa.length) _ (by omega) (by omega)).mono ?_
  rintro e w2 ⟨rfl, hb2⟩
  replace BW := stepB BW hb2
  replace k0 := (hb2.cell (p := ⟨w.heap.size, 0, none⟩) (show w.heap.size < _ by omega)).trans k0
  replace k1 := (hb2.cell (p := ⟨w.heap.size, 1, none⟩) (show w.heap.size < _ by omega)).trans k1
  replace k2 := (hb2.cell (p := ⟨w.heap.size + 1, 0, none⟩) (show w.heap.size + 1 < _ by omega)).trans k2
  replace k3 := (hb2.cell (p := ⟨w.heap.size + 1, 1, none⟩) (show w.heap.size + 1 < _ by omega)).trans k3
  clear hb2 hs1
  go_upto_region 8 with fail
  go_cut [6, 7] (fun s6 s7 wx => s6 = .int .i64 (cheapR Fa xa Fb xb).1 ∧ s7 = .bool (cheapR Fa xa Fb xb).2 ∧ wx.cell? ⟨w.heap.size, 0, none⟩ = some (.int .i64 Fa) ∧ wx.cell? ⟨w.heap.size, 1, none⟩ = some (.slice A xa.length c) ∧ wx.cell? ⟨w.heap.size + 1, 0, none⟩ = some (.int .i64 Fb) ∧ wx.cell? ⟨w.heap.size + 1, 1, none⟩ = some (.slice A' xb.length c') ∧ Below W.heap.size W wx)
  case first =>
    go_region_held3 (fun w' => w'.cell? ⟨w.heap.size, 0, none⟩ = some (.int .i64 Fa) ∧ w'.cell? ⟨w.heap.size, 1, none⟩ = some (.slice A xa.length c) ∧ w'.cell? ⟨w.heap.size + 1, 0, none⟩ = some (.int .i64 Fb) ∧ w'.cell? ⟨w.heap.size + 1, 1, none⟩ = some (.slice A' xb.length c') ∧ Below W.heap.size W w')
      (first
        | exact ⟨k0, k1, k2, k3, BW.drew⟩
        | exact heldT (by assumption) hbC kb
        | exact heldT (by assumption) hbA kb
        | exact heldT (by assumption) hbB kb)
      (first
        | (go_at_call 17; (with_reducible refine (toTar_c Fa A c xa _ ((h0.below (‹_ ∧ _ ∧ _ ∧ _ ∧ Below W.heap.size W _›).2.2.2.2).more ((‹_ ∧ _ ∧ _ ∧ _ ∧ Below W.heap.size W _›).2.2.2.2).size) hbig).mono ?_); rintro e wA ⟨A1, c1, rfl, oA, hbA⟩; (try replace oB := oB.below hbA))
        | (go_at_call 17; (with_reducible refine (toTar_c Fb A' c' xb _ ((h1.below (‹_ ∧ _ ∧ _ ∧ _ ∧ Below W.heap.size W _›).2.2.2.2).more ((‹_ ∧ _ ∧ _ ∧ _ ∧ Below W.heap.size W _›).2.2.2.2).size) hbig').mono ?_); rintro e wB ⟨A2, c2, rfl, oB, hbB⟩; (try replace oA := oA.below hbB))
        | (go_at_call 24; refine (specCheap_c Fa Fb A1 A2 c1 c2 xa xb _ oA.rd oB.rd (Nat.le_refl _) (Nat.le_refl _) hm hm').mono ?_; rintro e wC ⟨rfl, hbC⟩))
    all_goals (have hq := ‹_ ∧ _ ∧ _ ∧ _ ∧ Below W.heap.size W _›; go_wp2_with fail; go_meet; exact ⟨rfl, rfl, hq⟩)
  case rest =>
    clear BW k0 k1 k2 k3
    obtain ⟨rfl, rfl, k0, k1, k2, k3, BW⟩ := hcut
    go_wp2_with fail
    refine (toTar_c Fa _ _ xa _ ((h0.below BW).more BW.size) hbig).mono ?_
    rintro e w3 ⟨A3, c3, rfl, o3, hb3⟩
    have hq3 := BW.size
    have l3 := ownP_least BW o3
    replace BW := stepB BW hb3
    replace k0 := (hb3.cell (p := ⟨w.heap.size, 0, none⟩) (Nat.lt_of_lt_of_le k0b hq3)).trans k0
    replace k1 := (hb3.cell (p := ⟨w.heap.size, 1, none⟩) (Nat.lt_of_lt_of_le k1b hq3)).trans k1
    replace k2 := (hb3.cell (p := ⟨w.heap.size + 1, 0, none⟩) (Nat.lt_of_lt_of_le k2b hq3)).trans k2
    replace k3 := (hb3.cell (p := ⟨w.heap.size + 1, 1, none⟩) (Nat.lt_of_lt_of_le k3b hq3)).trans k3
    clear hb3 hq3
    go_wp2_with fail
    obtain ⟨V3, hV⟩ : ∃ V, V = w3.alloc (.cells #[.int .i64 Fa, .slice A3 xa.length c3] 29) := ⟨_, rfl⟩
    rw [← hV]
    have qb : w3.heap.size < V3.heap.size := by rw [hV]; simp
    have q0 : V3.cell? ⟨w3.heap.size, 0, none⟩ = some (.int .i64 Fa) := by rw [hV]; simp [go_sem]
    have q1 : V3.cell? ⟨w3.heap.size, 1, none⟩ = some (.slice A3 xa.length c3) := by rw [hV]; simp [go_sem]
    have hqV := BW.size
    replace k0 : V3.cell? ⟨w.heap.size, 0, none⟩ = some (.int .i64 Fa) := by rw [hV]; exact (World.cell?_alloc_lt _ _ _ (Nat.lt_of_lt_of_le k0b hqV)).trans k0
    replace k1 : V3.cell? ⟨w.heap.size, 1, none⟩ = some (.slice A xa.length c) := by rw [hV]; exact (World.cell?_alloc_lt _ _ _ (Nat.lt_of_lt_of_le k1b hqV)).trans k1
    replace k2 : V3.cell? ⟨w.heap.size + 1, 0, none⟩ = some (.int .i64 Fb) := by rw [hV]; exact (World.cell?_alloc_lt _ _ _ (Nat.lt_of_lt_of_le k2b hqV)).trans k2
    replace k3 : V3.cell? ⟨w.heap.size + 1, 1, none⟩ = some (.slice A' xb.length c') := by rw [hV]; exact (World.cell?_alloc_lt _ _ _ (Nat.lt_of_lt_of_le k3b hqV)).trans k3
    have ho3 := o3.alloc (.cells #[.int .i64 Fa, .slice A3 xa.length c3] 29)
    rw [← hV] at ho3
    replace o3 := ho3
    clear ho3
    replace BW : Below W.heap.size W V3 := by rw [hV]; exact BW.alloc hqV _
    generalize w3.heap.size = q at qb q0 q1 ⊢
    clear hV hqV
    go_wp2_with fail
    refine (toTar_c Fb _ _ xb _ ((h1.below BW).more BW.size) hbig').mono ?_
    rintro e w4 ⟨A4, c4, rfl, o4, hb4⟩
    have hq4 := BW.size
    have no34 := ownP_older o3 o4 (Nat.le_refl _)
    have n4o3 := ownP_newer o4 o3 (Nat.le_refl _)
    have l4 := ownP_least BW o4
    replace BW := stepB BW hb4
    replace k0 := (hb4.cell (p := ⟨w.heap.size, 0, none⟩) (Nat.lt_of_lt_of_le k0b hq4)).trans k0
    replace k1 := (hb4.cell (p := ⟨w.heap.size, 1, none⟩) (Nat.lt_of_lt_of_le k1b hq4)).trans k1
    replace k2 := (hb4.cell (p := ⟨w.heap.size + 1, 0, none⟩) (Nat.lt_of_lt_of_le k2b hq4)).trans k2
    replace k3 := (hb4.cell (p := ⟨w.heap.size + 1, 1, none⟩) (Nat.lt_of_lt_of_le k3b hq4)).trans k3
    replace q0 := (hb4.cell (p := ⟨q, 0, none⟩) qb).trans q0
    replace q1 := (hb4.cell (p := ⟨q, 1, none⟩) qb).trans q1
    replace qb := Nat.lt_of_lt_of_le qb hb4.size
    replace o3 := o3.below hb4
    clear hb4 hq4
    go_wp2_with fail
    obtain ⟨V4, hV⟩ : ∃ V, V = w4.alloc (.cells #[.int .i64 Fb, .slice A4 xb.length c4] 29) := ⟨_, rfl⟩
    rw [← hV]
    have pb : w4.heap.size < V4.heap.size := by rw [hV]; simp
    have p0 : V4.cell? ⟨w4.heap.size, 0, none⟩ = some (.int .i64 Fb) := by rw [hV]; simp [go_sem]
    have p1 : V4.cell? ⟨w4.heap.size, 1, none⟩ = some (.slice A4 xb.length c4) := by rw [hV]; simp [go_sem]
    have hqV := BW.size
    replace k0 : V4.cell? ⟨w.heap.size, 0, none⟩ = some (.int .i64 Fa) := by rw [hV]; exact (World.cell?_alloc_lt _ _ _ (Nat.lt_of_lt_of_le k0b hqV)).trans k0
    replace k1 : V4.cell? ⟨w.heap.size, 1, none⟩ = some (.slice A xa.length c) := by rw [hV]; exact (World.cell?_alloc_lt _ _ _ (Nat.lt_of_lt_of_le k1b hqV)).trans k1
    replace k2 : V4.cell? ⟨w.heap.size + 1, 0, none⟩ = some (.int .i64 Fb) := by rw [hV]; exact (World.cell?_alloc_lt _ _ _ (Nat.lt_of_lt_of_le k2b hqV)).trans k2
    replace k3 : V4.cell? ⟨w.heap.size + 1, 1, none⟩ = some (.slice A' xb.length c') := by rw [hV]; exact (World.cell?_alloc_lt _ _ _ (Nat.lt_of_lt_of_le k3b hqV)).trans k3
    replace q0 : V4.cell? ⟨q, 0, none⟩ = some (.int .i64 Fa) := by rw [hV]; exact (World.cell?_alloc_lt _ _ _ qb).trans q0
    replace q1 : V4.cell? ⟨q, 1, none⟩ = some (.slice A3 xa.length c3) := by rw [hV]; exact (World.cell?_alloc_lt _ _ _ qb).trans q1
    replace qb : q < V4.heap.size := by rw [hV, World.size_alloc]; omega
    have ho3 := o3.alloc (.cells #[.int .i64 Fb, .slice A4 xb.length c4] 29)
    rw [← hV] at ho3
    replace o3 := ho3
    clear ho3
    have ho4 := o4.alloc (.cells #[.int .i64 Fb, .slice A4 xb.length c4] 29)
    rw [← hV] at ho4
    replace o4 := ho4
    clear ho4
    replace BW : Below W.heap.size W V4 := by rw [hV]; exact BW.alloc hqV _
    generalize w4.heap.size = p at pb p0 p1 ⊢
    clear hV hqV
    go_wp2_with fail
    refine (implCheap_c Fa Fb _ _ _ _ xa xb _ o3.rd o4.rd (Nat.le_refl _) (Nat.le_refl _) hm hm').mono ?_
    rintro e w5 ⟨rfl, hb5⟩
    have hq5 := BW.size
    replace BW := stepB BW hb5
    replace k0 := (hb5.cell (p := ⟨w.heap.size, 0, none⟩) (Nat.lt_of_lt_of_le k0b hq5)).trans k0
    replace k1 := (hb5.cell (p := ⟨w.heap.size, 1, none⟩) (Nat.lt_of_lt_of_le k1b hq5)).trans k1
    replace k2 := (hb5.cell (p := ⟨w.heap.size + 1, 0, none⟩) (Nat.lt_of_lt_of_le k2b hq5)).trans k2
    replace k3 := (hb5.cell (p := ⟨w.heap.size + 1, 1, none⟩) (Nat.lt_of_lt_of_le k3b hq5)).trans k3
    replace q0 := (hb5.cell (p := ⟨q, 0, none⟩) qb).trans q0
    replace q1 := (hb5.cell (p := ⟨q, 1, none⟩) qb).trans q1
    replace p0 := (hb5.cell (p := ⟨p, 0, none⟩) pb).trans p0
    replace p1 := (hb5.cell (p := ⟨p, 1, none⟩) pb).trans p1
    replace qb := Nat.lt_of_lt_of_le qb hb5.size
    replace pb := Nat.lt_of_lt_of_le pb hb5.size
    replace o3 := o3.below hb5
    replace o4 := o4.below hb5
    clear hb5 hq5
    go_wp2_with fail
    go_region_held3 (fun w' => w'.cell? ⟨w.heap.size, 0, none⟩ = some (.int .i64 Fa) ∧ w'.cell? ⟨w.heap.size, 1, none⟩ = some (.slice A xa.length c) ∧ w'.cell? ⟨w.heap.size + 1, 0, none⟩ = some (.int .i64 Fb) ∧ w'.cell? ⟨w.heap.size + 1, 1, none⟩ = some (.slice A' xb.length c') ∧ w'.cell? ⟨q, 0, none⟩ = some (.int .i64 Fa) ∧ w'.cell? ⟨q, 1, none⟩ = some (.slice A3 xa.length c3) ∧ w'.cell? ⟨p, 0, none⟩ = some (.int .i64 Fb) ∧ w'.cell? ⟨p, 1, none⟩ = some (.slice A4 xb.length c4)) (simp [*]) (first | (go_at_call 17; refine (toTar_c Fa _ _ xa _ (((h0.below BW).more BW.size).drewN 1) hbig).mono ?_; rintro e w6 ⟨A5, c5, rfl, o5, hb6⟩; replace BW := BW.drew; replace o3 := o3.drewN 1; replace o4 := o4.drewN 1; have hq6 := BW.size; have no35 := ownP_older o3 o5 (Nat.le_refl _); have n5o3 := ownP_newer o5 o3 (Nat.le_refl _); have no45 := ownP_older o4 o5 (Nat.le_refl _); have n5o4 := ownP_newer o5 o4 (Nat.le_refl _); have l5 := ownP_least BW o5; replace BW := stepB BW hb6; replace k0 := (hb6.cell (p := ⟨w.heap.size, 0, none⟩) (Nat.lt_of_lt_of_le k0b hq6)).trans k0; replace k1 := (hb6.cell (p := ⟨w.heap.size, 1, none⟩) (Nat.lt_of_lt_of_le k1b hq6)).trans k1; replace k2 := (hb6.cell (p := ⟨w.heap.size + 1, 0, none⟩) (Nat.lt_of_lt_of_le k2b hq6)).trans k2; replace k3 := (hb6.cell (p := ⟨w.heap.size + 1, 1, none⟩) (Nat.lt_of_lt_of_le k3b hq6)).trans k3; replace q0 := (hb6.cell (p := ⟨q, 0, none⟩) qb).trans q0; replace q1 := (hb6.cell (p := ⟨q, 1, none⟩) qb).trans q1; replace p0 := (hb6.cell (p := ⟨p, 0, none⟩) pb).trans p0; replace p1 := (hb6.cell (p := ⟨p, 1, none⟩) pb).trans p1; replace qb := Nat.lt_of_lt_of_le qb hb6.size; replace pb := Nat.lt_of_lt_of_le pb hb6.size; replace o3 := o3.below hb6; replace o4 := o4.below hb6; clear hb6 hq6) | (go_at_call 19; refine (eqTar_c Fa _ _ _ _ xa _ o3.rd o5.rd (Nat.le_refl _) (Nat.le_refl _) (by omega)).mono ?_; rintro e w7 ⟨rfl, hb7⟩; have hq7 := BW.size; replace BW := stepB BW hb7; replace k0 := (hb7.cell (p := ⟨w.heap.size, 0, none⟩) (Nat.lt_of_lt_of_le k0b hq7)).trans k0; replace k1 := (hb7.cell (p := ⟨w.heap.size, 1, none⟩) (Nat.lt_of_lt_of_le k1b hq7)).trans k1; replace k2 := (hb7.cell (p := ⟨w.heap.size + 1, 0, none⟩) (Nat.lt_of_lt_of_le k2b hq7)).trans k2; replace k3 := (hb7.cell (p := ⟨w.heap.size + 1, 1, none⟩) (Nat.lt_of_lt_of_le k3b hq7)).trans k3; replace q0 := (hb7.cell (p := ⟨q, 0, none⟩) qb).trans q0; replace q1 := (hb7.cell (p := ⟨q, 1, none⟩) qb).trans q1; replace p0 := (hb7.cell (p := ⟨p, 0, none⟩) pb).trans p0; replace p1 := (hb7.cell (p := ⟨p, 1, none⟩) pb).trans p1; replace qb := Nat.lt_of_lt_of_le qb hb7.size; replace pb := Nat.lt_of_lt_of_le pb hb7.size; replace o3 := o3.below hb7; replace o4 := o4.below hb7; replace o5 := o5.below hb7; clear hb7 hq7))
    clear o5
    go_wp2_with fail
    go_region_held3 (fun w' => w'.cell? ⟨w.heap.size, 0, none⟩ = some (.int .i64 Fa) ∧ w'.cell? ⟨w.heap.size, 1, none⟩ = some (.slice A xa.length c) ∧ w'.cell? ⟨w.heap.size + 1, 0, none⟩ = some (.int .i64 Fb) ∧ w'.cell? ⟨w.heap.size + 1, 1, none⟩ = some (.slice A' xb.length c') ∧ w'.cell? ⟨q, 0, none⟩ = some (.int .i64 Fa) ∧ w'.cell? ⟨q, 1, none⟩ = some (.slice A3 xa.length c3) ∧ w'.cell? ⟨p, 0, none⟩ = some (.int .i64 Fb) ∧ w'.cell? ⟨p, 1, none⟩ = some (.slice A4 xb.length c4)) (simp [*]) (first | (go_at_call 17; refine (toTar_c Fb _ _ xb _ (((h1.below BW).more BW.size).drewN 1) hbig').mono ?_; rintro e w8 ⟨A6, c6, rfl, o6, hb8⟩; replace BW := BW.drew; replace o3 := o3.drewN 1; replace o4 := o4.drewN 1; have hq8 := BW.size; have no36 := ownP_older o3 o6 (Nat.le_refl _); have n6o3 := ownP_newer o6 o3 (Nat.le_refl _); have no46 := ownP_older o4 o6 (Nat.le_refl _); have n6o4 := ownP_newer o6 o4 (Nat.le_refl _); have l6 := ownP_least BW o6; replace BW := stepB BW hb8; replace k0 := (hb8.cell (p := ⟨w.heap.size, 0, none⟩) (Nat.lt_of_lt_of_le k0b hq8)).trans k0; replace k1 := (hb8.cell (p := ⟨w.heap.size, 1, none⟩) (Nat.lt_of_lt_of_le k1b hq8)).trans k1; replace k2 := (hb8.cell (p := ⟨w.heap.size + 1, 0, none⟩) (Nat.lt_of_lt_of_le k2b hq8)).trans k2; replace k3 := (hb8.cell (p := ⟨w.heap.size + 1, 1, none⟩) (Nat.lt_of_lt_of_le k3b hq8)).trans k3; replace q0 := (hb8.cell (p := ⟨q, 0, none⟩) qb).trans q0; replace q1 := (hb8.cell (p := ⟨q, 1, none⟩) qb).trans q1; replace p0 := (hb8.cell (p := ⟨p, 0, none⟩) pb).trans p0; replace p1 := (hb8.cell (p := ⟨p, 1, none⟩) pb).trans p1; replace qb := Nat.lt_of_lt_of_le qb hb8.size; replace pb := Nat.lt_of_lt_of_le pb hb8.size; replace o3 := o3.below hb8; replace o4 := o4.below hb8; clear hb8 hq8) | (go_at_call 19; refine (eqTar_c Fb _ _ _ _ xb _ o4.rd o6.rd (Nat.le_refl _) (Nat.le_refl _) (by omega)).mono ?_; rintro e w9 ⟨rfl, hb9⟩; have hq9 := BW.size; replace BW := stepB BW hb9; replace k0 := (hb9.cell (p := ⟨w.heap.size, 0, none⟩) (Nat.lt_of_lt_of_le k0b hq9)).trans k0; replace k1 := (hb9.cell (p := ⟨w.heap.size, 1, none⟩) (Nat.lt_of_lt_of_le k1b hq9)).trans k1; replace k2 := (hb9.cell (p := ⟨w.heap.size + 1, 0, none⟩) (Nat.lt_of_lt_of_le k2b hq9)).trans k2; replace k3 := (hb9.cell (p := ⟨w.heap.size + 1, 1, none⟩) (Nat.lt_of_lt_of_le k3b hq9)).trans k3; replace q0 := (hb9.cell (p := ⟨q, 0, none⟩) qb).trans q0; replace q1 := (hb9.cell (p := ⟨q, 1, none⟩) qb).trans q1; replace p0 := (hb9.cell (p := ⟨p, 0, none⟩) pb).trans p0; replace p1 := (hb9.cell (p := ⟨p, 1, none⟩) pb).trans p1; replace qb := Nat.lt_of_lt_of_le qb hb9.size; replace pb := Nat.lt_of_lt_of_le pb hb9.size; replace o3 := o3.below hb9; replace o4 := o4.below hb9; replace o6 := o6.below hb9; clear hb9 hq9))
    go_wp2
    go_ret
    exact ⟨rfl, B0.trans (BW.mono (Nat.le_of_lt k0b))⟩
theorem szTar2_no (F : Int) (A : Option Addr) (c : Nat) (xs : List (Int × Int)) (L : Int) (w : World) (h : L < (xs.length : Int)) (h0 : 0 ≤ L) (h2 : L ≤ 1048576) (hm : xs.length ≤ 9223372036854775807) : Calls Try.prog 15 #[.agg #[.int .i64 F, .slice A xs.length c], .int .i64 L] w fun e w' => e = .returned (.int .i64 (-1)) ∧ Below w.heap.size w w' := by
  have e2 : (L - (xs.length : Int) < 0) := by omega
  have wr1 : IntKind.i64.wrap (L - (xs.length : Int)) = L - (xs.length : Int) := IntWalk.i64_in _ (by omega)
  go_enter Try.func15, Try.ntmps15
  go_wp2_with (go_at_call 52; go_in; go_wp2)
  (go_returns; exact ⟨by first | rfl | (simp; done) | (simp; omega), by (repeat' (first | (with_reducible exact Below.refl _ _) | (with_reducible assumption) | (with_reducible refine below_drewN ?_ _) | (with_reducible refine Below.alloc ?_ ?_ _) | (with_reducible refine Below.drew ?_) | (with_reducible refine Below.setCell ?_ ?_ _) | go_size))⟩)
theorem cheaperFrom_big1 (Fa Fb : Int) (A A' : Option Addr) (c c' : Nat) (xa xb : List (Int × Int)) (w : World) (hmax : xa.length ≤ 9223372036854775807) (hb : 1048576 < xa.length) : Calls Try.prog 6 #[.agg #[.int .i64 Fa, .slice A xa.length c], .agg #[.int .i64 Fb, .slice A' xb.length c']] w fun e w' => e = .returned (.bool true) ∧ Below w.heap.size w w' := by
  go_enter Try.func6, Try.ntmps6
  go_wp2_with (go_at_call 15; refine (szTar_no Fa A c xa _ hb hmax).mono ?_; rintro e w1 ⟨rfl, hb1⟩; have hz1 := hb1.size; (repeat (first | rw [World.size_alloc] at hz1 | rw [World.size_drew] at hz1 | rw [World.heap_drewN] at hz1 | rw [World.size_setCell] at hz1)); have hB : Below w.heap.size w w1 := Below.trans (by (repeat' (first | (with_reducible exact Below.refl _ _) | (with_reducible assumption) | (with_reducible refine below_drewN ?_ _) | (with_reducible refine Below.alloc ?_ ?_ _) | (with_reducible refine Below.drew ?_) | (with_reducible refine Below.setCell ?_ ?_ _) | go_size))) (hb1.mono (by go_size)); have hL1 := hb1; clear hb1; obtain ⟨hc1, hf1⟩ := bcell hL1)
  (go_returns; exact ⟨by first | rfl | (simp; done) | (simp; omega), by (repeat' (first | (with_reducible exact Below.refl _ _) | (with_reducible assumption) | (with_reducible refine below_drewN ?_ _) | (with_reducible refine Below.alloc ?_ ?_ _) | (with_reducible refine Below.drew ?_) | (with_reducible refine Below.setCell ?_ ?_ _) | go_size))⟩)
theorem cheaperFrom_big2 (Fa Fb : Int) (A A' : Option Addr) (c c' : Nat) (xa xb : List (Int × Int)) (w : World) (hmax : xb.length ≤ 9223372036854775807) (ha : xa.length ≤ 1048576) (hb : 1048576 < xa.length + xb.length) : Calls Try.prog 6 #[.agg #[.int .i64 Fa, .slice A xa.length c], .agg #[.int .i64 Fb, .slice A' xb.length c']] w fun e w' => e = .returned (.bool true) ∧ Below w.heap.size w w' := by
  have hsz : ¬ (1048576 - (xa.length : Int) < 0) := by omega
  go_enter Try.func6, Try.ntmps6
  go_wp2_with (first | (go_at_call 15; (with_reducible refine (szTar_ok Fa A c xa _ ha).mono ?_); rintro e w1 ⟨rfl, hb1⟩; have hz1 := hb1.size; (repeat (first | rw [World.size_alloc] at hz1 | rw [World.size_drew] at hz1 | rw [World.heap_drewN] at hz1 | rw [World.size_setCell] at hz1)); have hB : Below w.heap.size w w1 := Below.trans (by (repeat' (first | (with_reducible exact Below.refl _ _) | (with_reducible assumption) | (with_reducible refine below_drewN ?_ _) | (with_reducible refine Below.alloc ?_ ?_ _) | (with_reducible refine Below.drew ?_) | (with_reducible refine Below.setCell ?_ ?_ _) | go_size))) (hb1.mono (by go_size)); have hL1 := hb1; clear hb1; obtain ⟨hc1, hf1⟩ := bcell hL1) | (go_at_call 15; (with_reducible refine (szTar2_no Fb A' c' xb (1048576 - xa.length) _ (by omega) (by omega) (by omega) hmax).mono ?_); rintro e w2 ⟨rfl, hb2⟩; have hz2 := hb2.size; (repeat (first | rw [World.size_alloc] at hz2 | rw [World.size_drew] at hz2 | rw [World.heap_drewN] at hz2 | rw [World.size_setCell] at hz2)); replace hB : Below w.heap.size w w2 := Below.trans (by (repeat' (first | (with_reducible exact Below.refl _ _) | (with_reducible assumption) | (with_reducible refine below_drewN ?_ _) | (with_reducible refine Below.alloc ?_ ?_ _) | (with_reducible refine Below.drew ?_) | (with_reducible refine Below.setCell ?_ ?_ _) | go_size))) (hb2.mono (by go_size)); (first | (refine extend_then hL1 hb2 ?_ ?_ (fun hq => ?_); (focus ((repeat' (first | (with_reducible exact Below.refl _ _) | (with_reducible assumption) | (with_reducible refine below_drewN ?_ _) | (with_reducible refine Below.alloc ?_ ?_ _) | (with_reducible refine Below.drew ?_) | (with_reducible refine Below.setCell ?_ ?_ _) | go_size)); done)); (focus (go_size; done)); replace hL1 := hq; clear hq hc1 hf1; obtain ⟨hc1, hf1⟩ := bcell hL1) | (clear hL1 hc1 hf1) | skip); have hL2 := hb2; clear hb2; obtain ⟨hc2, hf2⟩ := bcell hL2))
  (go_returns; exact ⟨by first | rfl | (simp; done) | (simp; omega), by (repeat' (first | (with_reducible exact Below.refl _ _) | (with_reducible assumption) | (with_reducible refine below_drewN ?_ _) | (with_reducible refine Below.alloc ?_ ?_ _) | (with_reducible refine Below.drew ?_) | (with_reducible refine Below.setCell ?_ ?_ _) | go_size))⟩)
theorem cheaperFrom_all (Fa Fb : Int) (A A' : Option Addr) (c c' : Nat) (xa xb : List (Int × Int)) (w : World) (h : RdP w w.heap.size A xa) (h' : RdP w w.heap.size A' xb) (hmax : xa.length ≤ 9223372036854775807) (hmax' : xb.length ≤ 9223372036854775807) : Calls Try.prog 6 #[.agg #[.int .i64 Fa, .slice A xa.length c], .agg #[.int .i64 Fb, .slice A' xb.length c']] w fun e w' => e = .returned (.bool true) ∧ Below w.heap.size w w' := by
  by_cases h1 : xa.length ≤ 1048576
  · by_cases h2 : xa.length + xb.length ≤ 1048576
    · exact cheaperFrom_law Fa Fb A A' c c' xa xb w h h' h2
    · exact cheaperFrom_big2 Fa Fb A A' c c' xa xb w hmax' h1 (by omega)
  · exact cheaperFrom_big1 Fa Fb A A' c c' xa xb w hmax (by omega)
end Go.Proofs.Ytbfaejacfhblkaa
