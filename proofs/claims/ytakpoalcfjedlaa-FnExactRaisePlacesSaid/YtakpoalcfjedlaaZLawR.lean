/- The law on RaisePlaces, walked. -/
import Derived.Test.YtakpoalcfjedlaaZRaise
namespace Go.Proofs.Ytakpoalcfjedlaa
open Go.RowKit

set_option maxHeartbeats 1000000 in
theorem raisePlaces_law (A : Option Addr) (c : Nat) (xs : List Int) (m : Int) (w : World) (h : RdI w w.heap.size A xs) (hmax : xs.length ≤ 9223372036854775807)  : Calls Try.prog 4 #[.slice A xs.length c, .int .i64 m] w fun e w' => e = .returned (.bool true) ∧ Below w.heap.size w w' := by
  by_cases hbig : xs.length ≤ 1048576
  · have hbi : ¬ (1048576 : Int) < (xs.length : Int) := by omega
    have hr : (raiseL xs m).1.length ≤ 1048576 := raiseL_len xs m hbig
    clear hmax
    go_enter Try.func4, Try.ntmps4
    go_wp2_with fail
    refine (toIntS_c _ _ xs _ h hbig).mono ?_
    rintro e w1 ⟨A1, c1, rfl, o1, hb1⟩
    have s1 := hb1.size
    have h1 := (h.below hb1).more s1
    go_wp2_with fail
    refine (specRaise_c A1 c1 xs m _ o1.rd hbig).mono ?_
    rintro e w2 ⟨A2, c2, rfl, o2, hb2⟩
    have s2 := hb2.size
    have h2 := (h1.below hb2).more s2
    have B2 := hb1.trans (hb2.mono s1)
    clear o1 h1
    go_wp2_with fail
    refine (toIntS_c _ _ xs _ h2 hbig).mono ?_
    rintro e w3 ⟨A3, c3, rfl, o3, hb3⟩
    have s3 := hb3.size
    have h3 := (h2.below hb3).more s3
    have n23 := own_older o2 o3 (Nat.le_refl _)
    have l3 := fun g hg => (o3.lt g hg).1
    have B3 := B2.trans (hb3.mono (by omega))
    replace o2 := o2.below hb3
    clear h2
    go_wp2_with fail
    refine (implRaise_c A3 c3 xs m _ o3.rd hbig).mono ?_
    rintro e w4 ⟨A4, c4, rfl, o4, hb4⟩
    have s4 := hb4.size
    have h4 := (h3.below hb4).more s4
    have n24 := own_older o2 o4 (Nat.le_refl _)
    have n43 := own_newer o4 o3 (Nat.le_refl _)
    have l4 := fun g hg => (o4.lt g hg).1
    have B4 := B3.trans (hb4.mono (by omega))
    have p4 := (h.below B4)
    replace o2 := o2.below hb4
    replace o3 := o3.below hb4
    clear h3
    go_wp2_with fail
    refine (eqIntS_c _ _ _ _ _ _ o4.rd o2.rd (by omega)).mono ?_
    rintro e w' ⟨rfl, n5, rfl⟩
    replace o2 := o2.drewN n5
    replace o3 := o3.drewN n5
    replace o4 := o4.drewN n5
    replace p4 := p4.drewN n5
    go_wp2_with fail
    refine (toIntS_c _ _ xs _ (h4.drewN n5) hbig).mono ?_
    rintro e w5 ⟨A5, c5, rfl, o5, hb5⟩
    have s5 := hb5.size
    have B5 := (below_drewN B4 n5).trans (hb5.mono (by simp; omega))
    have p5 := h.below B5
    replace o2 := o2.below hb5
    replace o3 := o3.below hb5
    replace o4 := o4.below hb5
    clear h4 p4
    go_wp2_with fail
    refine (eqIntS_c _ _ _ _ _ _ o3.rd o5.rd (by omega)).mono ?_
    rintro e w' ⟨rfl, n7, rfl⟩
    replace o2 := o2.drewN n7
    replace o3 := o3.drewN n7
    replace o4 := o4.drewN n7
    replace p5 := p5.drewN n7
    clear o5
    go_wp2_with fail
    refine (markIntS_c _ _ _ _ _ _ o3 (by omega) (by omega) (by omega)).mono ?_
    rintro e w6 ⟨rfl, o3', hg8⟩
    replace o2 := o2.kept hg8 n23
    replace o4 := o4.kept hg8 n43
    have s6 := hg8.size
    have B6 := (below_drewN B5 n7).grown hg8 (by simp at s5 ⊢; omega) (fun k hk => by have := l3 k hk; omega)
    have p6 := h.below B6
    clear o3 o3' p5
    go_wp2_with fail
    refine (eqIntS_c _ _ _ _ _ _ o4.rd o2.rd (by omega)).mono ?_
    rintro e w' ⟨rfl, n9, rfl⟩
    replace o2 := o2.drewN n9
    replace o4 := o4.drewN n9
    go_wp2_with fail
    refine (markIntS_c _ _ _ _ _ _ o4 (by omega) (by omega) (by omega)).mono ?_
    rintro e w7 ⟨rfl, o4', hg10⟩
    replace o2 := o2.kept hg10 n24
    have s7 := hg10.size
    have B7 := (below_drewN B6 n9).grown hg10 (by simp at s5 s6 ⊢; omega) (fun k hk => by have := l4 k hk; omega)
    have z7 := B7.size
    have p7 := (h.below B7).more z7
    have e4 := marks_length 1 (raiseL xs m).1.length
    have r4 : RdI w7 w7.heap.size A4 (marks 1 (raiseL xs m).1.length) := by
      have o4'' := o4'
      rw [← e4] at o4''
      exact OwnI.rd (cap := c4) (by rw [e4] at o4'' ⊢; exact o4')
    clear o4 p6 e4
    go_wp2_with fail
    refine (heldIntS_c _ _ _ _ _ r4 (by omega) (by omega) (by omega)).mono ?_
    rintro e w' ⟨rfl, rfl⟩
    go_wp2_with fail
    refine (toIntS_c _ _ xs _ p7 hbig).mono ?_
    rintro e w8 ⟨A6, c6, rfl, o6, hb12⟩
    have s8 := hb12.size
    have B8 := B7.trans (hb12.mono z7)
    replace o2 := o2.below hb12
    replace r4 := r4.below hb12
    clear p7
    go_wp2_with fail
    refine (implRaise_c A6 c6 xs m _ o6.rd hbig).mono ?_
    rintro e w9 ⟨A7, c7, rfl, o7, hb13⟩
    have B9 := B8.trans (hb13.mono (by omega))
    replace o2 := o2.below hb13
    replace r4 := (r4.more s8).below hb13
    clear o6
    go_wp2_with fail
    refine (eqIntS_c _ _ _ _ _ _ o7.rd o2.rd (by omega)).mono ?_
    rintro e w' ⟨rfl, n14, rfl⟩
    replace r4 := r4.drewN n14
    go_wp2_with fail
    refine (heldIntS_c _ _ _ _ _ r4 (by omega) (by omega) (by omega)).mono ?_
    rintro e w' ⟨rfl, rfl⟩
    go_wp2
    go_ret
    exact ⟨rfl, below_drewN B9 n14⟩
  · have hbi : (1048576 : Int) < (xs.length : Int) := by omega
    go_enter Try.func4, Try.ntmps4
    go_wp2
    go_ret
    exact ⟨rfl, Below.refl _ _⟩
end Go.Proofs.Ytakpoalcfjedlaa
