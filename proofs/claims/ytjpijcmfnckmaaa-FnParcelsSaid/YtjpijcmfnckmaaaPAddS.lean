/- Contracts: a parcel put behind a list (the reference). -/
import Derived.Test.YtjpijcmfnckmaaaPAdd
import Derived.Test.YtjpijcmfnckmaaaPApp
namespace Go.Proofs.Ytjpijcmfnckmaaa
open Go.RowKit

set_option maxHeartbeats 1000000 in
theorem l15Add_c (v : Value) (ys : List (Int × Int)) (x y : Int) (base : Nat) (w : World) (ho : OwnP w base v ys) (hb : base ≤ w.heap.size) (hle : ys.length ≤ 60000) (hbnd : bnd ys 1000000) (hx0 : 0 ≤ x) (hx1 : x ≤ 1000) :
    Calls Try.prog 55 #[v, .agg #[.int .i64 x, .int .i64 y]] w (RetA w base v (addP ys (x, y))) := by
  have hll : (ys.length : Int) ≤ 60000 := by omega
  have hle' : ys.length ≤ 65536 := by omega
  have hoA := ho.alloc (.cells #[.int .i64 x, .int .i64 y] 26)
  by_cases hz : x = 0
  · subst hz
    rw [addP_none rfl]
    obtain ⟨A', c', rfl⟩ := ho.shape
    have HO := Lib.hid hoA
    clear ho hbnd hoA
    go_enter Try.func55, Try.ntmps55
    go_wp2
    go_ret
    exact ⟨_, rfl, HO.out, World.grownBy_alloc _ _ _, .inl rfl⟩
  rcases Nat.eq_zero_or_pos ys.length with h0 | hpos
  · have e := List.eq_nil_of_length_eq_zero h0
    subst e
    rw [addP_first hz]
    obtain ⟨A', c', rfl⟩ := ho.shape
    have HO := Lib.hid hoA
    clear ho hbnd hoA
    go_enter Try.func55, Try.ntmps55
    go_wp2
    go_quiet (fail)
    go_wp2_with (at_builtin; refine wpList_appR rfl (.tmp 46) (.tmp 48) rfl base _ _ _ [] [(x, y)] rfl ((HO.out.drewN nq).alloc _) rfl (RdP.two (B := w.heap.size + 1 + 1) (by simp [go_sem]) (by simp [go_sem]) (by omega)) (by simp) (by simp) (by simp; omega) ?_; intro v1 w1 hown1 hg1 hat1)
    go_ret
    exact retA_of hown1 hg1 hat1 (by (repeat' (first | (with_reducible exact Below.refl _ _) | (with_reducible assumption) | (with_reducible refine below_drewN ?_ _) | (with_reducible refine Below.alloc ?_ ?_ _) | (with_reducible refine Below.drew ?_) | (with_reducible refine Below.setCell ?_ ?_ _) | go_size)))
  · obtain ⟨g, cap, m, V, G, rfl, hm, hV, hgb1, hgb2, hcap, d0, d1, df⟩ := ho.last hpos
    have hVb := bnd_at hbnd (by omega) hV
    have wr1 : IntKind.i64.wrap ((m : Int) + 1 - 1) = (m : Int) := by rw [IntWalk.i64_in _ (by omega)]; omega
    have hmi : (m : Int) < (m : Int) + 1 := by omega
    have hmp : (0 : Int) < (m : Int) + 1 := by omega
    have wr2 : IntKind.i64.wrap (V + x) = V + x := IntWalk.i64_in _ (by omega)
    by_cases hq : G = y
    · subst hq
      rw [addP_same hz hm hV]
      have hci : (m : Int) ≤ (cap : Int) := by omega
      have hcn : m ≤ cap := by omega
      have hcz : ¬ cap = 0 := by omega
      have wrm : IntKind.i64.wrap (m : Int) = m := IntWalk.i64_in _ (by omega)
      have hrd := ho.rd.take m
      have HO := Lib.hid hoA
      clear ho hbnd hoA hV hpos
      go_enter Try.func55, Try.ntmps55
      go_wp2
      go_quiet (fail)
      go_wp2
      have hlt : (ys.take m).length = m := by rw [List.length_take]; omega
      obtain ⟨W, hW⟩ : ∃ W, W = ((w.alloc (.cells #[.int .i64 x, .int .i64 G] 26)).drewN nq).alloc (.cells #[.int .i64 (V + x), .int .i64 G] 26) := ⟨_, rfl⟩
      rw [← hW]
      have BW : Below w.heap.size w W := by rw [hW]; (repeat' (first | (with_reducible exact Below.refl _ _) | (with_reducible assumption) | (with_reducible refine below_drewN ?_ _) | (with_reducible refine Below.alloc ?_ ?_ _) | (with_reducible refine Below.drew ?_) | (with_reducible refine Below.setCell ?_ ?_ _) | go_size))
      have SW : w.heap.size + 1 + 1 ≤ W.heap.size := by rw [hW]; simp
      have e0 : W.cell? ⟨w.heap.size + 1, 0, none⟩ = some (.int .i64 (V + x)) := by rw [hW]; simp [go_sem]
      have e1 : W.cell? ⟨w.heap.size + 1, 1, none⟩ = some (.int .i64 G) := by rw [hW]; simp [go_sem]
      clear hW
      go_region_held3 (fun w' => w'.cell? ⟨w.heap.size + 1, 0, none⟩ = some (.int .i64 (V + x)) ∧ w'.cell? ⟨w.heap.size + 1, 1, none⟩ = some (.int .i64 G) ∧ Below w.heap.size w w' ∧ w.heap.size + 1 + 1 ≤ w'.heap.size)
        (first
          | exact ⟨e0, e1, BW.drew, SW⟩
          | exact held_alloc (by assumption) _ (by omega)
          | exact held_grown (by assumption) hg2 ho2 (by omega) (by omega)
          | exact held_grown (by assumption) hg1 ho1 (by omega) (by omega))
        (first
          | (refine step_appPs rfl (.tmp 37) (.tmp 41) (by rfl) (w.heap.size + 1 + 1) (.slice (some ⟨_, 0, none⟩) 0 0) _ _ [] (ys.take m) (by rfl) (by first | exact (OwnP.empty W (w.heap.size + 1 + 1) (by omega)).drew | exact ((OwnP.empty W (w.heap.size + 1 + 1) (by omega)).alloc _).drew | exact (OwnP.empty2 W _ (w.heap.size + 1 + 1) (by omega)).drew | exact OwnP.empty W (w.heap.size + 1 + 1) (by omega) | exact (OwnP.empty W (w.heap.size + 1 + 1) (by omega)).alloc _ | exact OwnP.empty2 W _ (w.heap.size + 1 + 1) (by omega)) (by rw [hlt]; rfl) (hrd.below (‹_ ∧ _ ∧ Below w.heap.size w _ ∧ _›).2.2.1) (by simp) (by omega) (by have := (‹_ ∧ _ ∧ Below w.heap.size w _ ∧ _›).2.2.2; omega) ?_; intro v1 w1 hown1 hg1 ho1; have sz1 := hg1.size)
          | (refine step_appPs (B := w1.heap.size + 1) rfl (.tmp 42) (.tmp 44) (by rfl) (w.heap.size + 1 + 1) v1 _ _ (ys.take m) [(V + x, G)] (by rfl) (by first | exact hown1 | exact hown1.alloc _ | exact (hown1.alloc _).drew | exact hown1.drew) (by rfl) (by first | exact RdP.lit w1 _ _ _ | exact (RdP.lit w1 _ _ _).drew | (refine RdP.more (RdP.far (B := W.heap.size + 1 + 1) (hg := hg1) (h := ?_) (hH := ?_) (hne := ?_)) ?_ <;> first | exact RdP.lit2 W _ _ _ _ | exact (RdP.lit2 W _ _ _ _).drew | exact ((RdP.lit W _ _ _).alloc (by simp) _).more (by omega) | exact (((RdP.lit W _ _ _).alloc (by simp) _).more (by omega)).drew | (simp at sz1 ⊢; omega) | (simp [Value.ownBlock]; done))) (by omega) (by simp) (by have := (‹_ ∧ _ ∧ Below w.heap.size w _ ∧ _›).2.2.2; omega) ?_; intro v2 w2 hown2 hg2 ho2))
      all_goals
        go_wp2
        go_ret
        exact retA_new hb (hown2.weak (by omega)) (‹_ ∧ _ ∧ Below w.heap.size w _ ∧ _›).2.2.1
    · rw [addP_other hz hm hV hq]
      have HO := Lib.hid hoA
      clear ho hbnd hoA hV hpos
      go_enter Try.func55, Try.ntmps55
      go_wp2
      go_quiet (fail)
      go_wp2_with (at_builtin; refine wpList_appR rfl (.tmp 46) (.tmp 48) rfl base _ _ _ ys [(x, y)] rfl ((HO.out.drewN nq).alloc _) rfl (RdP.two (B := w.heap.size + 1 + 1) (by simp [go_sem]) (by simp [go_sem]) (by omega)) hle' (by simp) (by simp; omega) ?_; intro v1 w1 hown1 hg1 hat1)
      go_ret
      exact retA_of hown1 hg1 hat1 (by (repeat' (first | (with_reducible exact Below.refl _ _) | (with_reducible assumption) | (with_reducible refine below_drewN ?_ _) | (with_reducible refine Below.alloc ?_ ?_ _) | (with_reducible refine Below.drew ?_) | (with_reducible refine Below.setCell ?_ ?_ _) | go_size)))
end Go.Proofs.Ytjpijcmfnckmaaa
