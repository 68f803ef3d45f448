/- Contracts: parcels cut at a volume. -/
import Derived.Test.YtjpijcmfnckmaaaPAddS
import Derived.Test.YtjpijcmfnckmaaaPCutP
namespace Go.Proofs.Ytjpijcmfnckmaaa
open Go.RowKit

/-- Two slices of the call's own, apart. -/
def Own2 (w : World) (base : Nat) (v : Value) (xs : List (Int × Int)) (u : Value) (ys : List (Int × Int)) : Prop := OwnP w base v xs ∧ OwnP w base u ys ∧ ∀ g, v.ownBlock = some g → u.ownBlock ≠ some g
theorem apart_of {v u : Value} (h : ∀ g, v.ownBlock = some g → u.ownBlock ≠ some g) : u.ownBlock = none ∨ u.ownBlock ≠ v.ownBlock := by
  cases hu : u.ownBlock with
  | none => exact .inl rfl
  | some k => exact .inr fun e => h k e.symm hu
theorem apart_of' {v u : Value} (h : ∀ g, v.ownBlock = some g → u.ownBlock ≠ some g) : v.ownBlock = none ∨ v.ownBlock ≠ u.ownBlock := by
  cases hv : v.ownBlock with
  | none => exact .inl rfl
  | some k => exact .inr fun e => h k hv e.symm
theorem Own2.alloc {w : World} {base : Nat} {v u : Value} {xs ys : List (Int × Int)} (h : Own2 w base v xs u ys) (o : Obj) : Own2 (w.alloc o) base v xs u ys := ⟨h.1.alloc o, h.2.1.alloc o, h.2.2⟩
/-- The first of two is put on. -/
theorem Own2.left {w w' : World} {base : Nat} {v u v' : Value} {xs ys xs' : List (Int × Int)} (h : Own2 w base v xs u ys) (hown : OwnP w' base v' xs') (hg : w.grownBy w' v.ownBlock) (hat : v'.ownBlock = v.ownBlock ∨ ∀ g, v'.ownBlock = some g → w.heap.size ≤ g) : Own2 w' base v' xs' u ys := by
  refine ⟨hown, h.2.1.kept hg (apart_of h.2.2), fun g e => ?_⟩
  rcases hat with e2 | e2
  · exact h.2.2 g (e2 ▸ e)
  · intro e3
    have a := (h.2.1.lt g e3).2
    have b := e2 g e
    omega
theorem Own2.right {w w' : World} {base : Nat} {v u u' : Value} {xs ys ys' : List (Int × Int)} (h : Own2 w base v xs u ys) (hown : OwnP w' base u' ys') (hg : w.grownBy w' u.ownBlock) (hat : u'.ownBlock = u.ownBlock ∨ ∀ g, u'.ownBlock = some g → w.heap.size ≤ g) : Own2 w' base v xs u' ys' := by
  refine ⟨h.1.kept hg (apart_of' h.2.2), hown, fun g e e3 => ?_⟩
  rcases hat with e2 | e2
  · exact h.2.2 g e (e2 ▸ e3)
  · have a := (h.1.lt g e).2
    have b := e2 g e3
    omega
theorem at_new {w : World} {v v' : Value} (h : v'.ownBlock = v.ownBlock ∨ v'.ownBlock = some w.heap.size) : v'.ownBlock = v.ownBlock ∨ ∀ g, v'.ownBlock = some g → w.heap.size ≤ g := h.imp id fun e g h => by
  rw [e] at h
  cases h
  exact Nat.le_refl _
theorem below_of_grown {w w' : World} {base : Nat} {v : Value} {xs : List (Int × Int)} (o : OwnP w base v xs) (hg : w.grownBy w' v.ownBlock) (hb : base ≤ w.heap.size) : Below base w w' := (Below.refl base w).grown hg hb fun g e => (o.lt g e).1
set_option maxHeartbeats 1000000 in
theorem cut_c {B : Nat} (A : Option Addr) (c : Nat) (xs : List (Int × Int)) (v : Int) (w : World) (h : RdP w B A xs) (hBs : B ≤ w.heap.size) (hok : okAll xs) (hn : xs.length ≤ 60000) (hv0 : 0 ≤ v) (hv1 : v ≤ 1000000) :
    Calls Try.prog 50 #[.slice A xs.length c, .int .i64 v] w fun e w' => ∃ A1 c1 A2 c2, e = .returned (.tuple #[.slice A1 (joinT (firstT xs v xs.length) xs.length).length c1, .slice A2 (joinT (restT xs v xs.length) xs.length).length c2]) ∧
      Own2 w' w.heap.size (.slice A1 (joinT (firstT xs v xs.length) xs.length).length c1) (joinT (firstT xs v xs.length) xs.length) (.slice A2 (joinT (restT xs v xs.length) xs.length).length c2) (joinT (restT xs v xs.length) xs.length) ∧ Below w.heap.size w w' := by
  go_enter Try.func50, Try.ntmps50
  go_wp2
  go_loopw [1, 6, 7, 9, 10, 15] (fun vv f r _ _ i wr => ∃ k : Nat, k ≤ xs.length ∧ i = .int .i64 k ∧ vv = .int .i64 (volK xs v k) ∧ Own2 wr w.heap.size f (firstT xs v k) r (restT xs v k) ∧ Below w.heap.size w wr) (fun _ _ _ _ _ i _ => xs.length - (intOf i).toNat)
  case atStart => exact ⟨0, by omega, rfl, rfl, ⟨(OwnP.empty w _ (Nat.le_refl _)).alloc _, OwnP.empty2 w _ _ (by omega), fun g e e2 => by simp [Value.ownBlock] at e e2; omega⟩, by (repeat' (first | (with_reducible exact Below.refl _ _) | (with_reducible assumption) | (with_reducible refine below_drewN ?_ _) | (with_reducible refine Below.alloc ?_ ?_ _) | (with_reducible refine Below.drew ?_) | (with_reducible refine Below.setCell ?_ ?_ _) | go_size))⟩
  case round =>
    obtain ⟨k, hk, rfl, rfl, hown, hB⟩ := hrel
    have hsz := hB.size
    by_cases hlt : k < xs.length
    · obtain ⟨b, off, x, y, rfl, hx, hbB, hc0, hc1⟩ := (h.below (hB.mono hBs)).at_ hlt
      have hi : (k : Int) < (xs.length : Int) := by omega
      have ok := hok k x y hlt hx
      have vb := volK_b hok hv0 k hk
      have hl1 : (firstT xs v k).length ≤ 65536 := by rw [firstT_len]; omega
      have hl2 : (restT xs v k).length ≤ 65536 := by rw [restT_len]; omega
      have HF := Lib.hid (firstT_next (v := v) hx)
      have HRR := Lib.hid (restT_next (v := v) hx)
      have HV := Lib.hid (volK_next (v := v) hx)
      have mb : 0 ≤ minI x (volK xs v k) ∧ minI x (volK xs v k) ≤ x ∧ minI x (volK xs v k) ≤ volK xs v k := by unfold minI; split <;> omega
      have hif : (if volK xs v k < x then volK xs v k else x) = minI x (volK xs v k) := by unfold minI; split <;> split <;> omega
      generalize minI x (volK xs v k) = mm at *
      have w1' : IntKind.i64.wrap (volK xs v k - mm) = volK xs v k - mm := IntWalk.i64_in _ (by omega)
      have w2' : IntKind.i64.wrap (x - mm) = x - mm := IntWalk.i64_in _ (by omega)
      generalize firstT xs v k = fs at *
      generalize restT xs v k = rs at *
      obtain ⟨A1, c1, rfl⟩ := hown.1.shape
      obtain ⟨A2, c2, rfl⟩ := hown.2.1.shape
      have O2 := (hown.alloc (.cells #[.int .i64 x, .int .i64 y] 26)).alloc (.cells #[.int .i64 mm, .int .i64 y] 26)
      have HO := Lib.hid O2
      have hne := fun gg e => (hown.1.lt gg e).2
      have HNE := Lib.hid hne
      have H := Lib.hid h
      clear hx h hown O2 hne
      go_wp2_with (first | (at_builtin; refine wpList_appR (B := wr.heap.size + 1 + 1) rfl (.tmp 26) (.tmp 31) rfl w.heap.size (.slice A1 fs.length c1) _ _ fs [(mm, y)] rfl HO.out.1 rfl (RdP.lit2 wr _ mm y _) hl1 (by simp) (by simp; omega) ?_; intro v1 w1 hown1 hg1 hat1; have O3 := HO.out.left hown1 hg1 (at_new hat1); have B1 := below_of_grown HO.out.1 hg1 (by simp; omega); have z1 := hg1.size; have e0 : w1.cell? ⟨wr.heap.size, 0, none⟩ = some (.int .i64 x) := (hg1.cell_far' ⟨wr.heap.size, 0, none⟩ (by simp) (fun e => absurd (HNE.out _ e.symm) (Nat.lt_irrefl _))).trans (by simp [go_sem]); have e1 : w1.cell? ⟨wr.heap.size, 1, none⟩ = some (.int .i64 y) := (hg1.cell_far' ⟨wr.heap.size, 1, none⟩ (by simp) (fun e => absurd (HNE.out _ e.symm) (Nat.lt_irrefl _))).trans (by simp [go_sem]); have HO3 := Lib.hid O3; clear O3 hown1 hat1) | (at_builtin; refine wpList_appR (B := w1.heap.size + 1) rfl (.tmp 33) (.tmp 41) rfl w.heap.size (.slice A2 rs.length c2) _ _ rs [(x - mm, y)] rfl (HO3.out.alloc _).2.1 rfl (RdP.lit w1 (x - mm) y _) hl2 (by simp) (by simp at z1 ⊢; omega) ?_; intro v2 w2 hown2 hg2 hat2; have B2 := below_of_grown (HO3.out.alloc _).2.1 hg2 (by simp at z1 ⊢; omega); have O4 := (HO3.out.alloc _).right hown2 hg2 (at_new hat2)))
      go_roundw
      case rel => exact ⟨k + 1, by omega, by go_num, by rw [HV.out], by rw [HF.out, HRR.out]; exact O4, ((((hB.alloc hsz _).alloc (by simp; omega) _).trans B1).alloc (by simp at z1 ⊢; omega) _).trans B2⟩
      case measure => simp [intOf]; omega
    · obtain rfl : k = xs.length := by omega
      have hl1 := firstT_len xs v xs.length
      have hl2 := restT_len xs v xs.length
      have hb1 := firstT_bnd hok hv0 xs.length (Nat.le_refl _)
      have hb2 := restT_bnd hok hv0 xs.length (Nat.le_refl _)
      have hj1 : joinT (firstT xs v xs.length) (firstT xs v xs.length).length = joinT (firstT xs v xs.length) xs.length := by rw [hl1]
      have hj2 : joinT (restT xs v xs.length) (restT xs v xs.length).length = joinT (restT xs v xs.length) xs.length := by rw [hl2]
      have HJ1 := Lib.hid hj1
      have HJ2 := Lib.hid hj2
      have hy1 : (firstT xs v xs.length).length ≤ 60000 := by omega
      have hy2 : (restT xs v xs.length).length ≤ 60000 := by omega
      obtain ⟨A1, c1, rfl⟩ := hown.1.shape
      obtain ⟨A2, c2, rfl⟩ := hown.2.1.shape
      have hrd1 := hown.1.rd
      have hrd2 := hown.2.1.rd
      have hsz := hB.size
      clear hown h hl1 hl2 hj1 hj2
      go_wp2_with (first | (go_at_call 62; (with_reducible refine (joined_c A1 c1 (firstT xs v xs.length) _ hrd1 (Nat.le_refl _) hb1 hy1).mono ?_); rintro e w2 ⟨A3, c3, rfl, o3, hb3⟩; have hrd3 := (hrd2.below hb3).more hb3.size; have z3 := hb3.size) | (go_at_call 62; (with_reducible refine (joined_c A2 c2 (restT xs v xs.length) _ hrd3 (Nat.le_refl _) hb2 hy2).mono ?_); rintro e w3 ⟨A4, c4, rfl, o4, hb4⟩))
      rw [HJ1.out] at o3
      rw [HJ2.out] at o4
      go_ret2
      exact ⟨A3, c3, A4, c4, by rw [← HJ1.out, ← HJ2.out]; rfl, ⟨(o3.below hb4).weak hsz, o4.weak (by omega), fun g e e2 => by have a := (o3.lt g e).2; have b := (o4.lt g e2).1; omega⟩, (hB.trans (hb3.mono hsz)).trans (hb4.mono (by omega))⟩
end Go.Proofs.Ytjpijcmfnckmaaa
