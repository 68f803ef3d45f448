/- PressuresAt: contracts. -/
import Derived.Test.YtakpoalcfjedlaaZWalk
namespace Go.Proofs.Ytakpoalcfjedlaa
open Go.RowKit

set_option maxHeartbeats 400000 in
theorem implPres_c (A : Option Addr) (c : Nat) (xs : List Int) (l : Int) (w : World) (h : RdI w w.heap.size A xs) (hm0 : xs.length ≤ 1048576) :
    Calls Try.prog 14 #[.slice A xs.length c, .int .i64 l] w (RetI w (presL xs l).1 (fun v => .tuple #[v, .bool (presL xs l).2])) := by
  have hm : xs.length ≤ 4611686018427387904 := by omega
  cases h1 : goodL xs
  · rw [presL_no (.inl h1)]
    go_enter Try.func14, Try.ntmps14
    go_wp2_with (first | (go_at_call 44; refine (arePlaces_c _ _ _ _ h hm).mono ?_; rintro e w' ⟨rfl, rfl⟩) | (go_at_call 45; refine (isZoneLevel_c _ _).mono ?_; rintro e w' ⟨rfl, rfl⟩))
    go_ret2
    exact ⟨_, _, rfl, OwnI.nil _ _, Below.refl _ _⟩
  cases h2 : inB l 0 2000
  · rw [presL_no (.inr h2)]
    go_enter Try.func14, Try.ntmps14
    go_wp2_with (first | (go_at_call 44; refine (arePlaces_c _ _ _ _ h hm).mono ?_; rintro e w' ⟨rfl, rfl⟩) | (go_at_call 45; refine (isZoneLevel_c _ _).mono ?_; rintro e w' ⟨rfl, rfl⟩))
    go_ret2
    exact ⟨_, _, rfl, OwnI.nil _ _, Below.refl _ _⟩
  obtain ⟨l1, l2⟩ := inB_out h2
  obtain ⟨g1, g2⟩ := goodL_out h1
  rw [presL_yes h1 h2]
  go_enter Try.func14, Try.ntmps14
  go_wp2_with (first | (go_at_call 44; refine (arePlaces_c _ _ _ _ h hm).mono ?_; rintro e w' ⟨rfl, rfl⟩) | (go_at_call 45; refine (isZoneLevel_c _ _).mono ?_; rintro e w' ⟨rfl, rfl⟩))
  go_loopw [6, 20] (fun v i wr => ∃ k : Nat, k ≤ xs.length ∧ i = .int .i64 k ∧ OwnI wr w.heap.size v ((xs.take k).map (l - ·)) ∧ Below w.heap.size w wr ∧ w.heap.size < wr.heap.size) (fun _ i _ => xs.length - (intOf i).toNat)
  case atStart => exact ⟨0, by omega, rfl, own_empty w _ (Nat.le_refl _), by (repeat' (first | (with_reducible exact Below.refl _ _) | (with_reducible assumption) | (with_reducible refine below_drewN ?_ _) | (with_reducible refine Below.alloc ?_ ?_ _) | (with_reducible refine Below.drew ?_) | (with_reducible refine Below.setCell ?_ ?_ _) | go_size)), by simp⟩
  case round =>
    obtain ⟨k, hk, rfl, hown, hB, hsz⟩ := hrel
    by_cases hlt : k < xs.length
    · obtain ⟨b, off, x, rfl, hx, hb, hc0⟩ := h.at_ hlt
      have hc := (hB.cell (p := ⟨b, off + k, none⟩) hb).trans hc0
      have hxb := g2 k hlt
      rw [← hx] at hxb
      obtain ⟨x1, x2⟩ := hxb
      have hlen : ((xs.take k).map (l - ·)).length ≤ 65536 := by simp; omega
      have hts := take_snoc_map (f := (l - ·)) hlt hx
      have HT := Lib.hid hts
      clear hx hc0 h hts g2
      go_wp2_with (at_builtin; refine wpList_appI rfl (.tmp 24) (.tmp 28) rfl w.heap.size _ _ _ rfl hown rfl hlen (by omega) ?_; intro v1 w1 hown1 hb1)
      go_roundw
      case rel => exact ⟨k + 1, by omega, by go_num, by rw [← HT.out]; exact hown1, hB.trans hb1, by have := hb1.size; omega⟩
      case measure => simp [intOf]; omega
    · have hk' : k = xs.length := by omega
      subst hk'
      rw [List.take_length] at hown
      obtain ⟨A', c', rfl⟩ := hown.shape
      clear h g2
      go_wp2
      go_ret2
      exact ⟨_, _, by simp, hown, hB⟩
set_option maxHeartbeats 400000 in
theorem specPres_c (A : Option Addr) (c : Nat) (xs : List Int) (l : Int) (w : World) (h : RdI w w.heap.size A xs) (hm0 : xs.length ≤ 1048576) :
    Calls Try.prog 12 #[.slice A xs.length c, .int .i64 l] w (RetI w (presL xs l).1 (fun v => .tuple #[v, .bool (presL xs l).2])) := by
  have hm : xs.length ≤ 4611686018427387904 := by omega
  cases h1 : goodL xs
  · rw [presL_no (.inl h1)]
    go_enter Try.func12, Try.ntmps12
    go_wp2_with (first | (go_at_call 42; refine (l12List_c _ _ _ _ (h.alloc (Nat.le_refl _) _) hm).mono ?_; rintro e w' ⟨rfl, rfl⟩) | (go_at_call 43; refine (l12Level_c _ _).mono ?_; rintro e w' ⟨rfl, rfl⟩))
    go_ret2
    exact ⟨_, _, rfl, own_empty w _ (Nat.le_refl _), by (repeat' (first | (with_reducible exact Below.refl _ _) | (with_reducible assumption) | (with_reducible refine below_drewN ?_ _) | (with_reducible refine Below.alloc ?_ ?_ _) | (with_reducible refine Below.drew ?_) | (with_reducible refine Below.setCell ?_ ?_ _) | go_size))⟩
  cases h2 : inB l 0 2000
  · rw [presL_no (.inr h2)]
    go_enter Try.func12, Try.ntmps12
    go_wp2_with (first | (go_at_call 42; refine (l12List_c _ _ _ _ (h.alloc (Nat.le_refl _) _) hm).mono ?_; rintro e w' ⟨rfl, rfl⟩) | (go_at_call 43; refine (l12Level_c _ _).mono ?_; rintro e w' ⟨rfl, rfl⟩))
    go_ret2
    exact ⟨_, _, rfl, own_empty w _ (Nat.le_refl _), by (repeat' (first | (with_reducible exact Below.refl _ _) | (with_reducible assumption) | (with_reducible refine below_drewN ?_ _) | (with_reducible refine Below.alloc ?_ ?_ _) | (with_reducible refine Below.drew ?_) | (with_reducible refine Below.setCell ?_ ?_ _) | go_size))⟩
  obtain ⟨l1, l2⟩ := inB_out h2
  obtain ⟨g1, g2⟩ := goodL_out h1
  rw [presL_yes h1 h2]
  go_enter Try.func12, Try.ntmps12
  go_wp2_with (first | (go_at_call 42; refine (l12List_c _ _ _ _ (h.alloc (Nat.le_refl _) _) hm).mono ?_; rintro e w' ⟨rfl, rfl⟩) | (go_at_call 43; refine (l12Level_c _ _).mono ?_; rintro e w' ⟨rfl, rfl⟩))
  go_loopw [6, 7] (fun v i wr => ∃ k : Nat, k ≤ xs.length ∧ i = .int .i64 k ∧ OwnI wr w.heap.size v ((xs.take k).map (l - ·)) ∧ Below w.heap.size w wr ∧ w.heap.size < wr.heap.size) (fun _ i _ => xs.length - (intOf i).toNat)
  case atStart => exact ⟨0, by omega, rfl, own_empty w _ (Nat.le_refl _), by (repeat' (first | (with_reducible exact Below.refl _ _) | (with_reducible assumption) | (with_reducible refine below_drewN ?_ _) | (with_reducible refine Below.alloc ?_ ?_ _) | (with_reducible refine Below.drew ?_) | (with_reducible refine Below.setCell ?_ ?_ _) | go_size)), by simp⟩
  case round =>
    obtain ⟨k, hk, rfl, hown, hB, hsz⟩ := hrel
    by_cases hlt : k < xs.length
    · obtain ⟨b, off, x, rfl, hx, hb, hc0⟩ := h.at_ hlt
      have hc := (hB.cell (p := ⟨b, off + k, none⟩) hb).trans hc0
      have hxb := g2 k hlt
      rw [← hx] at hxb
      obtain ⟨x1, x2⟩ := hxb
      have hlen : ((xs.take k).map (l - ·)).length ≤ 65536 := by simp; omega
      have hts := take_snoc_map (f := (l - ·)) hlt hx
      have HT := Lib.hid hts
      clear hx hc0 h hts g2
      go_wp2_with (at_builtin; refine wpList_appI rfl (.tmp 24) (.tmp 31) rfl w.heap.size _ _ _ rfl hown rfl hlen (by omega) ?_; intro v1 w1 hown1 hb1)
      go_roundw
      case rel => exact ⟨k + 1, by omega, by go_num, by rw [← HT.out]; exact hown1, hB.trans hb1, by have := hb1.size; omega⟩
      case measure => simp [intOf]; omega
    · have hk' : k = xs.length := by omega
      subst hk'
      rw [List.take_length] at hown
      obtain ⟨A', c', rfl⟩ := hown.shape
      clear h g2
      go_wp2
      go_ret2
      exact ⟨_, _, by simp, hown, hB⟩
end Go.Proofs.Ytakpoalcfjedlaa
