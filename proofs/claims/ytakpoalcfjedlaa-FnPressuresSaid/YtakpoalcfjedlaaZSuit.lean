/- The places that a level suits: contracts. -/
import Derived.Test.YtakpoalcfjedlaaZRule
namespace Go.Proofs.Ytakpoalcfjedlaa
open Go.RowKit

set_option maxHeartbeats 1000000 in
theorem suitedPlaces_c (A : Option Addr) (c : Nat) (xs : List Int) (L M l : Int) (w : World) (h : RdI w w.heap.size A xs) (hm : xs.length ≤ 12) (hx0 : ∀ j, j < xs.length → 0 ≤ xs.getD j 0 ∧ xs.getD j 0 ≤ 1000) (a : 0 ≤ l) (b : l ≤ 2000) :
    Calls Try.prog 51 #[.slice A xs.length c, .agg #[.int .i64 L, .int .i64 M], .int .i64 l] w (RetI w (suitedL xs L M l) id) := by
  go_enter Try.func51, Try.ntmps51
  go_wp2_with fail
  go_loopw [7, 13] (fun v i wr => ∃ k : Nat, k ≤ xs.length ∧ i = .int .i64 k ∧ OwnI wr (w.heap.size + 1) v (suitK (suitP L M l) xs k) ∧ Below w.heap.size w wr ∧ w.heap.size + 1 < wr.heap.size ∧ wr.cell? ⟨w.heap.size, 0, none⟩ = some (.int .i64 L) ∧ wr.cell? ⟨w.heap.size, 1, none⟩ = some (.int .i64 M)) (fun _ i _ => xs.length - (intOf i).toNat)
  case atStart => exact ⟨0, by omega, rfl, own_empty2 w _ _ (Nat.le_refl _), by (repeat' (first | (with_reducible exact Below.refl _ _) | (with_reducible assumption) | (with_reducible refine below_drewN ?_ _) | (with_reducible refine Below.alloc ?_ ?_ _) | (with_reducible refine Below.drew ?_) | (with_reducible refine Below.setCell ?_ ?_ _) | go_size)), by simp, by simp [go_sem], by simp [go_sem]⟩
  case round =>
    obtain ⟨k, hk, rfl, hown, hBB, hsz, c0, c1⟩ := hrel
    have hlen := suitK_len (suitP L M l) xs k
    by_cases hlt : k < xs.length
    · obtain ⟨b, off, x, rfl, hx, hb, hc0⟩ := h.at_ hlt
      have hc := (hBB.cell (p := ⟨b, off + k, none⟩) hb).trans hc0
      have hxb := hx0 k hlt
      rw [← hx] at hxb
      obtain ⟨x1, x2⟩ := hxb
      clear hx0 hc0 h
      cases hp : suitP L M l x
      · have hts := suitK_no hx hp
        have HT := Lib.hid hts
        clear hx hts
        go_wp2_with (first | (go_at_call 68; refine (suits_c L M l x _ (by omega) (by omega) (by omega) (by omega)).mono ?_; rintro y w1 ⟨rfl, hb1⟩; have z1 := hb1.size; have hown1 := hown.below hb1; have B1 := hBB.trans (hb1.mono (by omega)); obtain ⟨hc1, hf1⟩ := bcell hb1))
        go_roundw
        case rel => exact ⟨k + 1, by omega, by go_num, by rw [HT.out]; exact hown1, B1, by omega, by simp [*, go_sem], by simp [*, go_sem]⟩
        case measure => simp [intOf]; omega
      · have hts := suitK_yes hx hp
        have HT := Lib.hid hts
        clear hx hts
        go_wp2_with (first | (go_at_call 68; refine (suits_c L M l x _ (by omega) (by omega) (by omega) (by omega)).mono ?_; rintro y w1 ⟨rfl, hb1⟩; have z1 := hb1.size; have hown1 := hown.below hb1; have B1 := hBB.trans (hb1.mono (by omega)); obtain ⟨hc1, hf1⟩ := bcell hb1) | (at_builtin; refine wpList_appI rfl (.tmp 22) (.tmp 24) rfl (w.heap.size + 1) _ _ _ rfl hown1 rfl (by omega) (by omega) ?_; intro v2 w2 hown2 hb2))
        have q0 : w2.cell? ⟨w.heap.size, 0, none⟩ = some (.int .i64 L) := (hb2.cell (p := ⟨w.heap.size, 0, none⟩) (by simp)).trans (by simp [*, go_sem])
        have q1 : w2.cell? ⟨w.heap.size, 1, none⟩ = some (.int .i64 M) := (hb2.cell (p := ⟨w.heap.size, 1, none⟩) (by simp)).trans (by simp [*, go_sem])
        go_roundw
        case rel => exact ⟨k + 1, by omega, by go_num, by rw [HT.out]; exact hown2, B1.trans (hb2.mono (by omega)), by have := hb2.size; omega, q0, q1⟩
        case measure => simp [intOf]; omega
    · have hk' : k = xs.length := by omega
      subst hk'
      obtain ⟨A', c', rfl⟩ := hown.shape
      clear h hx0
      go_wp2
      go_ret
      exact ⟨_, _, rfl, hown.weak (by omega), hBB⟩

set_option maxHeartbeats 1000000 in
theorem l12Suited_c (A : Option Addr) (c : Nat) (xs : List Int) (L M l : Int) (w : World) (h : RdI w w.heap.size A xs) (hm : xs.length ≤ 12) (hx0 : ∀ j, j < xs.length → 0 ≤ xs.getD j 0 ∧ xs.getD j 0 ≤ 1000) (a : 0 ≤ l) (b : l ≤ 2000) :
    Calls Try.prog 49 #[.slice A xs.length c, .agg #[.int .i64 L, .int .i64 M], .int .i64 l] w (RetI w (suitedL xs L M l) id) := by
  go_enter Try.func49, Try.ntmps49
  go_wp2_with fail
  go_loopw [7, 8] (fun v i wr => ∃ k : Nat, k ≤ xs.length ∧ i = .int .i64 k ∧ OwnI wr (w.heap.size + 1) v (suitK (suitP L M l) xs k) ∧ Below w.heap.size w wr ∧ w.heap.size + 1 < wr.heap.size ∧ wr.cell? ⟨w.heap.size, 0, none⟩ = some (.int .i64 L) ∧ wr.cell? ⟨w.heap.size, 1, none⟩ = some (.int .i64 M)) (fun _ i _ => xs.length - (intOf i).toNat)
  case atStart => exact ⟨0, by omega, rfl, own_empty2 w _ _ (Nat.le_refl _), by (repeat' (first | (with_reducible exact Below.refl _ _) | (with_reducible assumption) | (with_reducible refine below_drewN ?_ _) | (with_reducible refine Below.alloc ?_ ?_ _) | (with_reducible refine Below.drew ?_) | (with_reducible refine Below.setCell ?_ ?_ _) | go_size)), by simp, by simp [go_sem], by simp [go_sem]⟩
  case round =>
    obtain ⟨k, hk, rfl, hown, hBB, hsz, c0, c1⟩ := hrel
    have hlen := suitK_len (suitP L M l) xs k
    by_cases hlt : k < xs.length
    · obtain ⟨b, off, x, rfl, hx, hb, hc0⟩ := h.at_ hlt
      have hc := (hBB.cell (p := ⟨b, off + k, none⟩) hb).trans hc0
      have hxb := hx0 k hlt
      rw [← hx] at hxb
      obtain ⟨x1, x2⟩ := hxb
      clear hx0 hc0 h
      cases hp : suitP L M l x
      · have hts := suitK_no hx hp
        have HT := Lib.hid hts
        clear hx hts
        go_wp2
        go_region_held3 (fun w' => w'.cell? ⟨w.heap.size, 0, none⟩ = some (.int .i64 L) ∧ w'.cell? ⟨w.heap.size, 1, none⟩ = some (.int .i64 M) ∧ w'.cell? ⟨b, off + k, none⟩ = some (.int .i64 x)) (simp (maxDischargeDepth := 3) [*, go_sem]) (first | (go_at_call 65; refine (l12Suits_c L M l x _ (by omega) (by omega) (by omega) (by omega)).mono ?_; rintro y w1 ⟨rfl, hb1⟩; have z1 : wr.heap.size ≤ w1.heap.size := hb1.size; have hown1 := (hown.drewN 1).below hb1; have B1 := (below_drewN hBB 1).trans (hb1.mono (show w.heap.size ≤ wr.heap.size by omega)); obtain ⟨hc1, hf1⟩ := bcell hb1))
        go_wp2_with (first | (go_at_call 65; refine (l12Suits_c L M l x _ (by omega) (by omega) (by omega) (by omega)).mono ?_; rintro y w1 ⟨rfl, hb1⟩; have z1 := hb1.size; have hown1 := hown.below hb1; have B1 := hBB.trans (hb1.mono (by omega)); obtain ⟨hc1, hf1⟩ := bcell hb1))
        go_roundw
        case rel => exact ⟨k + 1, by omega, by go_num, by rw [HT.out]; exact hown1, B1, by omega, by simp [*, go_sem], by simp [*, go_sem]⟩
        case measure => simp [intOf]; omega
      · have hts := suitK_yes hx hp
        have HT := Lib.hid hts
        clear hx hts
        go_wp2
        go_region_held3 (fun w' => w'.cell? ⟨w.heap.size, 0, none⟩ = some (.int .i64 L) ∧ w'.cell? ⟨w.heap.size, 1, none⟩ = some (.int .i64 M) ∧ w'.cell? ⟨b, off + k, none⟩ = some (.int .i64 x)) (simp (maxDischargeDepth := 3) [*, go_sem]) (first | (go_at_call 65; refine (l12Suits_c L M l x _ (by omega) (by omega) (by omega) (by omega)).mono ?_; rintro y w1 ⟨rfl, hb1⟩; have z1 : wr.heap.size ≤ w1.heap.size := hb1.size; have hown1 := (hown.drewN 1).below hb1; have B1 := (below_drewN hBB 1).trans (hb1.mono (show w.heap.size ≤ wr.heap.size by omega)); obtain ⟨hc1, hf1⟩ := bcell hb1))
        go_wp2_with (first | (go_at_call 65; refine (l12Suits_c L M l x _ (by omega) (by omega) (by omega) (by omega)).mono ?_; rintro y w1 ⟨rfl, hb1⟩; have z1 := hb1.size; have hown1 := hown.below hb1; have B1 := hBB.trans (hb1.mono (by omega)); obtain ⟨hc1, hf1⟩ := bcell hb1) | (at_builtin; refine wpList_appI rfl (.tmp 23) (.tmp 25) rfl (w.heap.size + 1) _ _ _ rfl hown1 rfl (by omega) (by omega) ?_; intro v2 w2 hown2 hb2))
        have q0 : w2.cell? ⟨w.heap.size, 0, none⟩ = some (.int .i64 L) := (hb2.cell (p := ⟨w.heap.size, 0, none⟩) (by simp)).trans (by simp [*, go_sem])
        have q1 : w2.cell? ⟨w.heap.size, 1, none⟩ = some (.int .i64 M) := (hb2.cell (p := ⟨w.heap.size, 1, none⟩) (by simp)).trans (by simp [*, go_sem])
        go_roundw
        case rel => exact ⟨k + 1, by omega, by go_num, by rw [HT.out]; exact hown2, B1.trans (hb2.mono (by omega)), by have := hb2.size; omega, q0, q1⟩
        case measure => simp [intOf]; omega
    · have hk' : k = xs.length := by omega
      subst hk'
      obtain ⟨A', c', rfl⟩ := hown.shape
      clear h hx0
      go_wp2
      go_ret
      exact ⟨_, _, rfl, hown.weak (by omega), hBB⟩

end Go.Proofs.Ytakpoalcfjedlaa
