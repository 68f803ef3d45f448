/- RaisePlaces: contracts. -/
import Derived.Test.YtakpoalcfjedlaaZWalk
namespace Go.Proofs.Ytakpoalcfjedlaa
open Go.RowKit

set_option maxHeartbeats 400000 in
theorem implRaise_c (A : Option Addr) (c : Nat) (xs : List Int) (m : Int) (w : World) (h : RdI w w.heap.size A xs) (hm0 : xs.length ≤ 1048576) :
    Calls Try.prog 19 #[.slice A xs.length c, .int .i64 m] w (RetI w (raiseL xs m).1 (fun v => .tuple #[v, .bool (raiseL xs m).2])) := by
  have hm : xs.length ≤ 4611686018427387904 := by omega
  cases h1 : goodL xs
  · rw [raiseL_no (.inl h1)]
    go_enter Try.func19, Try.ntmps19
    go_wp2_with (first | (go_at_call 44; refine (arePlaces_c _ _ _ _ h hm).mono ?_; rintro e w' ⟨rfl, rfl⟩) | (go_at_call 47; refine (inside_c _ _ _ _).mono ?_; rintro e w' ⟨rfl, rfl⟩))
    go_ret2
    exact ⟨_, _, rfl, OwnI.nil _ _, Below.refl _ _⟩
  cases h2 : inB m (-1000) 1000
  · rw [raiseL_no (.inr (.inl h2))]
    go_enter Try.func19, Try.ntmps19
    go_wp2_with (first | (go_at_call 44; refine (arePlaces_c _ _ _ _ h hm).mono ?_; rintro e w' ⟨rfl, rfl⟩) | (go_at_call 47; refine (inside_c _ _ _ _).mono ?_; rintro e w' ⟨rfl, rfl⟩))
    go_ret2
    exact ⟨_, _, rfl, OwnI.nil _ _, Below.refl _ _⟩
  obtain ⟨m1, m2⟩ := inB_out h2
  obtain ⟨g1, g2⟩ := goodL_out h1
  generalize hres : raiseL xs m = res
  have HRES := Lib.hid hres
  clear hres
  go_enter Try.func19, Try.ntmps19
  go_wp2_with (first | (go_at_call 44; refine (arePlaces_c _ _ _ _ h hm).mono ?_; rintro e w' ⟨rfl, rfl⟩) | (go_at_call 47; refine (inside_c _ _ _ _).mono ?_; rintro e w' ⟨rfl, rfl⟩))
  go_loopw [6, 20] (fun v i wr => ∃ k : Nat, k ≤ xs.length ∧ i = .int .i64 k ∧ OwnI wr w.heap.size v ((xs.take k).map (· + m)) ∧ Below w.heap.size w wr ∧ w.heap.size < wr.heap.size) (fun _ i _ => xs.length - (intOf i).toNat)
  case atStart => exact ⟨0, by omega, rfl, own_empty w _ (Nat.le_refl _), by (repeat' (first | (with_reducible exact Below.refl _ _) | (with_reducible assumption) | (with_reducible refine below_drewN ?_ _) | (with_reducible refine Below.alloc ?_ ?_ _) | (with_reducible refine Below.drew ?_) | (with_reducible refine Below.setCell ?_ ?_ _) | go_size)), by simp⟩
  case round =>
    obtain ⟨k, hk, rfl, hown, hB, hsz⟩ := hrel
    by_cases hlt : k < xs.length
    · obtain ⟨b, off, x, rfl, hx, hb, hc0⟩ := h.at_ hlt
      have hc := (hB.cell (p := ⟨b, off + k, none⟩) hb).trans hc0
      have hxb := g2 k hlt
      rw [← hx] at hxb
      obtain ⟨x1, x2⟩ := hxb
      have hlen : ((xs.take k).map (· + m)).length ≤ 65536 := by simp; omega
      have hts := take_snoc_map (f := (· + m)) hlt hx
      have HT := Lib.hid hts
      clear hx hc0 h hts g2
      go_wp2_with (at_builtin; refine wpList_appI rfl (.tmp 24) (.tmp 28) rfl w.heap.size _ _ _ rfl hown rfl hlen (by omega) ?_; intro v1 w1 hown1 hb1)
      go_roundw
      case rel => exact ⟨k + 1, by omega, by go_num, by rw [← HT.out]; exact hown1, hB.trans hb1, by have := hb1.size; omega⟩
      case measure => simp [intOf]; omega
    · have hk' : k = xs.length := by omega
      subst hk'
      rw [List.take_length] at hown
      have hl : (xs.map (· + m)).length ≤ 4611686018427387904 := by simpa using hm
      obtain ⟨A', c', rfl⟩ := hown.shape
      have hrd := hown.rd
      cases h3 : goodL (xs.map (· + m))
      · have hr := raiseL_no (.inr (.inr h3))
        rw [HRES.out] at hr
        subst hr
        clear h g2 HRES
        generalize hys : xs.map (· + m) = ys at *
        go_wp2_with (go_at_call 44; refine (arePlaces_c _ _ _ _ hrd hl).mono ?_; rintro e w' ⟨rfl, rfl⟩)
        go_ret2
        exact ⟨_, _, rfl, OwnI.nil _ _, hB⟩
      · have hr := raiseL_yes h1 h2 h3
        rw [HRES.out] at hr
        subst hr
        clear h g2 HRES
        generalize hys : xs.map (· + m) = ys at *
        go_wp2_with (go_at_call 44; refine (arePlaces_c _ _ _ _ hrd hl).mono ?_; rintro e w' ⟨rfl, rfl⟩)
        go_ret2
        exact ⟨_, _, rfl, hown, hB⟩

set_option maxHeartbeats 400000 in
theorem specRaise_c (A : Option Addr) (c : Nat) (xs : List Int) (m : Int) (w : World) (h : RdI w w.heap.size A xs) (hm0 : xs.length ≤ 1048576) :
    Calls Try.prog 18 #[.slice A xs.length c, .int .i64 m] w (RetI w (raiseL xs m).1 (fun v => .tuple #[v, .bool (raiseL xs m).2])) := by
  have hm : xs.length ≤ 4611686018427387904 := by omega
  cases h1 : goodL xs
  · rw [raiseL_no (.inl h1)]
    go_enter Try.func18, Try.ntmps18
    go_wp2_with (first | (go_at_call 42; refine (l12List_c _ _ _ _ (h.alloc (Nat.le_refl _) _) hm).mono ?_; rintro e w' ⟨rfl, rfl⟩) | (go_at_call 46; refine (l1In_c _ _ _ _).mono ?_; rintro e w' ⟨rfl, rfl⟩))
    go_ret2
    exact ⟨_, _, rfl, own_empty w _ (Nat.le_refl _), by (repeat' (first | (with_reducible exact Below.refl _ _) | (with_reducible assumption) | (with_reducible refine below_drewN ?_ _) | (with_reducible refine Below.alloc ?_ ?_ _) | (with_reducible refine Below.drew ?_) | (with_reducible refine Below.setCell ?_ ?_ _) | go_size))⟩
  cases h2 : inB m (-1000) 1000
  · rw [raiseL_no (.inr (.inl h2))]
    go_enter Try.func18, Try.ntmps18
    go_wp2_with (first | (go_at_call 42; refine (l12List_c _ _ _ _ (h.alloc (Nat.le_refl _) _) hm).mono ?_; rintro e w' ⟨rfl, rfl⟩) | (go_at_call 46; refine (l1In_c _ _ _ _).mono ?_; rintro e w' ⟨rfl, rfl⟩))
    go_ret2
    exact ⟨_, _, rfl, own_empty w _ (Nat.le_refl _), by (repeat' (first | (with_reducible exact Below.refl _ _) | (with_reducible assumption) | (with_reducible refine below_drewN ?_ _) | (with_reducible refine Below.alloc ?_ ?_ _) | (with_reducible refine Below.drew ?_) | (with_reducible refine Below.setCell ?_ ?_ _) | go_size))⟩
  obtain ⟨m1, m2⟩ := inB_out h2
  obtain ⟨g1, g2⟩ := goodL_out h1
  generalize hres : raiseL xs m = res
  have HRES := Lib.hid hres
  clear hres
  go_enter Try.func18, Try.ntmps18
  go_wp2_with (first | (go_at_call 42; refine (l12List_c _ _ _ _ (h.alloc (Nat.le_refl _) _) hm).mono ?_; rintro e w' ⟨rfl, rfl⟩) | (go_at_call 46; refine (l1In_c _ _ _ _).mono ?_; rintro e w' ⟨rfl, rfl⟩))
  go_loopw [6, 7] (fun v i wr => ∃ k : Nat, k ≤ xs.length ∧ i = .int .i64 k ∧ OwnI wr w.heap.size v ((xs.take k).map (· + m)) ∧ Below w.heap.size w wr ∧ w.heap.size < wr.heap.size) (fun _ i _ => xs.length - (intOf i).toNat)
  case atStart => exact ⟨0, by omega, rfl, own_empty w _ (Nat.le_refl _), by (repeat' (first | (with_reducible exact Below.refl _ _) | (with_reducible assumption) | (with_reducible refine below_drewN ?_ _) | (with_reducible refine Below.alloc ?_ ?_ _) | (with_reducible refine Below.drew ?_) | (with_reducible refine Below.setCell ?_ ?_ _) | go_size)), by simp⟩
  case round =>
    obtain ⟨k, hk, rfl, hown, hB, hsz⟩ := hrel
    by_cases hlt : k < xs.length
    · obtain ⟨b, off, x, rfl, hx, hb, hc0⟩ := h.at_ hlt
      have hc := (hB.cell (p := ⟨b, off + k, none⟩) hb).trans hc0
      have hxb := g2 k hlt
      rw [← hx] at hxb
      obtain ⟨x1, x2⟩ := hxb
      have hlen : ((xs.take k).map (· + m)).length ≤ 65536 := by simp; omega
      have hts := take_snoc_map (f := (· + m)) hlt hx
      have HT := Lib.hid hts
      clear hx hc0 h hts g2
      go_wp2_with (at_builtin; refine wpList_appI rfl (.tmp 24) (.tmp 31) rfl w.heap.size _ _ _ rfl hown rfl hlen (by omega) ?_; intro v1 w1 hown1 hb1)
      go_roundw
      case rel => exact ⟨k + 1, by omega, by go_num, by rw [← HT.out]; exact hown1, hB.trans hb1, by have := hb1.size; omega⟩
      case measure => simp [intOf]; omega
    · have hk' : k = xs.length := by omega
      subst hk'
      rw [List.take_length] at hown
      have hl : (xs.map (· + m)).length ≤ 4611686018427387904 := by simpa using hm
      obtain ⟨A', c', rfl⟩ := hown.shape
      have hrd := hown.rd
      cases h3 : goodL (xs.map (· + m))
      · have hr := raiseL_no (.inr (.inr h3))
        rw [HRES.out] at hr
        subst hr
        clear h g2 HRES
        generalize hys : xs.map (· + m) = ys at *
        go_wp2_with (go_at_call 42; refine (l12List_c _ _ _ _ hrd hl).mono ?_; rintro e w' ⟨rfl, rfl⟩)
        go_ret2
        exact ⟨_, _, rfl, (own_empty wr _ hB.size).weak (Nat.le_refl _), hB.alloc hB.size _⟩
      · have hr := raiseL_yes h1 h2 h3
        rw [HRES.out] at hr
        subst hr
        clear h g2 HRES
        generalize hys : xs.map (· + m) = ys at *
        go_wp2_with (go_at_call 42; refine (l12List_c _ _ _ _ hrd hl).mono ?_; rintro e w' ⟨rfl, rfl⟩)
        go_ret2
        exact ⟨_, _, rfl, hown, hB⟩

end Go.Proofs.Ytakpoalcfjedlaa
