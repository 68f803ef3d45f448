/- DecayParcels: contracts. -/
import Derived.Test.YtjpijcmfnckmaaaPAddS
import Derived.Test.YtjpijcmfnckmaaaPDPlain
namespace Go.Proofs.Ytjpijcmfnckmaaa
open Go.RowKit

set_option maxHeartbeats 1000000 in
theorem implDec_c (A : Option Addr) (c : Nat) (xs : List (Int × Int)) (n d : Int) (w : World) (h : RdP w w.heap.size A xs) (hm0 : xs.length ≤ 1048576) :
    Calls Try.prog 40 #[.slice A xs.length c, .int .i64 n, .int .i64 d] w (RetP w (decR xs n d).1 (fun v => .tuple #[v, .bool (decR xs n d).2])) := by
  have hm : xs.length ≤ 4611686018427387904 := by omega
  have hBs := Nat.le_refl w.heap.size
  cases h1 : goodPs xs
  · rw [decR_no h1]
    go_enter Try.func40, Try.ntmps40
    go_wp2_with (first | (go_at_call 19; refine (implPipe_c _ _ _ _ h hBs hm).mono ?_; rintro e w1 ⟨rfl, hb1⟩; have hz1 := hb1.size; (repeat (first | rw [World.size_alloc] at hz1 | rw [World.size_drew] at hz1 | rw [World.heap_drewN] at hz1 | rw [World.size_setCell] at hz1)); have hB : Below w.heap.size w w1 := Below.trans (by (repeat' (first | (with_reducible exact Below.refl _ _) | (with_reducible assumption) | (with_reducible refine below_drewN ?_ _) | (with_reducible refine Below.alloc ?_ ?_ _) | (with_reducible refine Below.drew ?_) | (with_reducible refine Below.setCell ?_ ?_ _) | go_size))) (hb1.mono (by go_size)); have hL1 := hb1; clear hb1; obtain ⟨hc1, hf1⟩ := bcell hL1) | (go_at_call 56; refine (inside_c _ _ _ _).mono ?_; rintro e w' ⟨rfl, rfl⟩))
    go_returns
    exact ⟨_, _, rfl, OwnP.nil _ _, by (repeat' (first | (with_reducible exact Below.refl _ _) | (with_reducible assumption) | (with_reducible refine below_drewN ?_ _) | (with_reducible refine Below.alloc ?_ ?_ _) | (with_reducible refine Below.drew ?_) | (with_reducible refine Below.setCell ?_ ?_ _) | go_size))⟩
  cases h2 : inB d 1 100
  · rw [decR_no2 h2]
    go_enter Try.func40, Try.ntmps40
    go_wp2_with (first | (go_at_call 19; refine (implPipe_c _ _ _ _ h hBs hm).mono ?_; rintro e w1 ⟨rfl, hb1⟩; have hz1 := hb1.size; (repeat (first | rw [World.size_alloc] at hz1 | rw [World.size_drew] at hz1 | rw [World.heap_drewN] at hz1 | rw [World.size_setCell] at hz1)); have hB : Below w.heap.size w w1 := Below.trans (by (repeat' (first | (with_reducible exact Below.refl _ _) | (with_reducible assumption) | (with_reducible refine below_drewN ?_ _) | (with_reducible refine Below.alloc ?_ ?_ _) | (with_reducible refine Below.drew ?_) | (with_reducible refine Below.setCell ?_ ?_ _) | go_size))) (hb1.mono (by go_size)); have hL1 := hb1; clear hb1; obtain ⟨hc1, hf1⟩ := bcell hL1) | (go_at_call 56; refine (inside_c _ _ _ _).mono ?_; rintro e w' ⟨rfl, rfl⟩))
    go_returns
    exact ⟨_, _, rfl, OwnP.nil _ _, by (repeat' (first | (with_reducible exact Below.refl _ _) | (with_reducible assumption) | (with_reducible refine below_drewN ?_ _) | (with_reducible refine Below.alloc ?_ ?_ _) | (with_reducible refine Below.drew ?_) | (with_reducible refine Below.setCell ?_ ?_ _) | go_size))⟩
  cases h3 : inB n 0 d
  · rw [decR_no3 h3]
    go_enter Try.func40, Try.ntmps40
    go_wp2_with (first | (go_at_call 19; refine (implPipe_c _ _ _ _ h hBs hm).mono ?_; rintro e w1 ⟨rfl, hb1⟩; have hz1 := hb1.size; (repeat (first | rw [World.size_alloc] at hz1 | rw [World.size_drew] at hz1 | rw [World.heap_drewN] at hz1 | rw [World.size_setCell] at hz1)); have hB : Below w.heap.size w w1 := Below.trans (by (repeat' (first | (with_reducible exact Below.refl _ _) | (with_reducible assumption) | (with_reducible refine below_drewN ?_ _) | (with_reducible refine Below.alloc ?_ ?_ _) | (with_reducible refine Below.drew ?_) | (with_reducible refine Below.setCell ?_ ?_ _) | go_size))) (hb1.mono (by go_size)); have hL1 := hb1; clear hb1; obtain ⟨hc1, hf1⟩ := bcell hL1) | (go_at_call 56; refine (inside_c _ _ _ _).mono ?_; rintro e w' ⟨rfl, rfl⟩))
    go_returns
    exact ⟨_, _, rfl, OwnP.nil _ _, by (repeat' (first | (with_reducible exact Below.refl _ _) | (with_reducible assumption) | (with_reducible refine below_drewN ?_ _) | (with_reducible refine Below.alloc ?_ ?_ _) | (with_reducible refine Below.drew ?_) | (with_reducible refine Below.setCell ?_ ?_ _) | go_size))⟩
  have g := goodPs_out h1
  have hd := inB_out h2
  have hn := inB_out h3
  rw [decR_yes h1 h2 h3]
  go_enter Try.func40, Try.ntmps40
  go_wp2_with (first | (go_at_call 19; refine (implPipe_c _ _ _ _ h hBs hm).mono ?_; rintro e w1 ⟨rfl, hb1⟩; have hz1 := hb1.size; (repeat (first | rw [World.size_alloc] at hz1 | rw [World.size_drew] at hz1 | rw [World.heap_drewN] at hz1 | rw [World.size_setCell] at hz1)); have hB : Below w.heap.size w w1 := Below.trans (by (repeat' (first | (with_reducible exact Below.refl _ _) | (with_reducible assumption) | (with_reducible refine below_drewN ?_ _) | (with_reducible refine Below.alloc ?_ ?_ _) | (with_reducible refine Below.drew ?_) | (with_reducible refine Below.setCell ?_ ?_ _) | go_size))) (hb1.mono (by go_size)); have hL1 := hb1; clear hb1; obtain ⟨hc1, hf1⟩ := bcell hL1) | (go_at_call 56; refine (inside_c _ _ _ _).mono ?_; rintro e w' ⟨rfl, rfl⟩))
  go_loopw [8, 10, 28] (fun o _ i wr => ∃ k : Nat, k ≤ xs.length ∧ i = .int .i64 k ∧ OwnP wr w.heap.size o ((decP n d xs).take k) ∧ Below w.heap.size w wr) (fun _ _ i _ => xs.length - (intOf i).toNat)
  case atStart => exact ⟨0, by omega, rfl, OwnP.empty w1 _ (by omega), by (repeat' (first | (with_reducible exact Below.refl _ _) | (with_reducible assumption) | (with_reducible refine below_drewN ?_ _) | (with_reducible refine Below.alloc ?_ ?_ _) | (with_reducible refine Below.drew ?_) | (with_reducible refine Below.setCell ?_ ?_ _) | go_size))⟩
  case round =>
    clear hL1 hc1 hf1 hz1 hB
    obtain ⟨k, hk, rfl, hown, hB⟩ := hrel
    have hsz := hB.size
    by_cases hlt : k < xs.length
    · obtain ⟨b, off, x, y, rfl, hx, hbB, hc0, hc1⟩ := (h.below (hB.mono hBs)).at_ hlt
      have hi : (k : Int) < (xs.length : Int) := by omega
      have ok := allAt_xy g.2.2.1 hlt hx
      have q := dec_b ok.2.2.1 ok.2.2.2 hd.1 hd.2 hn.1 hn.2
      have wr1 : IntKind.i64.wrap (y * n) = y * n := IntWalk.i64_in _ (by omega)
      have wr2 : IntKind.i64.wrap (y * n / d) = y * n / d := IntWalk.i64_in _ (by omega)
      have wr3 : IntKind.i64.wrap ((y * n).tdiv d) = y * n / d := by rw [Int.tdiv_eq_ediv_of_nonneg q.1]; exact wr2
      have hdz : (d == 0) = false := by simp; omega
      have hdz2 : ¬ d = 0 := by omega
      have hnx := decP_next (n := n) (d := d) hlt hx
      have hle : ((decP n d xs).take k).length ≤ 65536 := by rw [List.length_take, decP_len]; omega
      generalize (decP n d xs).take k = ys at hown hnx hle
      have hne := fun gg e => (hown.lt gg e).2
      obtain ⟨A', c', rfl⟩ := hown.shape
      have hownA := hown.alloc (.cells #[.int .i64 x, .int .i64 y] 26)
      have HN := Lib.hid hnx
      have HNE := Lib.hid hne
      have HO := Lib.hid hownA
      have H := Lib.hid h
      clear hx h hown hnx hne hownA hn hd
      go_wp2
      obtain ⟨W, hW⟩ : ∃ W, W = wr.alloc (.cells #[.int .i64 x, .int .i64 y] 26) := ⟨_, rfl⟩
      rw [← hW]
      rw [← hW] at HO
      have BW : Below w.heap.size w W := by rw [hW]; (repeat' (first | (with_reducible exact Below.refl _ _) | (with_reducible assumption) | (with_reducible refine below_drewN ?_ _) | (with_reducible refine Below.alloc ?_ ?_ _) | (with_reducible refine Below.drew ?_) | (with_reducible refine Below.setCell ?_ ?_ _) | go_size))
      have SW : wr.heap.size + 1 ≤ W.heap.size := by rw [hW]; simp
      have e0 : W.cell? ⟨wr.heap.size, 0, none⟩ = some (.int .i64 x) := by rw [hW]; simp [go_sem]
      have e1 : W.cell? ⟨wr.heap.size, 1, none⟩ = some (.int .i64 y) := by rw [hW]; simp [go_sem]
      clear hW
      go_region_held3 (fun w' => w'.cell? ⟨wr.heap.size, 0, none⟩ = some (.int .i64 x) ∧ w'.cell? ⟨wr.heap.size, 1, none⟩ = some (.int .i64 y) ∧ Below w.heap.size w w' ∧ wr.heap.size + 1 ≤ w'.heap.size)
        (first
          | exact ⟨e0, e1, BW.drew, SW⟩
          | exact held_alloc (by assumption) _ (by omega)
          | exact held_far (by assumption) hg1 ho1 (by omega) HNE.out)
        (first
          | (refine step_appPs (B := W.heap.size + 1) rfl (.tmp 32) (.tmp 42) (by rfl) w.heap.size (.slice A' ys.length c') _ _ ys [(x, y * n / d)] (by rfl) (by first | exact (HO.out.alloc _).drew | exact HO.out.alloc _) (by rfl) (by first | exact (RdP.lit W _ _ _).drew | exact RdP.lit W _ _ _) (by omega) (by simp) (by have := (‹_ ∧ _ ∧ Below w.heap.size w _ ∧ _›).2.2.2; omega) ?_; intro v1 w1 hown1 hg1 ho1)
          | fail)
      all_goals
        have hB1 := (‹_ ∧ _ ∧ Below w.heap.size w _ ∧ _›).2.2.1
        go_wp2
        go_roundw
        case rel => exact ⟨k + 1, by omega, by go_num, by rw [HN.out]; exact hown1, hB1⟩
        case measure => simp [intOf]; omega
    · obtain rfl : k = xs.length := by omega
      have hl := decP_len n d xs
      rw [List.take_of_length_le (by omega)] at hown
      obtain ⟨A', c', rfl⟩ := hown.shape
      have hrd := hown.rd
      have hbb := decP_bnd (n := n) (d := d) (bnd_good g.2.2.1)
      obtain ⟨ys, hys⟩ : ∃ ys, ys = decP n d xs := ⟨_, rfl⟩
      have hj : joinT ys ys.length = joinT (decP n d xs) xs.length := by rw [hys, decP_len]
      rw [← hys] at hown hrd hl hbb ⊢
      have HJ := Lib.hid hj
      have hsz := hB.size
      have hy8 : ys.length ≤ 60000 := by omega
      clear hown h hl hlt hk hm hm0 g hys hj
      go_wp2_with (go_at_call 62; refine (joined_c _ _ ys _ hrd (Nat.le_refl _) hbb hy8).mono ?_; rintro e w2 ⟨A2, c2, rfl, o2, hb2⟩)
      go_ret2
      rw [HJ.out] at o2
      exact ⟨A2, c2, by rw [← HJ.out]; rfl, o2.weak hsz, hB.trans (hb2.mono hsz)⟩
set_option maxHeartbeats 1000000 in
theorem specDec_c (A : Option Addr) (c : Nat) (xs : List (Int × Int)) (n d : Int) (w : World) (h : RdP w w.heap.size A xs) (hm0 : xs.length ≤ 1048576) :
    Calls Try.prog 39 #[.slice A xs.length c, .int .i64 n, .int .i64 d] w (RetP w (decR xs n d).1 (fun v => .tuple #[v, .bool (decR xs n d).2])) := by
  have hm : xs.length ≤ 4611686018427387904 := by omega
  cases h1 : goodPs xs
  · rw [decR_no h1]
    go_enter Try.func39, Try.ntmps39
    go_wp2_with (first | (go_at_call 51; refine (specPipe0_c _ _ _ _ (h.alloc (Nat.le_refl _) _) (by simp) hm).mono ?_; rintro e w1 ⟨rfl, hb1⟩; have hz1 := hb1.size; (repeat (first | rw [World.size_alloc] at hz1 | rw [World.size_drew] at hz1 | rw [World.heap_drewN] at hz1 | rw [World.size_setCell] at hz1)); have hB : Below w.heap.size w w1 := Below.trans (by (repeat' (first | (with_reducible exact Below.refl _ _) | (with_reducible assumption) | (with_reducible refine below_drewN ?_ _) | (with_reducible refine Below.alloc ?_ ?_ _) | (with_reducible refine Below.drew ?_) | (with_reducible refine Below.setCell ?_ ?_ _) | go_size))) (hb1.mono (by go_size)); have hL1 := hb1; clear hb1; obtain ⟨hc1, hf1⟩ := bcell hL1) | (go_at_call 59; refine (l1In_c _ _ _ _).mono ?_; rintro e w' ⟨rfl, rfl⟩))
    go_returns
    exact ⟨_, _, rfl, (OwnP.empty w _ (Nat.le_refl _)).below hL1, by (repeat' (first | (with_reducible exact Below.refl _ _) | (with_reducible assumption) | (with_reducible refine below_drewN ?_ _) | (with_reducible refine Below.alloc ?_ ?_ _) | (with_reducible refine Below.drew ?_) | (with_reducible refine Below.setCell ?_ ?_ _) | go_size))⟩
  cases h2 : inB d 1 100
  · rw [decR_no2 h2]
    go_enter Try.func39, Try.ntmps39
    go_wp2_with (first | (go_at_call 51; refine (specPipe0_c _ _ _ _ (h.alloc (Nat.le_refl _) _) (by simp) hm).mono ?_; rintro e w1 ⟨rfl, hb1⟩; have hz1 := hb1.size; (repeat (first | rw [World.size_alloc] at hz1 | rw [World.size_drew] at hz1 | rw [World.heap_drewN] at hz1 | rw [World.size_setCell] at hz1)); have hB : Below w.heap.size w w1 := Below.trans (by (repeat' (first | (with_reducible exact Below.refl _ _) | (with_reducible assumption) | (with_reducible refine below_drewN ?_ _) | (with_reducible refine Below.alloc ?_ ?_ _) | (with_reducible refine Below.drew ?_) | (with_reducible refine Below.setCell ?_ ?_ _) | go_size))) (hb1.mono (by go_size)); have hL1 := hb1; clear hb1; obtain ⟨hc1, hf1⟩ := bcell hL1) | (go_at_call 59; refine (l1In_c _ _ _ _).mono ?_; rintro e w' ⟨rfl, rfl⟩))
    go_returns
    exact ⟨_, _, rfl, (OwnP.empty w _ (Nat.le_refl _)).below hL1, by (repeat' (first | (with_reducible exact Below.refl _ _) | (with_reducible assumption) | (with_reducible refine below_drewN ?_ _) | (with_reducible refine Below.alloc ?_ ?_ _) | (with_reducible refine Below.drew ?_) | (with_reducible refine Below.setCell ?_ ?_ _) | go_size))⟩
  cases h3 : inB n 0 d
  · rw [decR_no3 h3]
    go_enter Try.func39, Try.ntmps39
    go_wp2_with (first | (go_at_call 51; refine (specPipe0_c _ _ _ _ (h.alloc (Nat.le_refl _) _) (by simp) hm).mono ?_; rintro e w1 ⟨rfl, hb1⟩; have hz1 := hb1.size; (repeat (first | rw [World.size_alloc] at hz1 | rw [World.size_drew] at hz1 | rw [World.heap_drewN] at hz1 | rw [World.size_setCell] at hz1)); have hB : Below w.heap.size w w1 := Below.trans (by (repeat' (first | (with_reducible exact Below.refl _ _) | (with_reducible assumption) | (with_reducible refine below_drewN ?_ _) | (with_reducible refine Below.alloc ?_ ?_ _) | (with_reducible refine Below.drew ?_) | (with_reducible refine Below.setCell ?_ ?_ _) | go_size))) (hb1.mono (by go_size)); have hL1 := hb1; clear hb1; obtain ⟨hc1, hf1⟩ := bcell hL1) | (go_at_call 59; refine (l1In_c _ _ _ _).mono ?_; rintro e w' ⟨rfl, rfl⟩))
    go_returns
    exact ⟨_, _, rfl, (OwnP.empty w _ (Nat.le_refl _)).below hL1, by (repeat' (first | (with_reducible exact Below.refl _ _) | (with_reducible assumption) | (with_reducible refine below_drewN ?_ _) | (with_reducible refine Below.alloc ?_ ?_ _) | (with_reducible refine Below.drew ?_) | (with_reducible refine Below.setCell ?_ ?_ _) | go_size))⟩
  have g := goodPs_out h1
  have hd := inB_out h2
  have hn := inB_out h3
  rw [decR_yes h1 h2 h3]
  go_enter Try.func39, Try.ntmps39
  go_wp2_with (first | (go_at_call 51; refine (specPipe0_c _ _ _ _ (h.alloc (Nat.le_refl _) _) (by simp) hm).mono ?_; rintro e w1 ⟨rfl, hb1⟩; have hz1 := hb1.size; (repeat (first | rw [World.size_alloc] at hz1 | rw [World.size_drew] at hz1 | rw [World.heap_drewN] at hz1 | rw [World.size_setCell] at hz1)); have hB : Below w.heap.size w w1 := Below.trans (by (repeat' (first | (with_reducible exact Below.refl _ _) | (with_reducible assumption) | (with_reducible refine below_drewN ?_ _) | (with_reducible refine Below.alloc ?_ ?_ _) | (with_reducible refine Below.drew ?_) | (with_reducible refine Below.setCell ?_ ?_ _) | go_size))) (hb1.mono (by go_size)); have hL1 := hb1; clear hb1; obtain ⟨hc1, hf1⟩ := bcell hL1) | (go_at_call 59; refine (l1In_c _ _ _ _).mono ?_; rintro e w' ⟨rfl, rfl⟩))
  go_loopw [8, 9] (fun o i wr => ∃ k : Nat, k ≤ xs.length ∧ i = .int .i64 k ∧ OwnP wr w.heap.size o (joinT (decP n d xs) k) ∧ Below w.heap.size w wr) (fun _ i _ => xs.length - (intOf i).toNat)
  case atStart => exact ⟨0, by omega, rfl, (OwnP.empty w _ (Nat.le_refl _)).below hL1, by (repeat' (first | (with_reducible exact Below.refl _ _) | (with_reducible assumption) | (with_reducible refine below_drewN ?_ _) | (with_reducible refine Below.alloc ?_ ?_ _) | (with_reducible refine Below.drew ?_) | (with_reducible refine Below.setCell ?_ ?_ _) | go_size))⟩
  case round =>
    clear hL1 hc1 hf1 hz1 hB
    obtain ⟨k, hk, rfl, hown, hB⟩ := hrel
    have hsz := hB.size
    by_cases hlt : k < xs.length
    · obtain ⟨b, off, x, y, rfl, hx, hbB, hc0, hc1⟩ := (h.below hB).at_ hlt
      have hi : (k : Int) < (xs.length : Int) := by omega
      have ok := allAt_xy g.2.2.1 hlt hx
      have q := dec_b ok.2.2.1 ok.2.2.2 hd.1 hd.2 hn.1 hn.2
      have wr1 : IntKind.i64.wrap (y * n) = y * n := IntWalk.i64_in _ (by omega)
      have wr2 : IntKind.i64.wrap (y * n / d) = y * n / d := IntWalk.i64_in _ (by omega)
      have wr3 : IntKind.i64.wrap ((y * n).tdiv d) = y * n / d := by rw [Int.tdiv_eq_ediv_of_nonneg q.1]; exact wr2
      have hdz : (d == 0) = false := by simp; omega
      have hdz2 : ¬ d = 0 := by omega
      have hj := joinT_succ (decP_at (n := n) (d := d) hlt hx)
      have hjl := joinT_len (decP n d xs) k
      have hjb := joinT_bnd (decP_bnd (n := n) (d := d) (bnd_good g.2.2.1)) k (by rw [decP_len]; exact hk)
      generalize joinT (decP n d xs) k = ys at hown hjl hjb hj
      have hbb : bnd ys 1000000 := fun q hq => by have := hjb q hq; omega
      have hle : ys.length ≤ 60000 := by omega
      obtain ⟨A', c', rfl⟩ := hown.shape
      have HJ := Lib.hid hj
      have HO := Lib.hid hown
      have HBB := Lib.hid hbb
      have H := Lib.hid h
      clear hx h hown hj hjb hbb hn hd
      go_wp2
      go_region_held3 (fun w' => w'.cell? ⟨b, off + k * 2, none⟩ = some (.int .i64 x) ∧ w'.cell? ⟨b, off + k * 2 + 1, none⟩ = some (.int .i64 y))
        (simp (maxDischargeDepth := 3) [*, go_sem])
        ((go_at_call 55; refine (l15Add_c (.slice A' ys.length c') ys x (y * n / d) w.heap.size wr.drew HO.out.drew hsz hle HBB.out (by omega) (by omega)).mono ?_; rintro e w1 ⟨v1, rfl, hown1, hg1, _⟩; have hk0 := (World.cell?_of_block (w := wr) (a := ⟨b, off + k * 2, none⟩) (hg1.block b (by have := hbB; simp; omega) (fun e => by have := (HO.out.lt b e.symm).1; omega))); have hk1 := (World.cell?_of_block (w := wr) (a := ⟨b, off + k * 2 + 1, none⟩) (hg1.block b (by have := hbB; simp; omega) (fun e => by have := (HO.out.lt b e.symm).1; omega)))))
      all_goals
        go_wp2
        go_roundw
        case rel => exact ⟨k + 1, by omega, by go_num, by rw [HJ.out]; exact hown1, hB.drew.grown hg1 hsz (fun gg e => (HO.out.lt gg e).1)⟩
        case measure => simp [intOf]; omega
    · obtain rfl : k = xs.length := by omega
      obtain ⟨A', c', rfl⟩ := hown.shape
      have HO := Lib.hid hown
      clear h hown
      go_wp2
      go_ret2
      exact ⟨_, _, rfl, HO.out, hB⟩
end Go.Proofs.Ytjpijcmfnckmaaa
