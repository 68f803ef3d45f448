/- Contracts: the eager schedule, the reference. -/
import Derived.Test.YtofcienabddpjaaEPlain
namespace Go.Proofs.Ytofcienabddpjaa
open Go.RowKit

set_option maxHeartbeats 2000000 in
theorem specEager_c {B B' : Nat} (L E M P : Int) (A A' : Option Addr) (c c' : Nat) (xs ys : List Int) (w : World) (h : RdI w B A xs) (h' : RdI w B' A' ys) (hS1 : B ≤ w.heap.size) (hS2 : B' ≤ w.heap.size) (hm : xs.length ≤ 1048576) (hm' : ys.length ≤ 1048576) :
    Calls Try.prog 33 #[.agg #[.int .i64 L, .int .i64 E, .int .i64 M, .int .i64 P, .slice A xs.length c, .slice A' ys.length c']] w (RetI w (eagerT L E M P xs ys).1 (fun v => .tuple #[v, .bool (eagerT L E M P xs ys).2])) := by
  have good := l13Good_c L E M P A A' c c' xs ys _ ((h.alloc hS1 (.cells #[.int .i64 L, .int .i64 E, .int .i64 M, .int .i64 P, .slice A xs.length c, .slice A' ys.length c'] 28)).alloc (by simp; omega) (.cells #[] 3)) ((h'.alloc hS2 _).alloc (by simp; omega) _) (by simp; omega) (by simp; omega) hm hm'
  have e0 : OwnI ((w.alloc (.cells #[.int .i64 L, .int .i64 E, .int .i64 M, .int .i64 P, .slice A xs.length c, .slice A' ys.length c'] 28)).alloc (.cells #[] 3)) (w.heap.size + 1) (.slice (some ⟨w.heap.size + 1, 0, none⟩) 0 0) [] := by
    have := own_empty (w.alloc (.cells #[.int .i64 L, .int .i64 E, .int .i64 M, .int .i64 P, .slice A xs.length c, .slice A' ys.length c'] 28)) (w.heap.size + 1) (by simp)
    rw [World.size_alloc] at this
    exact this
  cases g : goodPm L E M P xs ys
  · have e : goodS L E M P xs ys (egZ E M P L ys) = false := by unfold goodS; rw [g]; rfl
    rw [g] at good
    rw [eagerT_no e]
    have GOOD := Lib.hid good
    have E0 := Lib.hid e0
    clear e good g e0
    go_enter Try.func33, Try.ntmps33
    go_wp2_with (first | (go_at_call 57; refine (GOOD.out).mono ?_; rintro e w1 ⟨rfl, hb1⟩; have hz1 := hb1.size; (repeat (first | rw [World.size_alloc] at hz1 | rw [World.size_drew] at hz1 | rw [World.heap_drewN] at hz1 | rw [World.size_setCell] at hz1)); have hB : Below w.heap.size w w1 := Below.trans (by (repeat' (first | (with_reducible exact Below.refl _ _) | (with_reducible assumption) | (with_reducible refine below_drewN ?_ _) | (with_reducible refine Below.alloc ?_ ?_ _) | (with_reducible refine Below.drew ?_) | (with_reducible refine Below.setCell ?_ ?_ _) | go_size))) (hb1.mono (by go_size)); have hL1 := hb1; clear hb1; obtain ⟨hc1, hf1⟩ := bcell hL1))
    go_returns
    exact ⟨_, _, rfl, (E0.out.below hL1).weak (by omega), by (repeat' (first | (with_reducible exact Below.refl _ _) | (with_reducible assumption) | (with_reducible refine below_drewN ?_ _) | (with_reducible refine Below.alloc ?_ ?_ _) | (with_reducible refine Below.drew ?_) | (with_reducible refine Below.setCell ?_ ?_ _) | go_size))⟩
  rw [g] at good
  have hs := goodS_eager g
  have hxl : xs.length = ys.length := by have := goodPm_out g; omega
  have h12 : ys.length ≤ 12 := by have := goodPm_out g; omega
  rw [hxl] at good e0
  rw [hxl]
  have E0 := Lib.hid e0
  have GOOD := Lib.hid good
  have HS := Lib.hid hs
  have G := Lib.hid g
  have H2 := Lib.hid h'
  clear good hs g hxl h h' hm hm' e0
  go_enter Try.func33, Try.ntmps33
  go_wp2_with (first | (go_at_call 57; refine (GOOD.out).mono ?_; rintro e w1 ⟨rfl, hb1⟩; have hz1 := hb1.size; (repeat (first | rw [World.size_alloc] at hz1 | rw [World.size_drew] at hz1 | rw [World.heap_drewN] at hz1 | rw [World.size_setCell] at hz1)); have hB : Below w.heap.size w w1 := Below.trans (by (repeat' (first | (with_reducible exact Below.refl _ _) | (with_reducible assumption) | (with_reducible refine below_drewN ?_ _) | (with_reducible refine Below.alloc ?_ ?_ _) | (with_reducible refine Below.drew ?_) | (with_reducible refine Below.setCell ?_ ?_ _) | go_size))) (hb1.mono (by go_size)); have hL1 := hb1; clear hb1; obtain ⟨hc1, hf1⟩ := bcell hL1))
  have O1 := (E0.out.below hL1)
  clear GOOD E0
  have z1 : w.heap.size + 1 ≤ w1.heap.size := by have := hz1; omega
  go_loopw [4, 5, 6, 7, 8, 9] (fun o l i _ _ _ wr => ∃ k : Nat, k ≤ ys.length ∧ i = .int .i64 k ∧ l = .int .i64 (egL E M P L ys k) ∧ OwnI wr (w.heap.size + 1) o (mapK (egV E M P L ys) k) ∧ calmT E M L (egZ E M P L ys) ys k = true ∧ Below w.heap.size w wr ∧ w.heap.size + 1 ≤ wr.heap.size ∧ wr.cell? ⟨w.heap.size, 0, none⟩ = some (.int .i64 L) ∧ wr.cell? ⟨w.heap.size, 1, none⟩ = some (.int .i64 E) ∧ wr.cell? ⟨w.heap.size, 2, none⟩ = some (.int .i64 M) ∧ wr.cell? ⟨w.heap.size, 3, none⟩ = some (.int .i64 P) ∧ wr.cell? ⟨w.heap.size, 4, none⟩ = some (.slice A ys.length c) ∧ wr.cell? ⟨w.heap.size, 5, none⟩ = some (.slice A' ys.length c')) (fun _ _ i _ _ _ _ => ys.length - (intOf i).toNat)
  case atStart => exact ⟨0, by omega, rfl, rfl, O1, rfl, hB, z1, by simp [*, go_sem], by simp [*, go_sem], by simp [*, go_sem], by simp [*, go_sem], by simp [*, go_sem], by simp [*, go_sem]⟩
  case round =>
    clear hB hL1 hc1 hf1 hz1 z1 O1
    obtain ⟨k, hk, rfl, rfl, hown, hcalm, hBr, hsz, c0, c1, c2, c3, c4, c5⟩ := hrel
    by_cases hlt : k < ys.length
    · obtain ⟨u, hu⟩ : ∃ u, u = ys.getD k 0 := ⟨_, rfl⟩
      have hh := hour_eager G.out hlt
      have hn : egL E M P L ys (k + 1) = nxT E M (egL E M P L ys k) (egV E M P L ys k) (ys.getD k 0) := rfl
      have hc : egC E M P L ys k = decide (spT M (egL E M P L ys k) (egV E M P L ys k) + msT E M (egL E M P L ys k) (egV E M P L ys k) (ys.getD k 0) = 0) := rfl
      rw [← hu] at hh hn hc
      have hbd := hh
      have nxt := fun (s : World) (q : RdI s s.heap.size A' ys) => l13Next_c L E M P (egL E M P L ys k) (egV E M P L ys k) u k A A' c c' ys ys s q (Nat.le_refl _) hlt hu hh
      rw [← hn, ← hc] at nxt
      have least := fun s => l1Least_c P (M - egL E M P L ys k) s
      rw [show minI P (M - egL E M P L ys k) = egV E M P L ys k from rfl] at least
      have W0 : IntKind.i64.wrap (M - egL E M P L ys k) = M - egL E M P L ys k := IntWalk.i64_in _ (by have := hbd.m1; have := hbd.m0; have := hbd.l0; have := hbd.l1; omega)
      have W1 : IntKind.i64.wrap ((k : Int) + 1) = (k : Int) + 1 := IntWalk.i64_in _ (by omega)
      have hi : (k : Int) < (ys.length : Int) := by omega
      have hcs : calmT E M L (egZ E M P L ys) ys (k + 1) = egC E M P L ys k := by
        have : calmT E M L (egZ E M P L ys) ys (k + 1) = (calmT E M L (egZ E M P L ys) ys k && calmK E M L (egZ E M P L ys) ys k) := rfl
        rw [this, hcalm, egC_calm E M P L ys hlt, Bool.true_and]
      have hbad : egC E M P L ys k = false → goodS L E M P xs ys (egZ E M P L ys) = false := fun q => by
        rw [HS.out, calmT_bad (k := k) (by rw [egC_calm E M P L ys hlt]; exact q) hlt]; rfl
      have P2 := Lib.hid ((H2.out.below (hBr.mono hS2)).more (Nat.le_trans hS2 hBr.size))
      have LEAST := Lib.hid least
      have NXT := Lib.hid nxt
      have HCS := Lib.hid hcs
      have HO := Lib.hid hown
      clear hn hc hh hbd nxt least hcs hcalm hown hu
      cases hq : egC E M P L ys k
      · have e := hbad hq
        have EH := Lib.hid (eagerT_no e)
        rw [hq] at NXT
        clear e hbad HCS
        go_wp2_with (first | (go_at_call 65; refine (LEAST.out _).mono ?_; rintro e w' ⟨rfl, rfl⟩) | (go_at_call 66; refine (NXT.out _ P2.out).mono ?_; rintro e w1 ⟨rfl, hb1⟩; have hz1 := hb1.size; (repeat (first | rw [World.size_alloc] at hz1 | rw [World.size_drew] at hz1 | rw [World.heap_drewN] at hz1 | rw [World.size_setCell] at hz1)); have hB : Below w.heap.size w w1 := Below.trans (by (repeat' (first | (with_reducible exact Below.refl _ _) | (with_reducible assumption) | (with_reducible refine below_drewN ?_ _) | (with_reducible refine Below.alloc ?_ ?_ _) | (with_reducible refine Below.drew ?_) | (with_reducible refine Below.setCell ?_ ?_ _) | go_size))) (hb1.mono (by go_size)); have hL1 := hb1; clear hb1; obtain ⟨hc1, hf1⟩ := bcell hL1))
        go_returns
        rw [EH.out]
        exact ⟨_, _, rfl, (own_empty w1 w.heap.size (by omega)), by (repeat' (first | (with_reducible exact Below.refl _ _) | (with_reducible assumption) | (with_reducible refine below_drewN ?_ _) | (with_reducible refine Below.alloc ?_ ?_ _) | (with_reducible refine Below.drew ?_) | (with_reducible refine Below.setCell ?_ ?_ _) | go_size))⟩
      · rw [hq] at NXT
        rw [hq] at HCS
        clear hbad
        go_wp2_with (first | (go_at_call 65; refine (LEAST.out _).mono ?_; rintro e w' ⟨rfl, rfl⟩) | (go_at_call 66; refine (NXT.out _ P2.out).mono ?_; rintro e w1 ⟨rfl, hb1⟩; have hz1 := hb1.size; (repeat (first | rw [World.size_alloc] at hz1 | rw [World.size_drew] at hz1 | rw [World.heap_drewN] at hz1 | rw [World.size_setCell] at hz1)); have hB : Below w.heap.size w w1 := Below.trans (by (repeat' (first | (with_reducible exact Below.refl _ _) | (with_reducible assumption) | (with_reducible refine below_drewN ?_ _) | (with_reducible refine Below.alloc ?_ ?_ _) | (with_reducible refine Below.drew ?_) | (with_reducible refine Below.setCell ?_ ?_ _) | go_size))) (hb1.mono (by go_size)); have hL1 := hb1; clear hb1; obtain ⟨hc1, hf1⟩ := bcell hL1; have o1 := HO.out.below hL1; have zz : w.heap.size + 1 ≤ w1.heap.size := (by have := hz1; omega)) | (at_builtin; refine wpList_appI rfl (.tmp 44) (.tmp 46) rfl (w.heap.size + 1) _ _ _ rfl o1 rfl (by rw [mapK_len]; omega) zz ?_; intro v2 w2 o2 hb2; have z2 := hb2.size; have hc2 := (fun (a : Addr) (ha : a.block < w.heap.size + 1) => hb2.cell ha)))
        go_roundw
        case rel => exact ⟨k + 1, by omega, by go_num, rfl, o2, HCS.out, hB.trans (hb2.mono (by omega)), by omega, by simp [*, go_sem], by simp [*, go_sem], by simp [*, go_sem], by simp [*, go_sem], by simp [*, go_sem], by simp [*, go_sem]⟩
        case measure => simp [intOf]; omega
    · obtain rfl : k = ys.length := by omega
      obtain ⟨Ao, co, rfl⟩ := hown.shape
      have HO := Lib.hid hown
      by_cases hL : egL E M P L ys ys.length < L
      · have e : goodS L E M P xs ys (egZ E M P L ys) = false := by rw [HS.out, hcalm]; simp; omega
        have EH := Lib.hid (eagerT_no e)
        clear e hcalm hown
        go_wp2
        go_returns
        rw [EH.out]
        exact ⟨_, _, rfl, (own_empty wr w.heap.size (by omega)), by (repeat' (first | (with_reducible exact Below.refl _ _) | (with_reducible assumption) | (with_reducible refine below_drewN ?_ _) | (with_reducible refine Below.alloc ?_ ?_ _) | (with_reducible refine Below.drew ?_) | (with_reducible refine Below.setCell ?_ ?_ _) | go_size))⟩
      · have e : goodS L E M P xs ys (egZ E M P L ys) = true := by rw [HS.out, hcalm]; simp; omega
        have EH := Lib.hid (eagerT_yes e)
        clear e hcalm hown
        go_wp2
        go_returns
        rw [EH.out]
        exact ⟨Ao, co, rfl, HO.out.weak (by omega), by (repeat' (first | (with_reducible exact Below.refl _ _) | (with_reducible assumption) | (with_reducible refine below_drewN ?_ _) | (with_reducible refine Below.alloc ?_ ?_ _) | (with_reducible refine Below.drew ?_) | (with_reducible refine Below.setCell ?_ ?_ _) | go_size))⟩
end Go.Proofs.Ytofcienabddpjaa
