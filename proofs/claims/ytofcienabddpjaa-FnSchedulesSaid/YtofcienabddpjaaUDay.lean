/- Contracts: valid days. -/
import Derived.Test.YtofcienabddpjaaUWalk
namespace Go.Proofs.Ytofcienabddpjaa
open Go.RowKit

theorem implDay_c {B B' : Nat} (L E M : Int) (A A' : Option Addr) (c c' : Nat) (xs ys : List Int) (w : World) (h : RdI w B A xs) (h' : RdI w B' A' ys) (hB : B ≤ w.heap.size) (hB' : B' ≤ w.heap.size) (hnil : A = none → c = 0) (hnil' : A' = none → c' = 0) (hm : xs.length ≤ 1048576) (hm' : ys.length ≤ 1048576) :
    Calls Try.prog 49 #[.agg #[.int .i64 L, .int .i64 E, .int .i64 M], .slice A xs.length c, .slice A' ys.length c'] w fun e w' => e = .returned (.bool (dayB L E M xs ys)) ∧ Below w.heap.size w w' := by
  have R1 := h.more hB
  have R2 := h'.more hB'
  clear h h' hB hB'
  rcases dayB_ways L E M xs ys with ⟨h1, e⟩ | ⟨h1, h2, e⟩ | ⟨h1, h2, h3, e⟩ | ⟨h1, h2, h3, e⟩
  · rw [e]; clear e
    go_enter Try.func49, Try.ntmps49
    go_wp2_with (first | (go_at_call 52; refine (implTank_c _ _ _ _).mono ?_; rintro e w1 ⟨rfl, hb1⟩; have hz1 := hb1.size; (repeat (first | rw [World.size_alloc] at hz1 | rw [World.size_drew] at hz1 | rw [World.heap_drewN] at hz1 | rw [World.size_setCell] at hz1)); have hB : Below w.heap.size w w1 := Below.trans (by (repeat' (first | (with_reducible exact Below.refl _ _) | (with_reducible assumption) | (with_reducible refine below_drewN ?_ _) | (with_reducible refine Below.alloc ?_ ?_ _) | (with_reducible refine Below.drew ?_) | (with_reducible refine Below.setCell ?_ ?_ _) | go_size))) (hb1.mono (by go_size)); have hL1 := hb1; clear hb1; obtain ⟨hc1, hf1⟩ := bcell hL1))
    (go_returns; exact ⟨by first | rfl | (simp; done) | (simp; omega), by (repeat' (first | (with_reducible exact Below.refl _ _) | (with_reducible assumption) | (with_reducible refine below_drewN ?_ _) | (with_reducible refine Below.alloc ?_ ?_ _) | (with_reducible refine Below.drew ?_) | (with_reducible refine Below.setCell ?_ ?_ _) | go_size))⟩)
  · rw [e]; clear e
    go_enter Try.func49, Try.ntmps49
    go_wp2_with (first | (go_at_call 52; refine (implTank_c _ _ _ _).mono ?_; rintro e w1 ⟨rfl, hb1⟩; have hz1 := hb1.size; (repeat (first | rw [World.size_alloc] at hz1 | rw [World.size_drew] at hz1 | rw [World.heap_drewN] at hz1 | rw [World.size_setCell] at hz1)); have hB : Below w.heap.size w w1 := Below.trans (by (repeat' (first | (with_reducible exact Below.refl _ _) | (with_reducible assumption) | (with_reducible refine below_drewN ?_ _) | (with_reducible refine Below.alloc ?_ ?_ _) | (with_reducible refine Below.drew ?_) | (with_reducible refine Below.setCell ?_ ?_ _) | go_size))) (hb1.mono (by go_size)); have hL1 := hb1; clear hb1; obtain ⟨hc1, hf1⟩ := bcell hL1) | (go_at_call 45; refine (inside_c _ _ _ _).mono ?_; rintro e w' ⟨rfl, rfl⟩))
    (go_returns; exact ⟨by first | rfl | (simp; done) | (simp; omega), by (repeat' (first | (with_reducible exact Below.refl _ _) | (with_reducible assumption) | (with_reducible refine below_drewN ?_ _) | (with_reducible refine Below.alloc ?_ ?_ _) | (with_reducible refine Below.drew ?_) | (with_reducible refine Below.setCell ?_ ?_ _) | go_size))⟩)
  · rw [e]; clear e
    have hn : ¬ (ys.length : Int) = (xs.length : Int) := by omega
    go_enter Try.func49, Try.ntmps49
    go_wp2_with (first | (go_at_call 52; refine (implTank_c _ _ _ _).mono ?_; rintro e w1 ⟨rfl, hb1⟩; have hz1 := hb1.size; (repeat (first | rw [World.size_alloc] at hz1 | rw [World.size_drew] at hz1 | rw [World.heap_drewN] at hz1 | rw [World.size_setCell] at hz1)); have hB : Below w.heap.size w w1 := Below.trans (by (repeat' (first | (with_reducible exact Below.refl _ _) | (with_reducible assumption) | (with_reducible refine below_drewN ?_ _) | (with_reducible refine Below.alloc ?_ ?_ _) | (with_reducible refine Below.drew ?_) | (with_reducible refine Below.setCell ?_ ?_ _) | go_size))) (hb1.mono (by go_size)); have hL1 := hb1; clear hb1; obtain ⟨hc1, hf1⟩ := bcell hL1) | (go_at_call 45; refine (inside_c _ _ _ _).mono ?_; rintro e w' ⟨rfl, rfl⟩))
    (go_returns; exact ⟨by first | rfl | (simp; done) | (simp; omega), by (repeat' (first | (with_reducible exact Below.refl _ _) | (with_reducible assumption) | (with_reducible refine below_drewN ?_ _) | (with_reducible refine Below.alloc ?_ ?_ _) | (with_reducible refine Below.drew ?_) | (with_reducible refine Below.setCell ?_ ?_ _) | go_size))⟩)
  · have hxy := inB_out h2
    have ha := allH_any (xs ++ ys)
    rw [e, ← allH_append, ha]
    clear e ha
    have hl : (xs ++ ys).length ≤ 4611686018427387904 := by rw [List.length_append]; omega
    obtain ⟨zs, hzs⟩ : ∃ zs, zs = xs ++ ys := ⟨_, rfl⟩
    rw [← hzs] at hl ⊢
    have HZS := Lib.hid hzs
    clear hzs
    rw [h3]
    have H3 := Lib.hid h3
    clear h3
    go_enter Try.func49, Try.ntmps49
    go_wp2_with (first | (go_at_call 52; refine (implTank_c _ _ _ _).mono ?_; rintro e w1 ⟨rfl, hb1⟩; have hz1 := hb1.size; (repeat (first | rw [World.size_alloc] at hz1 | rw [World.size_drew] at hz1 | rw [World.heap_drewN] at hz1 | rw [World.size_setCell] at hz1)); have hB : Below w.heap.size w w1 := Below.trans (by (repeat' (first | (with_reducible exact Below.refl _ _) | (with_reducible assumption) | (with_reducible refine below_drewN ?_ _) | (with_reducible refine Below.alloc ?_ ?_ _) | (with_reducible refine Below.drew ?_) | (with_reducible refine Below.setCell ?_ ?_ _) | go_size))) (hb1.mono (by go_size)); have hL1 := hb1; clear hb1; obtain ⟨hc1, hf1⟩ := bcell hL1) | (go_at_call 45; refine (inside_c _ _ _ _).mono ?_; rintro e w' ⟨rfl, rfl⟩) | (go_at_call 75; go_loud (refine (copyInts_c A c xs w1 (R1.below hB) hB.size hnil hm).mono ?_; rintro e w2 ⟨A2, c2, rfl, o2, hb2⟩; have r2 := (R2.below hB).below (hb2.mono hB.size))) | (at_builtin; go_loud (refine wpList_appS rfl (.tmp 24) (.tmp 25) rfl w1.heap.size _ _ _ xs ys rfl o2 (by rw [H3.out]; rfl) r2 hnil' (by omega) hm' (by exact hb2.size) ?_; intro v3 w3 o3 hb3; rw [← HZS.out] at o3; obtain ⟨A3, c3, rfl⟩ := OwnI.shape o3; have B3 : Below w.heap.size w w3 := (hB.trans ((hb2.trans hb3).mono hB.size)))) | (go_at_call 50; refine (tday_has _ _ _ _ o3.rd hl).mono ?_; rintro e w' ⟨rfl, rfl⟩))
    go_returns
    exact ⟨rfl, B3⟩
end Go.Proofs.Ytofcienabddpjaa
