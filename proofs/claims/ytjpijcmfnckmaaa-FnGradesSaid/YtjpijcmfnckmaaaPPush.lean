/- Contracts: PushParcel. -/
import Derived.Test.YtjpijcmfnckmaaaPCut
namespace Go.Proofs.Ytjpijcmfnckmaaa
open Go.RowKit

/-- What stays and what leaves. -/
def staysL (xs : List (Int × Int)) (V G : Int) : List (Int × Int) := joinT (firstT ((V, G) :: xs) (sumV xs xs.length) (xs.length + 1)) (xs.length + 1)
def leavesL (xs : List (Int × Int)) (V G : Int) : List (Int × Int) := joinT (restT ((V, G) :: xs) (sumV xs xs.length) (xs.length + 1)) (xs.length + 1)
def pushR (xs : List (Int × Int)) (V G : Int) : (List (Int × Int) × List (Int × Int)) × Bool :=
  if goodPs xs && (okP V G && decide ((staysL xs V G).length ≤ 8)) then ((staysL xs V G, leavesL xs V G), true) else (([], []), false)
theorem pushR_no {xs : List (Int × Int)} {V G : Int} (h : goodPs xs = false) : pushR xs V G = (([], []), false) := by simp [pushR, h]
theorem pushR_no2 {xs : List (Int × Int)} {V G : Int} (h : okP V G = false) : pushR xs V G = (([], []), false) := by simp [pushR, h]
theorem pushR_no3 {xs : List (Int × Int)} {V G : Int} (h : ¬ (staysL xs V G).length ≤ 8) : pushR xs V G = (([], []), false) := by simp [pushR, h]
theorem pushR_yes {xs : List (Int × Int)} {V G : Int} (h : goodPs xs = true) (h2 : okP V G = true) (h3 : (staysL xs V G).length ≤ 8) : pushR xs V G = ((staysL xs V G, leavesL xs V G), true) := by simp [pushR, h, h2, h3]
theorem pushR_len (xs : List (Int × Int)) (V G : Int) (h : xs.length ≤ 1048576) : (pushR xs V G).1.1.length ≤ 1048577 ∧ (pushR xs V G).1.2.length ≤ 1048577 := by
  have a := joinT_len (firstT ((V, G) :: xs) (sumV xs xs.length) (xs.length + 1)) (xs.length + 1)
  have b := joinT_len (restT ((V, G) :: xs) (sumV xs xs.length) (xs.length + 1)) (xs.length + 1)
  unfold pushR; split
  · unfold staysL leavesL; simp only; omega
  · simp
theorem push_ok {xs : List (Int × Int)} {V G : Int} (h : goodPs xs = true) (h2 : okP V G = true) : okAll ((V, G) :: xs) := by
  intro k x y hk hx
  cases k with
  | zero =>
    simp at hx
    obtain ⟨rfl, rfl⟩ := hx
    exact okP_out h2
  | succ k => exact allAt_xy (goodPs_out h).2.2.1 (by simpa using hk) (by simpa using hx)
theorem sum_cons (p : Int × Int) (xs : List (Int × Int)) : ∀ k, sumV (p :: xs) (k + 1) = p.1 + sumV xs k
  | 0 => by simp [sumV]
  | k + 1 => by
    have := sum_cons p xs k
    show sumV (p :: xs) (k + 1) + ((p :: xs).getD (k + 1) (0, 0)).1 = p.1 + (sumV xs k + (xs.getD k (0, 0)).1)
    rw [this]
    simp
    omega
theorem stays_ok {xs : List (Int × Int)} {V G : Int} (h : goodPs xs = true) (h2 : okP V G = true) : goodPs (staysL xs V G) = decide ((staysL xs V G).length ≤ 8) := by
  have g := goodPs_out h
  have b := sumV_b g.2.2.1 xs.length (Nat.le_refl _)
  have o := okP_out h2
  have s := sum_cons (V, G) xs xs.length
  exact stays_good (push_ok h h2) (by omega) g.2.2.2 (by rw [List.length_cons, s]; simp only; omega)
theorem OwnP.lit (w : World) (base : Nat) (y z : Int) (h : base ≤ w.heap.size) : OwnP (w.alloc (.cells #[.int .i64 y, .int .i64 z] 26)) base (.slice (some ⟨w.heap.size, 0, none⟩) 1 1) [(y, z)] :=
  ⟨rfl, .inr ⟨w.heap.size, 1, #[.int .i64 y, .int .i64 z], rfl, h, heap_alloc_new w _, Nat.le_refl _, by decide, rfl, rfl⟩⟩
theorem cutPush_c {B : Nat} (A : Option Addr) (c : Nat) (xs : List (Int × Int)) (V G : Int) (S L : List (Int × Int)) (w : World) (h : RdP w B A ([(V, G)] ++ xs)) (hBs : B ≤ w.heap.size) (h1 : goodPs xs = true) (h2 : okP V G = true) (hS : S = staysL xs V G) (hL : L = leavesL xs V G) :
    Calls Try.prog 50 #[.slice A ([(V, G)] ++ xs).length c, .int .i64 (sumV xs xs.length)] w fun e w' => ∃ A1 c1 A2 c2, e = .returned (.tuple #[.slice A1 S.length c1, .slice A2 L.length c2]) ∧
      Own2 w' w.heap.size (.slice A1 S.length c1) S (.slice A2 L.length c2) L ∧ Below w.heap.size w w' := by
  subst hS hL
  have g := goodPs_out h1
  have b := sumV_b g.2.2.1 xs.length (Nat.le_refl _)
  exact cut_c A c ((V, G) :: xs) (sumV xs xs.length) w h hBs (push_ok h1 h2) (by simp; omega) (by omega) (by omega)
set_option maxHeartbeats 1000000 in
theorem implPush_c (A : Option Addr) (c : Nat) (xs : List (Int × Int)) (V G : Int) (w : World) (h : RdP w w.heap.size A xs) (hm0 : xs.length ≤ 1048576) :
    Calls Try.prog 16 #[.slice A xs.length c, .agg #[.int .i64 V, .int .i64 G]] w fun e w' => ∃ A1 c1 A2 c2, e = .returned (.tuple #[.slice A1 (pushR xs V G).1.1.length c1, .slice A2 (pushR xs V G).1.2.length c2, .bool (pushR xs V G).2]) ∧
      Own2 w' w.heap.size (.slice A1 (pushR xs V G).1.1.length c1) (pushR xs V G).1.1 (.slice A2 (pushR xs V G).1.2.length c2) (pushR xs V G).1.2 ∧ Below w.heap.size w w' := by
  have hm : xs.length ≤ 4611686018427387904 := by omega
  cases h1 : goodPs xs
  · rw [pushR_no h1]
    go_enter Try.func16, Try.ntmps16
    go_wp2_with (first | (go_at_call 19; refine (implPipe_c _ _ _ _ (h.alloc (Nat.le_refl _) _) (by simp) hm).mono ?_; rintro e w1 ⟨rfl, hb1⟩; have hz1 := hb1.size; (repeat (first | rw [World.size_alloc] at hz1 | rw [World.size_drew] at hz1 | rw [World.heap_drewN] at hz1 | rw [World.size_setCell] at hz1)); have hB : Below w.heap.size w w1 := Below.trans (by (repeat' (first | (with_reducible exact Below.refl _ _) | (with_reducible assumption) | (with_reducible refine below_drewN ?_ _) | (with_reducible refine Below.alloc ?_ ?_ _) | (with_reducible refine Below.drew ?_) | (with_reducible refine Below.setCell ?_ ?_ _) | go_size))) (hb1.mono (by go_size)); have hL1 := hb1; clear hb1; obtain ⟨hc1, hf1⟩ := bcell hL1) | (go_at_call 48; refine (isParcel_c _ _ _).mono ?_; rintro e w2 ⟨rfl, hb2⟩; have hz2 := hb2.size; (repeat (first | rw [World.size_alloc] at hz2 | rw [World.size_drew] at hz2 | rw [World.heap_drewN] at hz2 | rw [World.size_setCell] at hz2)); replace hB : Below w.heap.size w w2 := Below.trans (by (repeat' (first | (with_reducible exact Below.refl _ _) | (with_reducible assumption) | (with_reducible refine below_drewN ?_ _) | (with_reducible refine Below.alloc ?_ ?_ _) | (with_reducible refine Below.drew ?_) | (with_reducible refine Below.setCell ?_ ?_ _) | go_size))) (hb2.mono (by go_size)); (first | (refine extend_then hL1 hb2 ?_ ?_ (fun hq => ?_); (focus ((repeat' (first | (with_reducible exact Below.refl _ _) | (with_reducible assumption) | (with_reducible refine below_drewN ?_ _) | (with_reducible refine Below.alloc ?_ ?_ _) | (with_reducible refine Below.drew ?_) | (with_reducible refine Below.setCell ?_ ?_ _) | go_size)); done)); (focus (go_size; done)); replace hL1 := hq; clear hq hc1 hf1; obtain ⟨hc1, hf1⟩ := bcell hL1) | (clear hL1 hc1 hf1) | skip); have hL2 := hb2; clear hb2; obtain ⟨hc2, hf2⟩ := bcell hL2))
    go_returns
    exact ⟨none, 0, none, 0, rfl, ⟨OwnP.nil _ _, OwnP.nil _ _, fun g e => by simp [Value.ownBlock] at e⟩, by (repeat' (first | (with_reducible exact Below.refl _ _) | (with_reducible assumption) | (with_reducible refine below_drewN ?_ _) | (with_reducible refine Below.alloc ?_ ?_ _) | (with_reducible refine Below.drew ?_) | (with_reducible refine Below.setCell ?_ ?_ _) | go_size))⟩
  cases h2 : okP V G
  · rw [pushR_no2 h2]
    go_enter Try.func16, Try.ntmps16
    go_wp2_with (first | (go_at_call 19; refine (implPipe_c _ _ _ _ (h.alloc (Nat.le_refl _) _) (by simp) hm).mono ?_; rintro e w1 ⟨rfl, hb1⟩; have hz1 := hb1.size; (repeat (first | rw [World.size_alloc] at hz1 | rw [World.size_drew] at hz1 | rw [World.heap_drewN] at hz1 | rw [World.size_setCell] at hz1)); have hB : Below w.heap.size w w1 := Below.trans (by (repeat' (first | (with_reducible exact Below.refl _ _) | (with_reducible assumption) | (with_reducible refine below_drewN ?_ _) | (with_reducible refine Below.alloc ?_ ?_ _) | (with_reducible refine Below.drew ?_) | (with_reducible refine Below.setCell ?_ ?_ _) | go_size))) (hb1.mono (by go_size)); have hL1 := hb1; clear hb1; obtain ⟨hc1, hf1⟩ := bcell hL1) | (go_at_call 48; refine (isParcel_c _ _ _).mono ?_; rintro e w2 ⟨rfl, hb2⟩; have hz2 := hb2.size; (repeat (first | rw [World.size_alloc] at hz2 | rw [World.size_drew] at hz2 | rw [World.heap_drewN] at hz2 | rw [World.size_setCell] at hz2)); replace hB : Below w.heap.size w w2 := Below.trans (by (repeat' (first | (with_reducible exact Below.refl _ _) | (with_reducible assumption) | (with_reducible refine below_drewN ?_ _) | (with_reducible refine Below.alloc ?_ ?_ _) | (with_reducible refine Below.drew ?_) | (with_reducible refine Below.setCell ?_ ?_ _) | go_size))) (hb2.mono (by go_size)); (first | (refine extend_then hL1 hb2 ?_ ?_ (fun hq => ?_); (focus ((repeat' (first | (with_reducible exact Below.refl _ _) | (with_reducible assumption) | (with_reducible refine below_drewN ?_ _) | (with_reducible refine Below.alloc ?_ ?_ _) | (with_reducible refine Below.drew ?_) | (with_reducible refine Below.setCell ?_ ?_ _) | go_size)); done)); (focus (go_size; done)); replace hL1 := hq; clear hq hc1 hf1; obtain ⟨hc1, hf1⟩ := bcell hL1) | (clear hL1 hc1 hf1) | skip); have hL2 := hb2; clear hb2; obtain ⟨hc2, hf2⟩ := bcell hL2))
    go_returns
    exact ⟨none, 0, none, 0, rfl, ⟨OwnP.nil _ _, OwnP.nil _ _, fun g e => by simp [Value.ownBlock] at e⟩, by (repeat' (first | (with_reducible exact Below.refl _ _) | (with_reducible assumption) | (with_reducible refine below_drewN ?_ _) | (with_reducible refine Below.alloc ?_ ?_ _) | (with_reducible refine Below.drew ?_) | (with_reducible refine Below.setCell ?_ ?_ _) | go_size))⟩
  have g := goodPs_out h1
  have o := okP_out h2
  have hb := sumV_b g.2.2.1 xs.length (Nat.le_refl _)
  obtain ⟨b0, off0, x0, y0, hA0, _⟩ := h.at_ (k := 0) (by omega)
  subst hA0
  obtain ⟨S, hS⟩ : ∃ S, S = staysL xs V G := ⟨_, rfl⟩
  obtain ⟨L, hL⟩ : ∃ L, L = leavesL xs V G := ⟨_, rfl⟩
  have HS := Lib.hid hS
  have HL := Lib.hid hL
  clear hS hL
  by_cases h3 : S.length ≤ 8
  · have hr : pushR xs V G = ((S, L), true) := by rw [HS.out, HL.out]; exact pushR_yes h1 h2 (HS.out ▸ h3)
    rw [hr]
    clear hr
    have h3i : ¬ (8 : Int) < (S.length : Int) := by omega
    go_enter Try.func16, Try.ntmps16
    go_wp2_with (first | (go_at_call 19; refine (implPipe_c _ _ _ _ (h.alloc (Nat.le_refl _) _) (by simp) hm).mono ?_; rintro e w1 ⟨rfl, hb1⟩; have hz1 := hb1.size; (repeat (first | rw [World.size_alloc] at hz1 | rw [World.size_drew] at hz1 | rw [World.heap_drewN] at hz1 | rw [World.size_setCell] at hz1)); have hB : Below w.heap.size w w1 := Below.trans (by (repeat' (first | (with_reducible exact Below.refl _ _) | (with_reducible assumption) | (with_reducible refine below_drewN ?_ _) | (with_reducible refine Below.alloc ?_ ?_ _) | (with_reducible refine Below.drew ?_) | (with_reducible refine Below.setCell ?_ ?_ _) | go_size))) (hb1.mono (by go_size)); have hL1 := hb1; clear hb1; obtain ⟨hc1, hf1⟩ := bcell hL1) | (go_at_call 48; refine (isParcel_c _ _ _).mono ?_; rintro e w2 ⟨rfl, hb2⟩; have hz2 := hb2.size; (repeat (first | rw [World.size_alloc] at hz2 | rw [World.size_drew] at hz2 | rw [World.heap_drewN] at hz2 | rw [World.size_setCell] at hz2)); replace hB : Below w.heap.size w w2 := Below.trans (by (repeat' (first | (with_reducible exact Below.refl _ _) | (with_reducible assumption) | (with_reducible refine below_drewN ?_ _) | (with_reducible refine Below.alloc ?_ ?_ _) | (with_reducible refine Below.drew ?_) | (with_reducible refine Below.setCell ?_ ?_ _) | go_size))) (hb2.mono (by go_size)); (first | (refine extend_then hL1 hb2 ?_ ?_ (fun hq => ?_); (focus ((repeat' (first | (with_reducible exact Below.refl _ _) | (with_reducible assumption) | (with_reducible refine below_drewN ?_ _) | (with_reducible refine Below.alloc ?_ ?_ _) | (with_reducible refine Below.drew ?_) | (with_reducible refine Below.setCell ?_ ?_ _) | go_size)); done)); (focus (go_size; done)); replace hL1 := hq; clear hq hc1 hf1; obtain ⟨hc1, hf1⟩ := bcell hL1) | (clear hL1 hc1 hf1) | skip); have hL2 := hb2; clear hb2; obtain ⟨hc2, hf2⟩ := bcell hL2) | (go_at_call 49; refine (volMass_c _ _ _ _ ((h.alloc (Nat.le_refl _) _).below (hL1.mono (by simp))) (by go_size) g.2.2.1 g.2.1).mono ?_; rintro e w3 ⟨rfl, hb3⟩; have hz3 := hb3.size; (repeat (first | rw [World.size_alloc] at hz3 | rw [World.size_drew] at hz3 | rw [World.heap_drewN] at hz3 | rw [World.size_setCell] at hz3)); replace hB : Below w.heap.size w w3 := Below.trans (by (repeat' (first | (with_reducible exact Below.refl _ _) | (with_reducible assumption) | (with_reducible refine below_drewN ?_ _) | (with_reducible refine Below.alloc ?_ ?_ _) | (with_reducible refine Below.drew ?_) | (with_reducible refine Below.setCell ?_ ?_ _) | go_size))) (hb3.mono (by go_size)); (first | (refine extend_then hL1 hb3 ?_ ?_ (fun hq => ?_); (focus ((repeat' (first | (with_reducible exact Below.refl _ _) | (with_reducible assumption) | (with_reducible refine below_drewN ?_ _) | (with_reducible refine Below.alloc ?_ ?_ _) | (with_reducible refine Below.drew ?_) | (with_reducible refine Below.setCell ?_ ?_ _) | go_size)); done)); (focus (go_size; done)); replace hL1 := hq; clear hq hc1 hf1; obtain ⟨hc1, hf1⟩ := bcell hL1) | (clear hL1 hc1 hf1) | skip); (first | (refine extend_then hL2 hb3 ?_ ?_ (fun hq => ?_); (focus ((repeat' (first | (with_reducible exact Below.refl _ _) | (with_reducible assumption) | (with_reducible refine below_drewN ?_ _) | (with_reducible refine Below.alloc ?_ ?_ _) | (with_reducible refine Below.drew ?_) | (with_reducible refine Below.setCell ?_ ?_ _) | go_size)); done)); (focus (go_size; done)); replace hL2 := hq; clear hq hc2 hf2; obtain ⟨hc2, hf2⟩ := bcell hL2) | (clear hL2 hc2 hf2) | skip); have hL3 := hb3; clear hb3; obtain ⟨hc3, hf3⟩ := bcell hL3) | (at_builtin; refine wpList_appR (B := w.heap.size) rfl (.tmp 26) (.tmp 27) rfl w.heap.size (.slice (some ⟨w3.heap.size, 0, none⟩) 1 1) _ _ [(V, G)] xs rfl (OwnP.lit w3 _ V G hB.size) rfl ((h.below hB).alloc hB.size _) (by simp) hm0 (by rw [World.size_alloc]; have := hB.size; omega) ?_; intro v4 w4 hown4 hg4 _; have hB4 := (hB.alloc hB.size _).trans (below_of_grown (OwnP.lit w3 w.heap.size V G hB.size) hg4 (by rw [World.size_alloc]; have := hB.size; omega)); obtain ⟨A4, c4, rfl⟩ := hown4.shape; have hrd4 := hown4.rd; clear hg4) | (go_at_call 50; refine (cutPush_c A4 c4 xs V G S L _ hrd4 (Nat.le_refl _) h1 h2 HS.out HL.out).mono ?_; rintro e w5 ⟨A1, c1, A2, c2, rfl, o5, hb5⟩; have hB5 := hB4.trans (hb5.mono hB4.size)))
    go_returns
    exact ⟨A1, c1, A2, c2, rfl, ⟨o5.1.weak hB4.size, o5.2.1.weak hB4.size, o5.2.2⟩, hB5⟩
  · have hr : pushR xs V G = (([], []), false) := pushR_no3 (HS.out ▸ h3)
    rw [hr]
    clear hr
    have h3i : (8 : Int) < (S.length : Int) := by omega
    go_enter Try.func16, Try.ntmps16
    go_wp2_with (first | (go_at_call 19; refine (implPipe_c _ _ _ _ (h.alloc (Nat.le_refl _) _) (by simp) hm).mono ?_; rintro e w1 ⟨rfl, hb1⟩; have hz1 := hb1.size; (repeat (first | rw [World.size_alloc] at hz1 | rw [World.size_drew] at hz1 | rw [World.heap_drewN] at hz1 | rw [World.size_setCell] at hz1)); have hB : Below w.heap.size w w1 := Below.trans (by (repeat' (first | (with_reducible exact Below.refl _ _) | (with_reducible assumption) | (with_reducible refine below_drewN ?_ _) | (with_reducible refine Below.alloc ?_ ?_ _) | (with_reducible refine Below.drew ?_) | (with_reducible refine Below.setCell ?_ ?_ _) | go_size))) (hb1.mono (by go_size)); have hL1 := hb1; clear hb1; obtain ⟨hc1, hf1⟩ := bcell hL1) | (go_at_call 48; refine (isParcel_c _ _ _).mono ?_; rintro e w2 ⟨rfl, hb2⟩; have hz2 := hb2.size; (repeat (first | rw [World.size_alloc] at hz2 | rw [World.size_drew] at hz2 | rw [World.heap_drewN] at hz2 | rw [World.size_setCell] at hz2)); replace hB : Below w.heap.size w w2 := Below.trans (by (repeat' (first | (with_reducible exact Below.refl _ _) | (with_reducible assumption) | (with_reducible refine below_drewN ?_ _) | (with_reducible refine Below.alloc ?_ ?_ _) | (with_reducible refine Below.drew ?_) | (with_reducible refine Below.setCell ?_ ?_ _) | go_size))) (hb2.mono (by go_size)); (first | (refine extend_then hL1 hb2 ?_ ?_ (fun hq => ?_); (focus ((repeat' (first | (with_reducible exact Below.refl _ _) | (with_reducible assumption) | (with_reducible refine below_drewN ?_ _) | (with_reducible refine Below.alloc ?_ ?_ _) | (with_reducible refine Below.drew ?_) | (with_reducible refine Below.setCell ?_ ?_ _) | go_size)); done)); (focus (go_size; done)); replace hL1 := hq; clear hq hc1 hf1; obtain ⟨hc1, hf1⟩ := bcell hL1) | (clear hL1 hc1 hf1) | skip); have hL2 := hb2; clear hb2; obtain ⟨hc2, hf2⟩ := bcell hL2) | (go_at_call 49; refine (volMass_c _ _ _ _ ((h.alloc (Nat.le_refl _) _).below (hL1.mono (by simp))) (by go_size) g.2.2.1 g.2.1).mono ?_; rintro e w3 ⟨rfl, hb3⟩; have hz3 := hb3.size; (repeat (first | rw [World.size_alloc] at hz3 | rw [World.size_drew] at hz3 | rw [World.heap_drewN] at hz3 | rw [World.size_setCell] at hz3)); replace hB : Below w.heap.size w w3 := Below.trans (by (repeat' (first | (with_reducible exact Below.refl _ _) | (with_reducible assumption) | (with_reducible refine below_drewN ?_ _) | (with_reducible refine Below.alloc ?_ ?_ _) | (with_reducible refine Below.drew ?_) | (with_reducible refine Below.setCell ?_ ?_ _) | go_size))) (hb3.mono (by go_size)); (first | (refine extend_then hL1 hb3 ?_ ?_ (fun hq => ?_); (focus ((repeat' (first | (with_reducible exact Below.refl _ _) | (with_reducible assumption) | (with_reducible refine below_drewN ?_ _) | (with_reducible refine Below.alloc ?_ ?_ _) | (with_reducible refine Below.drew ?_) | (with_reducible refine Below.setCell ?_ ?_ _) | go_size)); done)); (focus (go_size; done)); replace hL1 := hq; clear hq hc1 hf1; obtain ⟨hc1, hf1⟩ := bcell hL1) | (clear hL1 hc1 hf1) | skip); (first | (refine extend_then hL2 hb3 ?_ ?_ (fun hq => ?_); (focus ((repeat' (first | (with_reducible exact Below.refl _ _) | (with_reducible assumption) | (with_reducible refine below_drewN ?_ _) | (with_reducible refine Below.alloc ?_ ?_ _) | (with_reducible refine Below.drew ?_) | (with_reducible refine Below.setCell ?_ ?_ _) | go_size)); done)); (focus (go_size; done)); replace hL2 := hq; clear hq hc2 hf2; obtain ⟨hc2, hf2⟩ := bcell hL2) | (clear hL2 hc2 hf2) | skip); have hL3 := hb3; clear hb3; obtain ⟨hc3, hf3⟩ := bcell hL3) | (at_builtin; refine wpList_appR (B := w.heap.size) rfl (.tmp 26) (.tmp 27) rfl w.heap.size (.slice (some ⟨w3.heap.size, 0, none⟩) 1 1) _ _ [(V, G)] xs rfl (OwnP.lit w3 _ V G hB.size) rfl ((h.below hB).alloc hB.size _) (by simp) hm0 (by rw [World.size_alloc]; have := hB.size; omega) ?_; intro v4 w4 hown4 hg4 _; have hB4 := (hB.alloc hB.size _).trans (below_of_grown (OwnP.lit w3 w.heap.size V G hB.size) hg4 (by rw [World.size_alloc]; have := hB.size; omega)); obtain ⟨A4, c4, rfl⟩ := hown4.shape; have hrd4 := hown4.rd; clear hg4) | (go_at_call 50; refine (cutPush_c A4 c4 xs V G S L _ hrd4 (Nat.le_refl _) h1 h2 HS.out HL.out).mono ?_; rintro e w5 ⟨A1, c1, A2, c2, rfl, o5, hb5⟩; have hB5 := hB4.trans (hb5.mono hB4.size)))
    go_returns
    exact ⟨none, 0, none, 0, rfl, ⟨OwnP.nil _ _, OwnP.nil _ _, fun g e => by simp [Value.ownBlock] at e⟩, hB5⟩
end Go.Proofs.Ytjpijcmfnckmaaa
