/- Contracts: parcels drawn. -/
import Derived.Test.YtjpijcmfnckmaaaCur
import Derived.Test.YtjpijcmfnckmaaaPAdd
namespace Go.Proofs.Ytjpijcmfnckmaaa
open Go.RowKit

set_option maxHeartbeats 2000000 in
theorem parcel_c (b : Nat) (A : Option Addr) (n c m : Nat) (w : World) (h : Cur w b A n c m) (hm : m ≤ 1000000) :
    Calls Try.prog 46 #[.pointer (some ⟨b, 0, none⟩)] w fun e w' => ∃ V G : Int, 0 ≤ V ∧ V ≤ 1001 ∧ -1 ≤ G ∧ G ≤ 10001 ∧ e = .returned (.agg #[.int .i64 V, .int .i64 G]) ∧ Cur w' b A n c (m + 8) ∧ w.grownBy w' (some b) := by
  have hlt := h.lt
  go_enter Try.func46, Try.ntmps46
  go_wp2_with fail
  refine (pick_c b A n c m 40 _ (h.alloc _) (by omega) (by omega)).mono ?_
  rintro e w1 ⟨x, x0, x1, rfl, C1, g1⟩
  have wx : IntKind.i64.wrap (1 + x) = 1 + x := IntWalk.i64_in _ (by omega)
  have r0 : w1.cell? ⟨w.heap.size, 0, none⟩ = some (.int .i64 0) := far_cell g1 (World.cell?_alloc_new w _ _ 0) hlt
  have fr0 : w1.frozen? ⟨w.heap.size, 0, none⟩ = false := far_frozen g1 (World.cell?_alloc_new w _ _ 0) hlt (by simp [go_sem])
  have fr1 : w1.frozen? ⟨w.heap.size, 1, none⟩ = false := far_frozen g1 (World.cell?_alloc_new w _ _ 1) hlt (by simp [go_sem])
  have r1 : w1.cell? ⟨w.heap.size, 1, none⟩ = some (.int .i64 0) := far_cell g1 (World.cell?_alloc_new w _ _ 1) hlt
  have z1 := g1.size
  rw [World.size_alloc] at z1
  have G1 := grown_trans (World.grownBy_alloc w (.cells #[.int .i64 0, .int .i64 0] 26) (some b)) g1
  go_wp2_with fail
  refine (among_c (B := w1.heap.size + 1) b A n c (m + 2) _ _ [0, 5, 10, 20, 100, 10000] _ (C1.alloc _) (by omega) (RdI.lits w1 [0, 5, 10, 20, 100, 10000]) (by simp) (by simp) (fun g off e => by simp at e; omega) (by simp)).mono ?_
  rintro e w2 ⟨k, hk, rfl, C2, g2⟩
  obtain ⟨G, hG⟩ : ∃ G, G = [0, 5, 10, 20, 100, 10000].getD k (0 : Int) := ⟨_, rfl⟩
  have hGb : 0 ≤ G ∧ G ≤ 10000 := by
    rw [hG]
    simp only [List.length_cons, List.length_nil] at hk
    match k, hk with
    | 0, _ => simp
    | 1, _ => simp
    | 2, _ => simp
    | 3, _ => simp
    | 4, _ => simp
    | 5, _ => simp
  rw [← hG]
  clear hG hk
  have q0 := far_cell g2 ((World.cell?_alloc_lt w1 _ ⟨w.heap.size, 0, none⟩ (show w.heap.size < _ by omega)).trans r0) hlt
  have q1 := far_cell g2 ((World.cell?_alloc_lt w1 _ ⟨w.heap.size, 1, none⟩ (show w.heap.size < _ by omega)).trans r1) hlt
  have fq0 := far_frozen g2 ((World.cell?_alloc_lt w1 _ ⟨w.heap.size, 0, none⟩ (show w.heap.size < _ by omega)).trans r0) hlt ((World.frozen?_of_block (w := w1) (Below.heap_alloc w1 _ w.heap.size (show w.heap.size < _ by omega))).trans fr0)
  have fq1 := far_frozen g2 ((World.cell?_alloc_lt w1 _ ⟨w.heap.size, 1, none⟩ (show w.heap.size < _ by omega)).trans r1) hlt ((World.frozen?_of_block (w := w1) (Below.heap_alloc w1 _ w.heap.size (show w.heap.size < _ by omega))).trans fr1)
  have z2 := g2.size
  rw [World.size_alloc] at z2
  have G2 := grown_trans (grown_alloc G1 _) g2
  clear r0 r1 C1 g1 g2 G1 h fr0 fr1
  go_wp2_with fail
  obtain ⟨W, hW⟩ : ∃ W, W = w2.alloc (.cells #[.int .i64 (1 + x), .int .i64 G] 26) := ⟨_, rfl⟩
  rw [← hW]
  have CW : Cur W b A n c (m + 2 + 2) := by rw [hW]; exact C2.alloc _
  have GW : w.grownBy W (some b) := by rw [hW]; exact grown_alloc G2 _
  have k0 : W.cell? ⟨w.heap.size, 0, none⟩ = some (.int .i64 0) := by rw [hW]; exact (World.cell?_alloc_lt w2 _ ⟨w.heap.size, 0, none⟩ (show w.heap.size < _ by omega)).trans q0
  have k1 : W.cell? ⟨w.heap.size, 1, none⟩ = some (.int .i64 0) := by rw [hW]; exact (World.cell?_alloc_lt w2 _ ⟨w.heap.size, 1, none⟩ (show w.heap.size < _ by omega)).trans q1
  have p0 : W.cell? ⟨w2.heap.size, 0, none⟩ = some (.int .i64 (1 + x)) := by rw [hW]; exact World.cell?_alloc_new w2 _ _ 0
  have p1 : W.cell? ⟨w2.heap.size, 1, none⟩ = some (.int .i64 G) := by rw [hW]; exact World.cell?_alloc_new w2 _ _ 1
  have fk0 : W.frozen? ⟨w.heap.size, 0, none⟩ = false := by rw [hW]; exact (World.frozen?_of_block (w := w2) (Below.heap_alloc w2 _ w.heap.size (show w.heap.size < _ by omega))).trans fq0
  have fk1 : W.frozen? ⟨w.heap.size, 1, none⟩ = false := by rw [hW]; exact (World.frozen?_of_block (w := w2) (Below.heap_alloc w2 _ w.heap.size (show w.heap.size < _ by omega))).trans fq1
  have fp0 : W.frozen? ⟨w2.heap.size, 0, none⟩ = false := by rw [hW]; simp [go_sem]
  have fp1 : W.frozen? ⟨w2.heap.size, 1, none⟩ = false := by rw [hW]; simp [go_sem]
  have hbp : b < w2.heap.size := by omega
  have hwp : w.heap.size < w2.heap.size := by omega
  have zW : w2.heap.size < W.heap.size := by rw [hW, World.size_alloc]; omega
  generalize w2.heap.size = p at *
  clear hW C2 G2 q0 q1 fq0 fq1 z1 z2
  refine (pick_c b A n c _ 24 _ CW (by omega) (by omega)).mono ?_
  rintro e w3 ⟨y, y0, y1, rfl, C3, g3⟩
  have a0 := far_cell g3 k0 hlt
  have a1 := far_cell g3 k1 hlt
  have b0 := far_cell g3 p0 hbp
  have b1 := far_cell g3 p1 hbp
  have fa0 := far_frozen g3 k0 hlt fk0
  have fa1 := far_frozen g3 k1 hlt fk1
  have fb0 := far_frozen g3 p0 hbp fp0
  have fb1 := far_frozen g3 p1 hbp fp1
  have G3 := grown_trans GW g3
  have z3 := g3.size
  clear k0 k1 p0 p1 g3 CW GW fk0 fk1 fp0 fp1
  have hpr : ¬ p = w.heap.size := by omega
  have hpr2 : ¬ w.heap.size = p := by omega
  by_cases c0 : y = 0
  · subst c0
    go_wp2_with fail
    refine (among_c (B := w3.heap.size + 1) b A n c _ _ _ [0, 1000, 1001] _ (C3.alloc _) (by omega) (RdI.lits w3 [0, 1000, 1001]) (by simp) (by simp) (fun g off e => by simp at e; omega) (by simp)).mono ?_
    rintro e w4 ⟨k, hk, rfl, C4, g4⟩
    obtain ⟨V, hV⟩ : ∃ V, V = [0, 1000, 1001].getD k (0 : Int) := ⟨_, rfl⟩
    have hVb : 0 ≤ V ∧ V ≤ 1001 := by
      rw [hV]
      simp only [List.length_cons, List.length_nil] at hk
      match k, hk with
      | 0, _ => simp
      | 1, _ => simp
      | 2, _ => simp
    rw [← hV]
    clear hV hk
    (have d0 := far_cell2 g4 a0 hlt; have d1 := far_cell2 g4 a1 hlt; have e0 := far_cell2 g4 b0 hbp; have e1 := far_cell2 g4 b1 hbp; have fd0 := far_frozen2 g4 a0 hlt fa0; have fd1 := far_frozen2 g4 a1 hlt fa1; have fe0 := far_frozen2 g4 b0 hbp fb0; have fe1 := far_frozen2 g4 b1 hbp fb1; have G4 := grown_trans (grown_alloc G3 _) g4; clear a0 a1 b0 b1 fa0 fa1 fb0 fb1 g4 G3 C3)
    have c1b : ((0 : Int) == 1) = false := by simp
    go_wp2
    refine bodyPost_ret (v := .agg #[.int .i64 V, .int .i64 G]) (by simp (maxDischargeDepth := 6) [results, Try.results46, go_sem, *]) rfl ?_
    exact ⟨V, G, by omega, by omega, by omega, by omega, rfl, (((C4.setOther (by simpa using hbp) _).setOther (by simpa using hlt) _).setOther (by simpa using hlt) _).weak (by omega), grown_set (grown_set (grown_set G4 (by show w.heap.size ≤ p; omega) _) (by simp) _) (by simp) _⟩
  by_cases c1 : y = 1
  · subst c1
    go_wp2_with fail
    refine (among_c (B := w3.heap.size + 1) b A n c _ _ _ [-1, 10001] _ (C3.alloc _) (by omega) (RdI.lits w3 [-1, 10001]) (by simp) (by simp) (fun g off e => by simp at e; omega) (by simp)).mono ?_
    rintro e w4 ⟨k, hk, rfl, C4, g4⟩
    obtain ⟨V, hV⟩ : ∃ V, V = [-1, 10001].getD k (0 : Int) := ⟨_, rfl⟩
    have hVb : -1 ≤ V ∧ V ≤ 10001 := by
      rw [hV]
      simp only [List.length_cons, List.length_nil] at hk
      match k, hk with
      | 0, _ => simp
      | 1, _ => simp
    rw [← hV]
    clear hV hk
    (have d0 := far_cell2 g4 a0 hlt; have d1 := far_cell2 g4 a1 hlt; have e0 := far_cell2 g4 b0 hbp; have e1 := far_cell2 g4 b1 hbp; have fd0 := far_frozen2 g4 a0 hlt fa0; have fd1 := far_frozen2 g4 a1 hlt fa1; have fe0 := far_frozen2 g4 b0 hbp fb0; have fe1 := far_frozen2 g4 b1 hbp fb1; have G4 := grown_trans (grown_alloc G3 _) g4; clear a0 a1 b0 b1 fa0 fa1 fb0 fb1 g4 G3 C3)
    go_wp2
    refine bodyPost_ret (v := .agg #[.int .i64 (1 + x), .int .i64 V]) (by simp (maxDischargeDepth := 6) [results, Try.results46, go_sem, *]) rfl ?_
    exact ⟨1 + x, V, by omega, by omega, by omega, by omega, rfl, (((C4.setOther (by simpa using hbp) _).setOther (by simpa using hlt) _).setOther (by simpa using hlt) _).weak (by omega), grown_set (grown_set (grown_set G4 (by show w.heap.size ≤ p; omega) _) (by simp) _) (by simp) _⟩
  have c0b : (y == 0) = false := by simp [c0]
  have c1b : (y == 1) = false := by simp [c1]
  go_wp2
  refine bodyPost_ret (v := .agg #[.int .i64 (1 + x), .int .i64 G]) (by simp (maxDischargeDepth := 5) [results, Try.results46, go_sem, *]) rfl ?_
  exact ⟨1 + x, G, by omega, by omega, by omega, by omega, rfl, ((C3.setOther (by simpa using hlt) _).setOther (by simpa using hlt) _).weak (by omega), grown_set (grown_set G3 (by simp) _) (by simp) _⟩
end Go.Proofs.Ytjpijcmfnckmaaa
