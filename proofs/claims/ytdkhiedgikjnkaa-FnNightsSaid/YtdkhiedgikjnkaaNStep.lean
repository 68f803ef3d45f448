/- Contracts: flows drawn for a step test. -/
import Derived.Test.YtdkhiedgikjnkaaNBox
import Derived.Test.YtdkhiedgikjnkaaBase
import Derived.Deep.Light
namespace Go.Proofs.Ytdkhiedgikjnkaa
open Go.RowKit

def lenV : Value → Nat
  | .slice _ n _ => n
  | _ => 0
set_option maxRecDepth 100000 in
set_option maxHeartbeats 4000000 in
theorem drawStep_c (A : Option Addr) (n c : Nat) (w : World) (h : RdB w w.heap.size A n) :
    Calls Try.prog 35 #[.slice A n c] w fun e w' => ∃ (B : Option Addr) (d : Nat) (xs : List Int), e = .returned (.slice B xs.length d) ∧ OwnI w' w.heap.size (.slice B xs.length d) xs ∧ xs.length ≤ 22 ∧ Below w.heap.size w w' := by
  go_enter Try.func35, Try.ntmps35
  go_upto_region 3 with (fail)
  obtain ⟨W, hW⟩ : ∃ W, W = (w.alloc (.cells #[.slice A n c, .int .i64 0, .int .u64 0] 63)).alloc (.cells #[] 3) := ⟨_, rfl⟩
  rw [← hW]
  have B0 : Below w.heap.size w W := by rw [hW]; exact ((Below.refl _ _).alloc (Nat.le_refl _) _).alloc (by simp only [World.size_alloc]; omega) _
  have C0 : Cur W w.heap.size A n c 0 := by rw [hW]; exact (Cur.new _ _ h).alloc _
  have O0 : OwnI W (w.heap.size + 1) (.slice (some ⟨w.heap.size + 1, 0, none⟩) 0 0) [] := by rw [hW]; exact own_empty2 w _ _ (Nat.le_refl _)
  have Z0 : w.heap.size + 1 ≤ W.heap.size := by rw [hW]; simp only [World.size_alloc]; omega
  clear hW h
  obtain ⟨b, hb⟩ : ∃ b, b = w.heap.size := ⟨_, rfl⟩
  rw [← hb] at C0 O0 Z0 ⊢
  have hbb : w.heap.size ≤ b := Nat.le_of_eq hb.symm
  have hbc : b ≤ w.heap.size := Nat.le_of_eq hb
  clear hb
  go_wp2_with fail
  refine (amongL_c b A n c 0 [100, 500, 1000000] W C0 _ _ _ _ (by omega) (by rfl) (by rfl) (by rfl) (by simp) (by simp)).mono ?_
  rintro e w1 ⟨f, hf, rfl, C1, g1⟩
  have B1 := below_grown (Nat.le_refl _) B0 g1 hbb
  have O1 := own_far O0 g1 (Nat.lt_succ_self b)
  have Z1 := Nat.le_trans Z0 g1.size
  clear C0 B0 O0 Z0 g1 hf
  go_wp2_with fail
  refine (pick_c b A n c 2 8 w1 C1 (by omega) (by omega)).mono ?_
  rintro e w2 ⟨x, x0, x1, rfl, C2, g2⟩
  have B2 := below_grown (Nat.le_refl _) B1 g2 hbb
  have O2 := own_far O1 g2 (Nat.lt_succ_self b)
  have Z2 := Nat.le_trans Z1 g2.size
  obtain ⟨N, W5, hN1, hN2⟩ : ∃ N : Nat, IntKind.i64.wrap (1 + x) = (N : Int) ∧ 1 ≤ N ∧ N ≤ 8 := ⟨(1 + x).toNat, by rw [IntWalk.i64_in _ (by omega)]; omega, by omega, by omega⟩
  clear C1 B1 O1 Z1 g2
  go_wp2
  clear W5 x0 x1
  go_loopw [4, 5, 6] (fun ov fv iv wr => ∃ (k : Nat) (f : Int) (v : Value) (xs : List Int), k ≤ N ∧ iv = .int .i64 k ∧ fv = .int .i64 f ∧ ov = v ∧ (xs.length + k ≤ N ∧ N ≤ xs.length + k) ∧ Cur wr b A n c (4 + 2 * xs.length) ∧ Below w.heap.size w wr ∧ OwnI wr (b + 1) v xs ∧ b + 1 ≤ wr.heap.size) (fun _ _ iv _ => (intOf iv).toNat)
  case atStart => exact ⟨N, f, _, [], by omega, rfl, rfl, rfl, by simp, C2, B2, O2, Z2⟩
  case round =>
    clear C2 B2 O2 Z2
    obtain ⟨k, f, v, xs, hk, rfl, rfl, rfl, hxl, CC, BB, OO, ZZ⟩ := hrel
    obtain ⟨Av, cv, rfl⟩ := OO.shape
    by_cases hlt' : 0 < k
    · have hi : (0 : Int) < (k : Int) := by omega
      have Wk : IntKind.i64.wrap ((k : Int) - 1) = (k : Int) - 1 := IntWalk.i64_in _ (by omega)
      have hl14 : xs.length ≤ 65536 := by omega
      go_upto_region 8 with (at_builtin; refine wpList_appK (wr := wr) rfl (.tmp 21) (.tmp 23) rfl (b + 1) _ _ _ _ rfl OO rfl rfl (by omega) ZZ ?_; intro nv w9 q g l; obtain ⟨Aq, cq, eqv⟩ := q.shape; simp only [List.length_append, List.length_cons, List.length_nil, Nat.zero_add] at eqv; subst eqv; have q8 := own_ge OO; have C9 := CC.kept g (fun k hk => by have := q8 _ hk; omega); have B9 := BB.grown g BB.size (fun k hk => by have := q8 _ hk; omega); have Z9 := Nat.le_trans ZZ g.size)
      clear CC BB OO ZZ q8 g l
      go_wp2_with fail
      refine (amongL_c b A n c (4 + 2 * xs.length) [0, 1, 7, 30, -2] w9 C9 _ _ _ _ (by omega) (by rfl) (by rfl) (by rfl) (by simp) (by simp)).mono ?_
      rintro e w10 ⟨z, hz, rfl, C10, g10⟩
      have B10 := below_grown (Nat.le_refl _) B9 g10 hbb
      have O10 := own_far q g10 (Nat.lt_succ_self b)
      have Z10 := Nat.le_trans Z9 g10.size
      clear C9 B9 Z9 q g10 hz
      go_wp2
      go_roundw
      case rel => exact ⟨k - 1, _, _, xs ++ [f], by omega, by (first | (congr 1; omega) | (simp; omega)), rfl, rfl, by simp; omega, by (simp only [List.length_append, List.length_cons, List.length_nil]; exact C10.weak (by omega)), B10, O10, Z10⟩
      case measure => simp [intOf]; omega
    · obtain rfl : k = 0 := by omega
      have hl0 : 1 ≤ xs.length ∧ xs.length ≤ 8 := by omega
      have hi : ¬ (0 : Int) < ((0 : Nat) : Int) := by omega
      go_wp2_with fail
      refine (pick_c b A n c (4 + 2 * xs.length) 24 wr CC (by omega) (by omega)).mono ?_
      rintro e w8 ⟨y, y0, y1, rfl, C8, g8⟩
      have B8 := below_grown (Nat.le_refl _) BB g8 hbb
      have O8 := own_far OO g8 (Nat.lt_succ_self b)
      have Z8 := Nat.le_trans ZZ g8.size
      clear CC BB OO ZZ g8 hxl hk hlt' hN1 hN2
      by_cases c0 : y = 0
      · subst c0
        obtain ⟨gb, cc, hv, hg1, hg2⟩ := O8.head (by omega)
        simp only [Value.slice.injEq, true_and] at hv
        obtain ⟨rfl, rfl⟩ := hv
        have hx1 : 0 < xs.length := by omega
        go_wp2_with fail
        refine (amongL_c b A n c (4 + 2 * xs.length + 2) [-1, 1000001] w8 C8 _ _ _ _ (by omega) (by rfl) (by rfl) (by rfl) (by simp) (by simp)).mono ?_
        rintro e w9 ⟨z, hz, rfl, C9, g9⟩
        have B9 := below_grown (Nat.le_refl _) B8 g9 hbb
        have O9 := own_far O8 g9 (Nat.lt_succ_self b)
        have rc := O9.cellAt (k := 0) (by omega)
        have rf := O9.frozenAt 0
        have st := (O9.stored 0 z).1.weak (base' := w.heap.size) (by omega)
        have HG := Lib.hid (show w.heap.size ≤ gb by omega)
        clear C8 B8 O8 Z8 g9 hz C9 O9
        go_wp2
        go_ret
        exact ⟨some ⟨gb, 0, none⟩, cv, xs.set 0 z, by simp, by simpa using st, by simp; omega, B9.setCell HG.out _⟩
      by_cases c1' : y = 1
      · subst c1'
        have hl22 : xs.length ≤ 21 := by omega
        go_wp2
        go_loopw [4] (fun ov wr => ∃ (v : Value) (zs : List Int), ov = v ∧ zs.length ≤ 21 ∧ Cur wr b A n c (40 + 2 * zs.length) ∧ Below w.heap.size w wr ∧ OwnI wr (b + 1) v zs ∧ b + 1 ≤ wr.heap.size) (fun ov _ => 22 - lenV ov)
        case atStart => exact ⟨_, xs, rfl, hl22, C8.weak (by omega), B8, O8, Z8⟩
        case round =>
          clear C8 B8 O8 Z8 hl22
          obtain ⟨v, zs, rfl, hzs, CC, BB, OO, ZZ⟩ := hrel
          obtain ⟨Av, cv, rfl⟩ := OO.shape
          go_wp2_with fail
          refine (pick_c b A n c (40 + 2 * zs.length) 2 wr CC (by omega) (by omega)).mono ?_
          rintro e wx ⟨i, i0, i1, rfl, CX, gX⟩
          have BX := below_grown (Nat.le_refl _) BB gX hbb
          have OX := own_far OO gX (Nat.lt_succ_self b)
          have ZX := Nat.le_trans ZZ gX.size
          have W14 : IntKind.i64.wrap (20 + i) = 20 + i := IntWalk.i64_in _ (by omega)
          clear CC BB OO ZZ gX
          by_cases hlt' : (zs.length : Int) < 20 + i
          · have hl14 : zs.length ≤ 20 := by omega
            go_wp2_with (at_builtin; refine wpList_appK (wr := wx) rfl (.tmp 47) (.tmp 49) rfl (b + 1) _ _ _ _ rfl OX rfl rfl (by omega) ZX ?_; intro nv w9 q g l; obtain ⟨Aq, cq, eqv⟩ := q.shape; simp only [List.length_append, List.length_cons, List.length_nil, Nat.zero_add] at eqv; subst eqv; have q8 := own_ge OX; have C9 := CX.kept g (fun k hk => by have := q8 _ hk; omega); have B9 := BX.grown g BX.size (fun k hk => by have := q8 _ hk; omega); have Z9 := Nat.le_trans ZX g.size)
            go_roundw
            case rel => exact ⟨_, zs ++ [f], rfl, by simp; omega, C9.weak (by simp; omega), B9, q, Z9⟩
            case measure => simp [lenV]; omega
          · have OW := OX.weak (base' := w.heap.size) (by omega)
            clear CX OX ZX
            go_wp2
            go_ret
            exact ⟨Av, cv, zs, rfl, OW, by omega, BX⟩
      have c0b : (y == 0) = false := by simp [c0]
      have c1b : (y == 1) = false := by simp [c1']
      have OW := O8.weak (base' := w.heap.size) (by omega)
      clear C8 O8 Z8
      go_wp2
      go_ret
      exact ⟨Av, cv, xs, rfl, OW, by omega, B8⟩
end Go.Proofs.Ytdkhiedgikjnkaa
