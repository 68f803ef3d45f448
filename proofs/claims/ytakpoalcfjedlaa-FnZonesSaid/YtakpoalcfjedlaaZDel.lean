/- Contracts: searches and deletions at the closures of the zones. -/
import Derived.Test.YtakpoalcfjedlaaZSort
import Derived.Test.YtakpoalcfjedlaaZRule
import Derived.Lib.SliceRun
namespace Go.Proofs.Ytakpoalcfjedlaa
open Go.RowKit

theorem OwnI.pre {w : World} {base g n cap : Nat} {xs : List Int} (h : OwnI w base (.slice (some ⟨g, 0, none⟩) n cap) xs) {k : Nat} (hk : k ≤ n) : OwnI w base (.slice (some ⟨g, 0, none⟩) k cap) (xs.take k) := by
  obtain ⟨h1, h2⟩ := h
  simp only [List.length_map, Nat.mul_one] at h1
  rcases h2 with ⟨e, _⟩ | ⟨g', cap', cur, e, hb, hh, hc, hm, hs, ht⟩
  · cases e
  · simp only [Value.slice.injEq, Option.some.injEq, Addr.mk.injEq, and_true] at e
    obtain ⟨rfl, e2, rfl⟩ := e
    have l : (xs.take k).length = k := by rw [List.length_take]; omega
    refine ⟨by simp, .inr ⟨g, cap, cur, by rw [l], hb, hh, by omega, hm, hs, ?_⟩⟩
    rw [l, Nat.mul_one, List.map_take, ← ht, List.take_take, Nat.mul_one]
    congr 1
    omega
theorem own_clear (g base n cap : Nat) : ∀ (m i : Nat) (w : World) (cs : List Int), OwnI w base (.slice (some ⟨g, 0, none⟩) n cap) cs → cs.length = n → i + m ≤ n →
    ∃ cs', OwnI (w.setCells g i (List.replicate m (.int .i64 0))) base (.slice (some ⟨g, 0, none⟩) n cap) cs' ∧ cs'.length = n ∧ cs'.take i = cs.take i ∧ w.grownBy (w.setCells g i (List.replicate m (.int .i64 0))) (some g)
  | 0, i, w, cs, h, hl, _ => ⟨cs, h, hl, rfl, World.grownBy.refl _ _⟩
  | m + 1, i, w, cs, h, hl, hm => by
    have s := h.storedN hl i 0
    obtain ⟨cs', a, b, c, d⟩ := own_clear g base n cap m (i + 1) (w.setCell ⟨g, i, none⟩ (.int .i64 0)) (cs.set i 0) s.1 (by rw [List.length_set]; exact hl) (by omega)
    refine ⟨cs', a, b, ?_, grown_trans s.2 d⟩
    have e : cs'.take i = (cs'.take (i + 1)).take i := by rw [List.take_take]; congr 1; omega
    rw [e, c, List.take_take, Nat.min_eq_left (by omega), List.take_set_of_le (Nat.le_refl _)]
/-- What the closures of the zones read. -/
structure CloB (w : World) (r v : Nat) (L M y : Int) : Prop where
  c0 : w.cell? ⟨r, 0, none⟩ = some (.int .i64 L)
  c1 : w.cell? ⟨r, 1, none⟩ = some (.int .i64 M)
  c2 : w.cell? ⟨v, 0, none⟩ = some (.int .i64 y)
theorem CloB.below {w w' : World} {r v : Nat} {L M y : Int} (h : CloB w r v L M y) (hb : Below w.heap.size w w') : CloB w' r v L M y :=
  ⟨(hb.cell (lt_of_cell (by rw [h.c0]; rfl))).trans h.c0, (hb.cell (lt_of_cell (by rw [h.c1]; rfl))).trans h.c1, (hb.cell (lt_of_cell (by rw [h.c2]; rfl))).trans h.c2⟩
theorem CloB.kept {w w' : World} {r v g : Nat} {L M y : Int} (h : CloB w r v L M y) (hg : w.grownBy w' (some g)) (hr : ¬ r = g) (hv : ¬ v = g) : CloB w' r v L M y := by
  have e : ∀ p : Addr, ¬ p.block = g → (w.cell? p).isSome = true → w'.cell? p = w.cell? p := fun p hp hs => World.cell?_of_block (hg.block p.block (lt_of_cell hs) (fun q => hp (Option.some.inj q)))
  exact ⟨(e _ hr (by rw [h.c0]; rfl)).trans h.c0, (e _ hr (by rw [h.c1]; rfl)).trans h.c1, (e _ hv (by rw [h.c2]; rfl)).trans h.c2⟩
theorem CloB.drewN {w : World} {r v : Nat} {L M y : Int} (h : CloB w r v L M y) (k : Nat) : CloB (w.drewN k) r v L M y := ⟨h.c0, h.c1, h.c2⟩
theorem fclo_c (r v : Nat) (L M l x : Int) (w : World) (h : CloB w r v L M l) (a : 0 ≤ l) (b : l ≤ 2000) (c : 0 ≤ x) (d : x ≤ 2000) : Calls Try.prog 76 #[.int .i64 x, .pointer (some ⟨r, 0, none⟩), .pointer (some ⟨v, 0, none⟩)] w fun e w' => e = .returned (.bool (suitP L M l x)) ∧ Below w.heap.size w w' := by
  obtain ⟨c0, c1, c2⟩ := h
  go_enter Try.func76, Try.ntmps76
  go_wp2_with fail
  refine (suits_c L M l x _ (by omega) (by omega) (by omega) (by omega)).mono ?_
  rintro e w1 ⟨rfl, hb⟩
  go_wp2
  go_ret
  exact ⟨rfl, hb⟩
theorem zclo_c (r v : Nat) (L M l x : Int) (w : World) (h : CloB w r v L M x) (a : 0 ≤ l) (b : l ≤ 2000) (c : 0 ≤ x) (d : x ≤ 2000) : Calls Try.prog 67 #[.int .i64 l, .pointer (some ⟨r, 0, none⟩), .pointer (some ⟨v, 0, none⟩)] w fun e w' => e = .returned (.bool (suitP L M l x)) ∧ Below w.heap.size w w' := by
  obtain ⟨c0, c1, c2⟩ := h
  go_enter Try.func67, Try.ntmps67
  go_wp2_with fail
  refine (suits_c L M l x _ (by omega) (by omega) (by omega) (by omega)).mono ?_
  rintro e w1 ⟨rfl, hb⟩
  go_wp2
  go_ret
  exact ⟨rfl, hb⟩
set_option maxHeartbeats 1000000 in
theorem fidx_c {B : Nat} (r v : Nat) (L M y : Int) (A : Option Addr) (c : Nat) (xs : List Int) (w : World) (h : RdI w B A xs) (hB : B ≤ w.heap.size) (hc : CloB w r v L M y) (hm : xs.length ≤ 1048576) (ha : 0 ≤ y) (hb : y ≤ 2000) (hx : ∀ j, j < xs.length → 0 ≤ xs.getD j 0 ∧ xs.getD j 0 ≤ 2000) : Calls Try.prog 66 #[.slice A xs.length c, .func (.func 76) #[] #[.pointer (some ⟨r, 0, none⟩), .pointer (some ⟨v, 0, none⟩)]] w fun e w' => e = .returned (.int .i64 (idxI (fun x => suitP L M y x) xs)) ∧ Below w.heap.size w w' := by
  have H := Lib.hid h
  have HC := Lib.hid hc
  have HX := Lib.hid hx
  clear h hc hx
  go_enter Try.func66, Try.ntmps66
  go_wp2
  go_loopw [5, 8] (fun _ i wr => ∃ k : Nat, k ≤ xs.length ∧ i = .int .i64 k ∧ (∀ j, j < k → (fun x => suitP L M y x) (xs.getD j 0) = false) ∧ Below w.heap.size w wr) (fun _ i _ => xs.length - (intOf i).toNat)
  case atStart => exact ⟨0, by omega, rfl, fun j hj => absurd hj (by omega), Below.refl _ _⟩
  case round =>
    obtain ⟨k, hk, rfl, hno, BR⟩ := hrel
    by_cases hlt : k < xs.length
    · obtain ⟨b, off, x, rfl, hxk, hb', hcell⟩ := H.out.at_ hlt
      replace hcell := (BR.cell (p := ⟨b, off + k, none⟩) (by show b < _; omega)).trans hcell
      have xb := HX.out k hlt
      rw [← hxk] at xb
      have C0 := (fun W hh h1 h2 => fclo_c r v L M y x W hh ha hb h1 h2) wr (HC.out.below BR) xb.1 xb.2
      have HNO := Lib.hid hno
      have HK := Lib.hid hxk
      have hi : (k : Int) < (xs.length : Int) := by omega
      have Wk : IntKind.i64.wrap ((k : Int) + 1) = (k : Int) + 1 := IntWalk.i64_in _ (by omega)
      clear hno hxk xb
      cases hp : suitP L M y x
      · rw [hp] at C0
        have C2 := Lib.hid C0
        clear C0
        go_wp2_with (go_at_call 76; refine C2.out.mono ?_; rintro e w1 ⟨rfl, hb1⟩)
        go_roundw
        case rel => exact ⟨k + 1, by omega, by go_num, fun j hj => by
          by_cases e : j = k
          · subst e; rw [← HK.out]; exact hp
          · exact HNO.out j (by omega), BR.trans (hb1.mono BR.size)⟩
        case measure => simp [intOf]; omega
      · rw [hp] at C0
        have C2 := Lib.hid C0
        have hr := idxI_hit (fun x => suitP L M y x) hlt HNO.out (by rw [← HK.out]; exact hp)
        have HR := Lib.hid hr
        clear C0 hr
        go_wp2_with (go_at_call 76; refine C2.out.mono ?_; rintro e w1 ⟨rfl, hb1⟩)
        go_returns
        exact ⟨by rw [HR.out]; rfl, BR.trans (hb1.mono BR.size)⟩
    · have hr := idxI_none (fun x => suitP L M y x) (fun j hj => hno j (by omega))
      have HR := Lib.hid hr
      clear hno hr
      go_wp2
      go_returns
      exact ⟨by rw [HR.out]; rfl, BR⟩
set_option maxHeartbeats 1000000 in
theorem zidx_c {B : Nat} (r v : Nat) (L M y : Int) (A : Option Addr) (c : Nat) (xs : List Int) (w : World) (h : RdI w B A xs) (hB : B ≤ w.heap.size) (hc : CloB w r v L M y) (hm : xs.length ≤ 1048576) (ha : 0 ≤ y) (hb : y ≤ 2000) (hx : ∀ j, j < xs.length → 0 ≤ xs.getD j 0 ∧ xs.getD j 0 ≤ 2000) : Calls Try.prog 66 #[.slice A xs.length c, .func (.func 67) #[] #[.pointer (some ⟨r, 0, none⟩), .pointer (some ⟨v, 0, none⟩)]] w fun e w' => e = .returned (.int .i64 (idxI (fun x => suitP L M x y) xs)) ∧ Below w.heap.size w w' := by
  have H := Lib.hid h
  have HC := Lib.hid hc
  have HX := Lib.hid hx
  clear h hc hx
  go_enter Try.func66, Try.ntmps66
  go_wp2
  go_loopw [5, 8] (fun _ i wr => ∃ k : Nat, k ≤ xs.length ∧ i = .int .i64 k ∧ (∀ j, j < k → (fun x => suitP L M x y) (xs.getD j 0) = false) ∧ Below w.heap.size w wr) (fun _ i _ => xs.length - (intOf i).toNat)
  case atStart => exact ⟨0, by omega, rfl, fun j hj => absurd hj (by omega), Below.refl _ _⟩
  case round =>
    obtain ⟨k, hk, rfl, hno, BR⟩ := hrel
    by_cases hlt : k < xs.length
    · obtain ⟨b, off, x, rfl, hxk, hb', hcell⟩ := H.out.at_ hlt
      replace hcell := (BR.cell (p := ⟨b, off + k, none⟩) (by show b < _; omega)).trans hcell
      have xb := HX.out k hlt
      rw [← hxk] at xb
      have C0 := (fun W hh h1 h2 => zclo_c r v L M x y W hh h1 h2 ha hb) wr (HC.out.below BR) xb.1 xb.2
      have HNO := Lib.hid hno
      have HK := Lib.hid hxk
      have hi : (k : Int) < (xs.length : Int) := by omega
      have Wk : IntKind.i64.wrap ((k : Int) + 1) = (k : Int) + 1 := IntWalk.i64_in _ (by omega)
      clear hno hxk xb
      cases hp : suitP L M x y
      · rw [hp] at C0
        have C2 := Lib.hid C0
        clear C0
        go_wp2_with (go_at_call 67; refine C2.out.mono ?_; rintro e w1 ⟨rfl, hb1⟩)
        go_roundw
        case rel => exact ⟨k + 1, by omega, by go_num, fun j hj => by
          by_cases e : j = k
          · subst e; rw [← HK.out]; exact hp
          · exact HNO.out j (by omega), BR.trans (hb1.mono BR.size)⟩
        case measure => simp [intOf]; omega
      · rw [hp] at C0
        have C2 := Lib.hid C0
        have hr := idxI_hit (fun x => suitP L M x y) hlt HNO.out (by rw [← HK.out]; exact hp)
        have HR := Lib.hid hr
        clear C0 hr
        go_wp2_with (go_at_call 67; refine C2.out.mono ?_; rintro e w1 ⟨rfl, hb1⟩)
        go_returns
        exact ⟨by rw [HR.out]; rfl, BR.trans (hb1.mono BR.size)⟩
    · have hr := idxI_none (fun x => suitP L M x y) (fun j hj => hno j (by omega))
      have HR := Lib.hid hr
      clear hno hr
      go_wp2
      go_returns
      exact ⟨by rw [HR.out]; rfl, BR⟩
end Go.Proofs.Ytakpoalcfjedlaa
