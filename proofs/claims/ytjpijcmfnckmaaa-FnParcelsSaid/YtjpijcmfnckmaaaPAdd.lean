/- Contracts: parcels joined. -/
import Derived.Test.YtjpijcmfnckmaaaPPipe
import Derived.Test.YtjpijcmfnckmaaaPJPlain
import Derived.Maps.AppendAt
namespace Go.Proofs.Ytjpijcmfnckmaaa
open Go.RowKit

theorem OwnP.last {w : World} {base : Nat} {v : Value} {ys : List (Int × Int)} (h : OwnP w base v ys) (hp : 0 < ys.length) :
    ∃ g cap m V G, v = .slice (some ⟨g, 0, none⟩) (m + 1) cap ∧ ys.length = m + 1 ∧ (V, G) = ys.getD m (0, 0) ∧ base ≤ g ∧ g < w.heap.size ∧ m + 1 ≤ cap ∧ w.cell? ⟨g, m * 2, none⟩ = some (.int .i64 V) ∧ w.cell? ⟨g, m * 2 + 1, none⟩ = some (.int .i64 G) ∧
      w.frozen? ⟨g, m * 2, none⟩ = false := by
  obtain ⟨g, cap, rfl, h1, h2⟩ := h.head hp
  obtain ⟨b, off, V, G, hA, hx, _, c0, c1⟩ := h.rd.at_ (k := ys.length - 1) (by omega)
  simp only [Option.some.injEq, Addr.mk.injEq, and_true] at hA
  obtain ⟨rfl, rfl⟩ := hA
  rw [Nat.zero_add] at c0 c1
  have hc := h.cap_le
  obtain ⟨m, hm⟩ : ∃ m, ys.length = m + 1 := ⟨ys.length - 1, by omega⟩
  rw [hm, Nat.add_sub_cancel] at hx c0 c1
  exact ⟨g, cap, m, V, G, by rw [hm], hm, hx, h1, h2, by omega, c0, c1, h.frozenAt _⟩
/-- append of one pair to a slice of the call's own, the new block's number said otherwise. -/
theorem wpList_appQ {wr : World} {ops : Array Oper} {rest : List Oper} {o : Oper} {a : Act} {Q : Exit → Act → World → Prop} (hgd : o.guard = none) (s x : Operand)
    (ho : o.op = .call { callee := .builtin .append, args := #[s, x], argTypes := #[24, 24] }) (base : Nat) (v : Value) (xs : List (Int × Int)) (y z : Int) (H : Nat)
    (hs : a.eval s = v) (hown : OwnP wr base v xs) (hx : a.eval x = .slice (some ⟨H, 0, none⟩) 1 1) (hH : wr.heap.size = H) (hlen : xs.length ≤ 65536) (hbase : base ≤ wr.heap.size)
    (h : ∀ v' w', OwnP w' base v' (xs ++ [(y, z)]) → Below base wr w' → wpList Try.prog ops Q rest (a.put o.dst v') w') : wpList Try.prog ops Q (o :: rest) a (wr.alloc (.cells #[.int .i64 y, .int .i64 z] 26)) := by
  subst hH
  exact wpList_appP hgd s x ho base v xs y z hs hown hx hlen hbase h
set_option maxHeartbeats 1000000 in
theorem joined_c {B : Nat} (A : Option Addr) (c : Nat) (xs : List (Int × Int)) (w : World) (h : RdP w B A xs) (hBs : B ≤ w.heap.size) (hb : bnd xs 1000) (hn : xs.length ≤ 60000) :
    Calls Try.prog 62 #[.slice A xs.length c] w (RetP w (joinT xs xs.length) id) := by
  go_enter Try.func62, Try.ntmps62
  go_wp2
  go_loopw [3, 5, 6, 10] (fun o _ _ i wr => ∃ k : Nat, k ≤ xs.length ∧ i = .int .i64 k ∧ OwnP wr w.heap.size o (joinT xs k) ∧ Below w.heap.size w wr) (fun _ _ _ i _ => xs.length - (intOf i).toNat)
  case atStart => exact ⟨0, by omega, rfl, OwnP.empty w _ (Nat.le_refl _), by (repeat' (first | (with_reducible exact Below.refl _ _) | (with_reducible assumption) | (with_reducible refine below_drewN ?_ _) | (with_reducible refine Below.alloc ?_ ?_ _) | (with_reducible refine Below.drew ?_) | (with_reducible refine Below.setCell ?_ ?_ _) | go_size))⟩
  case round =>
    obtain ⟨k, hk, rfl, hown, hB⟩ := hrel
    have hsz := hB.size
    by_cases hlt : k < xs.length
    · obtain ⟨b, off, x, y, rfl, hx, hbB, hc0, hc1⟩ := (h.below (hB.mono hBs)).at_ hlt
      have hi : (k : Int) < (xs.length : Int) := by omega
      have hxb := bnd_at hb hlt hx
      have hjl := joinT_len xs k
      have hjb := joinT_bnd hb k hk
      have hj := joinT_succ hx
      generalize joinT xs k = ys at hown hjl hjb hj
      have hle : ys.length ≤ 65536 := by omega
      have H := Lib.hid h
      clear hx h hb
      by_cases hz : x = 0
      · subst hz
        rw [addP_none rfl] at hj
        obtain ⟨A', c', rfl⟩ := hown.shape
        have HJ := Lib.hid hj
        have HO := Lib.hid (hown.alloc (.cells #[.int .i64 0, .int .i64 y] 26))
        clear hj hown hjb
        have hll : (ys.length : Int) ≤ 60000 := by omega
        have wr1 : IntKind.i64.wrap ((ys.length : Int) - 1) = (ys.length : Int) - 1 := IntWalk.i64_in _ (by omega)
        go_wp2
        go_roundw
        case rel => exact ⟨k + 1, by omega, by go_num, by rw [HJ.out]; exact HO.out, by (repeat' (first | (with_reducible exact Below.refl _ _) | (with_reducible assumption) | (with_reducible refine below_drewN ?_ _) | (with_reducible refine Below.alloc ?_ ?_ _) | (with_reducible refine Below.drew ?_) | (with_reducible refine Below.setCell ?_ ?_ _) | go_size))⟩
        case measure => simp [intOf]; omega
      rcases Nat.eq_zero_or_pos ys.length with h0 | hpos
      · have e := List.eq_nil_of_length_eq_zero h0
        subst e
        rw [addP_first hz] at hj
        obtain ⟨A', c', rfl⟩ := hown.shape
        have HJ := Lib.hid hj
        have hownA := (hown.alloc (.cells #[.int .i64 x, .int .i64 y] 26))
        have HO := Lib.hid hownA
        clear hj hown hjb hownA
        go_wp2
        go_quiet (fail)
        go_wp2_with (at_builtin; refine wpList_appQ rfl (.tmp 17) (.tmp 19) rfl w.heap.size _ _ _ _ _ rfl (HO.out.drewN nq) rfl (by simp) hle (by first | omega | go_size) ?_; intro v1 w1 hown1 hb1)
        go_roundw
        case rel => exact ⟨k + 1, by omega, by go_num, by rw [HJ.out]; exact hown1, Below.trans (by (repeat' (first | (with_reducible exact Below.refl _ _) | (with_reducible assumption) | (with_reducible refine below_drewN ?_ _) | (with_reducible refine Below.alloc ?_ ?_ _) | (with_reducible refine Below.drew ?_) | (with_reducible refine Below.setCell ?_ ?_ _) | go_size))) hb1⟩
        case measure => simp [intOf]; omega
      · obtain ⟨g, cap, m, V, G, rfl, hm, hV, hg1, hg2, hcap, d0, d1, df⟩ := hown.last hpos
        have hVb := bnd_at hjb (by omega) hV
        have hownA := (hown.alloc (.cells #[.int .i64 x, .int .i64 y] 26))
        have wr1 : IntKind.i64.wrap ((m : Int) + 1 - 1) = (m : Int) := by rw [IntWalk.i64_in _ (by omega)]; omega
        have hmi : (m : Int) < (m : Int) + 1 := by omega
        have wr2 : IntKind.i64.wrap (V + x) = V + x := IntWalk.i64_in _ (by omega)
        have hne : ¬ g = wr.heap.size := by omega
        by_cases hq : G = y
        · subst hq
          rw [addP_same hz hm hV, ← set_last hm] at hj
          have hst := OwnP.store0 hownA (k := m) (by omega) (V + x)
          rw [← hV] at hst
          have HJ := Lib.hid hj
          have HO := Lib.hid hst
          clear hj hown hjb hownA hV hpos hst
          go_wp2
          go_quiet (fail)
          go_wp2
          go_region
          go_wp2
          go_roundw
          case rel => exact ⟨k + 1, by omega, by go_num, by rw [HJ.out]; exact HO.out.1, by (repeat' (first | (with_reducible exact Below.refl _ _) | (with_reducible assumption) | (with_reducible refine below_drewN ?_ _) | (with_reducible refine Below.alloc ?_ ?_ _) | (with_reducible refine Below.drew ?_) | (with_reducible refine Below.setCell ?_ ?_ _) | go_size))⟩
          case measure => simp [intOf]; omega
        · rw [addP_other hz hm hV hq] at hj
          have HJ := Lib.hid hj
          have HO := Lib.hid hownA
          clear hj hown hjb hownA hV hpos
          go_wp2
          go_quiet (fail)
          go_wp2_with (at_builtin; refine wpList_appQ rfl (.tmp 17) (.tmp 19) rfl w.heap.size _ _ _ _ _ rfl (HO.out.drewN nq) rfl (by simp) hle (by first | omega | go_size) ?_; intro v1 w1 hown1 hb1)
          go_roundw
          case rel => exact ⟨k + 1, by omega, by go_num, by rw [HJ.out]; exact hown1, Below.trans (by (repeat' (first | (with_reducible exact Below.refl _ _) | (with_reducible assumption) | (with_reducible refine below_drewN ?_ _) | (with_reducible refine Below.alloc ?_ ?_ _) | (with_reducible refine Below.drew ?_) | (with_reducible refine Below.setCell ?_ ?_ _) | go_size))) hb1⟩
          case measure => simp [intOf]; omega
    · obtain rfl : k = xs.length := by omega
      obtain ⟨A', c', rfl⟩ := hown.shape
      have HO := Lib.hid hown
      clear h hown
      go_wp2
      go_ret
      exact ⟨_, _, rfl, HO.out, hB⟩
end Go.Proofs.Ytjpijcmfnckmaaa
