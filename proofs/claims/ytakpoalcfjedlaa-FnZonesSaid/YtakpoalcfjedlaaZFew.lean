/- Contracts: FewestLevels. -/
import Derived.Test.YtakpoalcfjedlaaZDel
import Derived.Test.YtakpoalcfjedlaaAppK
import Derived.Test.YtakpoalcfjedlaaCur3
namespace Go.Proofs.Ytakpoalcfjedlaa
open Go.RowKit

/-- What stands in the row while deletions go on: i kept of the first j. -/
structure DelI (P : Int → Bool) (xs cs : List Int) (i j : Nat) : Prop where
  len : cs.length = xs.length
  pre : cs.take i = (xs.take j).filter fun e => !P e
  rest : ∀ q, j ≤ q → cs.getD q 0 = xs.getD q 0
  le : i < j
theorem DelI.start {P : Int → Bool} {xs : List Int} {k : Nat} (hk : k < xs.length) (hno : ∀ j, j < k → P (xs.getD j 0) = false) (hp : P (xs.getD k 0) = true) : DelI P xs xs k (k + 1) := by
  refine ⟨rfl, ?_, fun q _ => rfl, by omega⟩
  have e : (xs.take k).filter (fun e => !P e) = xs.take k := by
    rw [List.filter_eq_self]
    intro x hx
    obtain ⟨j, hj, rfl⟩ := List.getElem_of_mem hx
    rw [List.length_take] at hj
    have := hno j (by omega)
    simp only [List.getElem_take]
    rw [show xs.getD j 0 = xs[j] by simp [List.getD_eq_getElem?_getD, show j < xs.length by omega]] at this
    simp [this]
  rw [List.take_succ_eq_append_getElem hk, List.filter_append, e]
  rw [show xs.getD k 0 = xs[k] by simp [List.getD_eq_getElem?_getD, hk]] at hp
  simp [hp]
theorem DelI.skip {P : Int → Bool} {xs cs : List Int} {i j : Nat} (h : DelI P xs cs i j) (hj : j < xs.length) (hp : P (xs.getD j 0) = true) : DelI P xs cs i (j + 1) := by
  refine ⟨h.len, ?_, fun q hq => h.rest q (by omega), by have := h.le; omega⟩
  rw [List.take_succ_eq_append_getElem hj, List.filter_append, ← h.pre]
  rw [show xs.getD j 0 = xs[j] by simp [List.getD_eq_getElem?_getD, hj]] at hp
  simp [hp]
theorem DelI.keep {P : Int → Bool} {xs cs : List Int} {i j : Nat} {x : Int} (h : DelI P xs cs i j) (hj : j < xs.length) (hx : x = xs.getD j 0) (hp : P x = false) : DelI P xs (cs.set i x) (i + 1) (j + 1) := by
  have le := h.le
  have l := h.len
  refine ⟨by rw [List.length_set]; exact l, ?_, fun q hq => ?_, by omega⟩
  · rw [List.take_succ_eq_append_getElem (by rw [List.length_set]; omega), List.take_set_of_le (Nat.le_refl _), h.pre, List.take_succ_eq_append_getElem hj, List.filter_append]
    rw [show xs.getD j 0 = xs[j] by simp [List.getD_eq_getElem?_getD, hj]] at hx
    rw [← hx]
    simp [hp]
  · rw [getD_set _ _ _ _ (by omega), if_neg (by omega)]
    exact h.rest q (by omega)
theorem DelI.done {P : Int → Bool} {xs cs : List Int} {i : Nat} (h : DelI P xs cs i xs.length) : cs.take i = xs.filter (fun e => !P e) ∧ (xs.filter fun e => !P e).length = i := by
  have p := h.pre
  rw [List.take_length] at p
  refine ⟨p, ?_⟩
  rw [← p, List.length_take, h.len]
  have := h.le
  omega
theorem del_none {P : Int → Bool} {xs : List Int} (h : ∀ j, j < xs.length → P (xs.getD j 0) = false) : xs.filter (fun e => !P e) = xs := by
  rw [List.filter_eq_self]
  intro x hx
  obtain ⟨j, hj, rfl⟩ := mem_getD hx
  rw [h j hj]; rfl
theorem idxI_ways (P : Int → Bool) (xs : List Int) : (idxI P xs = -1 ∧ ∀ j, j < xs.length → P (xs.getD j 0) = false) ∨ ∃ k : Nat, k < xs.length ∧ idxI P xs = k ∧ P (xs.getD k 0) = true ∧ ∀ j, j < k → P (xs.getD j 0) = false := by
  unfold idxI
  cases e : xs.findIdx? P with
  | none =>
    left
    rw [List.findIdx?_eq_none_iff] at e
    exact ⟨rfl, fun j hj => e _ (getD_mem hj)⟩
  | some k =>
    right
    rw [List.findIdx?_eq_some_iff_getElem] at e
    obtain ⟨hk, h1, h2⟩ := e
    refine ⟨k, hk, rfl, by simpa [List.getD_eq_getElem?_getD, hk] using h1, fun j hj => ?_⟩
    have := h2 j hj
    simpa [List.getD_eq_getElem?_getD, show j < xs.length by omega] using this
theorem own_cap {w : World} {base n c : Nat} {A : Option Addr} {xs : List Int} (h : OwnI w base (.slice A n c) xs) : n ≤ c := by
  rcases h.2 with ⟨hv, h0⟩ | ⟨g, cap, cur, hv, hb, hg, hs, _⟩
  · simp only [Value.slice.injEq] at hv; omega
  · simp only [Value.slice.injEq] at hv; omega
set_option maxHeartbeats 2000000 in
theorem delete_c (r v : Nat) (L M l : Int) (g base n cap : Nat) (xs : List Int) (w : World) (hn : xs.length = n) (hn12 : n ≤ 12) (o : OwnI w base (.slice (some ⟨g, 0, none⟩) n cap) xs) (hc : CloB w r v L M l) (hr : ¬ r = g) (hv : ¬ v = g) (ha : 0 ≤ l) (hb : l ≤ 2000) (hx : ∀ j, j < xs.length → 0 ≤ xs.getD j 0 ∧ xs.getD j 0 ≤ 2000) :
    Calls Try.prog 75 #[.slice (some ⟨g, 0, none⟩) n cap, .func (.func 76) #[] #[.pointer (some ⟨r, 0, none⟩), .pointer (some ⟨v, 0, none⟩)]] w fun e w' => e = .returned (.slice (some ⟨g, 0, none⟩) (xs.filter fun e => !suitP L M l e).length cap) ∧ OwnI w' base (.slice (some ⟨g, 0, none⟩) (xs.filter fun e => !suitP L M l e).length cap) (xs.filter fun e => !suitP L M l e) ∧ w.grownBy w' (some g) := by
  have rd : RdI w w.heap.size (some ⟨g, 0, none⟩) xs := by subst hn; exact o.rd
  have ix := fidx_c r v L M l (some ⟨g, 0, none⟩) cap xs w rd (Nat.le_refl _) hc (by omega) ha hb hx
  rw [hn] at ix
  have gl := (o.lt g rfl).2
  have cn := own_cap o
  rcases idxI_ways (fun x => suitP L M l x) xs with ⟨e1, hall⟩ | ⟨k, hk, e1, hp, hno⟩
  · rw [e1] at ix
    have IX := Lib.hid ix
    have f := del_none hall
    have O := Lib.hid o
    have HN := Lib.hid hn
    rw [f]
    clear ix hall e1 f rd hx hc o hn cn
    go_enter Try.func75, Try.ntmps75
    go_wp2_with fail
    refine IX.out.mono ?_
    rintro e w1 ⟨rfl, hb1⟩
    go_wp2
    go_returns
    exact ⟨by rw [HN.out]; rfl, by rw [HN.out]; exact O.out.below hb1, grown_below hb1⟩
  · rw [e1] at ix
    have IX := Lib.hid ix
    have O := Lib.hid o
    have HN := Lib.hid hn
    have HX := Lib.hid hx
    have HC := Lib.hid hc
    have ST := Lib.hid (DelI.start hk hno hp)
    have hkn : k < n := by omega
    have ne1 : ((k : Int) == -1) = false := by simp
    have Wk : IntKind.i64.wrap ((k : Int) + 1) = (k : Int) + 1 := IntWalk.i64_in _ (by omega)
    clear ix hno hp e1 rd hx hc o hn hk
    go_enter Try.func75, Try.ntmps75
    go_wp2_with fail
    refine IX.out.mono ?_
    rintro e w1 ⟨rfl, hb1⟩
    have O1 := Lib.hid (O.out.below hb1)
    have C1 := Lib.hid (HC.out.below hb1)
    have G1 := grown_below (row := some g) hb1
    clear O HC IX hb1
    go_wp2
    go_loopw [5, 6, 7] (fun iv jv _ wr => ∃ (i j : Nat) (cs : List Int), j ≤ n ∧ iv = .int .i64 i ∧ jv = .int .i64 j ∧ DelI (fun x => suitP L M l x) xs cs i j ∧ OwnI wr base (.slice (some ⟨g, 0, none⟩) n cap) cs ∧ CloB wr r v L M l ∧ w.grownBy wr (some g)) (fun _ jv _ _ => n - (intOf jv).toNat)
    case atStart => exact ⟨k, k + 1, xs, by omega, rfl, by first | rfl | go_num, ST.out, O1.out, C1.out, G1⟩
    case round =>
      clear ST O1 C1 G1 Wk ne1
      obtain ⟨i, j, cs, hjn, rfl, rfl, D, own, C, G⟩ := hrel
      have le := D.le
      have cl := D.len.trans HN.out
      by_cases hlt : j < n
      · have hi : (j : Int) < (n : Int) := by omega
        have hii : (i : Int) < (n : Int) := by omega
        have Wj : IntKind.i64.wrap ((j : Int) + 1) = (j : Int) + 1 := IntWalk.i64_in _ (by omega)
        have Wi : IntKind.i64.wrap ((i : Int) + 1) = (i : Int) + 1 := IntWalk.i64_in _ (by omega)
        have cj := own.cellN cl (k := j) hlt
        rw [D.rest j (Nat.le_refl _)] at cj
        have xb := HX.out j (by have := HN.out; omega)
        obtain ⟨x, hx⟩ : ∃ x, x = xs.getD j 0 := ⟨_, rfl⟩
        rw [← hx] at cj xb
        have C0 := fclo_c r v L M l x wr C ha hb xb.1 xb.2
        have OW := Lib.hid own
        have CW := Lib.hid C
        have DW := Lib.hid D
        have CLn := Lib.hid cl
        have HXX := Lib.hid hx
        clear own C D cl hx
        cases hp : suitP L M l x
        · rw [hp] at C0
          have C2 := Lib.hid C0
          clear C0
          go_wp2_with (go_at_call 76; refine C2.out.mono ?_; rintro e w2 ⟨rfl, hb2⟩; have ci := (OW.out.below hb2).cellN CLn.out (k := i) (by omega); have fi := (OW.out.below hb2).frozenN CLn.out i)
          have st := (OW.out.below hb2).storedN CLn.out i x
          have ST := Lib.hid st
          have Gn := grown_trans (grown_trans G (grown_below (row := some g) hb2)) st.2
          have Cn := Lib.hid ((CW.out.below hb2).kept st.2 hr hv)
          clear st
          go_roundw
          case rel => exact ⟨i + 1, j + 1, _, by omega, by go_num, by go_num, DW.out.keep (by have := HN.out; omega) HXX.out hp, ST.out.1, Cn.out, Gn⟩
          case measure => simp [intOf]; omega
        · rw [hp] at C0
          have C2 := Lib.hid C0
          clear C0
          go_wp2_with (go_at_call 76; refine C2.out.mono ?_; rintro e w2 ⟨rfl, hb2⟩)
          have Gn := grown_trans G (grown_below (row := some g) hb2)
          go_roundw
          case rel => exact ⟨i, j + 1, _, by omega, rfl, by go_num, DW.out.skip (by have := HN.out; omega) (by rw [← HXX.out]; exact hp), OW.out.below hb2, CW.out.below hb2, Gn⟩
          case measure => simp [intOf]; omega
      · obtain rfl : j = n := by omega
        have hi : ¬ (j : Int) < (j : Int) := by omega
        have dn := DelI.done (by rw [HN.out]; exact D : DelI (fun x => suitP L M l x) xs cs i xs.length)
        have hcl : ∀ ty, (Builtin.clear_ #[22] ty #[.slice (some ⟨g, i, none⟩) (j - i) (cap - i)]).run Try.prog wr = .ok (.tuple #[]) (wr.setCells g i (List.replicate (j - i) (.int .i64 0))) :=
          fun ty => Lib.run_clear_slice wr _ _ ty _ Try.underlying22 Try.zeroValue3 rfl rfl g i _ _ (by omega) (fun t ht => by rw [own.cellN cl (by omega)]; rfl) (fun t ht => own.frozenN cl _)
        obtain ⟨cs', a1, a2, a3, a4⟩ := own_clear g base j cap (j - i) i wr cs own cl (by omega)
        have p := a1.pre (k := i) (by omega)
        rw [a3, dn.1] at p
        have PH := Lib.hid p
        have DN := Lib.hid dn.2
        have GH := grown_trans G a4
        have h0 : (0 : Int) ≤ (i : Int) := by omega
        have h1 : (i : Int) ≤ (j : Int) := by omega
        have h2 : i ≤ cap := by omega
        have h3 : (i : Int) ≤ (cap : Int) := by omega
        clear own dn a1 a3 a4 p D
        go_wp2
        go_returns
        exact ⟨by rw [DN.out]; rfl, by rw [DN.out]; exact PH.out, GH⟩
end Go.Proofs.Ytakpoalcfjedlaa
