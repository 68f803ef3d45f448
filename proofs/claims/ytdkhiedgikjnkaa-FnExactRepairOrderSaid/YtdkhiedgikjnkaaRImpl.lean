/- Contracts: the order of repairs, the program. -/
import Derived.Test.YtdkhiedgikjnkaaRSort
namespace Go.Proofs.Ytdkhiedgikjnkaa
open Go.RowKit

set_option maxHeartbeats 1000000 in
theorem implOrder_c {B B' : Nat} (A A' : Option Addr) (c c' : Nat) (ls hs : List Int) (w : World) (h : RdI w B A ls) (h' : RdI w B' A' hs) (hS1 : B ≤ w.heap.size) (hS2 : B' ≤ w.heap.size) (hm : ls.length ≤ 4611686018427387904) :
    Calls Try.prog 37 #[.slice A ls.length c, .slice A' hs.length c'] w (RetI w (repO ls hs).1 (fun v => .tuple #[v, .bool (repO ls hs).2])) := by
  have rep := fun s (q1 : RdI s s.heap.size A ls) (q2 : RdI s s.heap.size A' hs) => areRepairs_c A A' c c' ls hs s q1 q2 hm
  have R1 := h.more hS1
  have R2 := h'.more hS2
  clear h h' hS1 hS2
  cases g : repG ls hs
  · simp only [g] at rep
    rw [repO_no g]
    have REP := Lib.hid rep
    clear rep g
    go_enter Try.func37, Try.ntmps37
    go_wp2_with (go_at_call 51; refine (REP.out _ (((R1.alloc (Nat.le_refl _) _).alloc (by simp) _).more (by simp; omega)) (((R2.alloc (Nat.le_refl _) _).alloc (by simp) _).more (by simp; omega))).mono ?_; rintro e w' ⟨rfl, rfl⟩)
    go_returns
    exact ⟨_, _, rfl, OwnI.nil _ _, by (repeat' (first | (with_reducible exact Below.refl _ _) | (with_reducible assumption) | (with_reducible refine below_drewN ?_ _) | (with_reducible refine Below.alloc ?_ ?_ _) | (with_reducible refine Below.drew ?_) | (with_reducible refine Below.setCell ?_ ?_ _) | go_size))⟩
  · simp only [g] at rep
    rw [repO_yes g]
    have REP := Lib.hid rep
    have HG := Lib.hid g
    have n10 := (repG_out g).1
    clear rep g
    obtain ⟨V, hV⟩ : ∃ V, V = ((w.alloc (.cells #[.slice A ls.length c] 22)).alloc (.cells #[.slice A' hs.length c'] 22)) := ⟨_, rfl⟩
    have B0 : Below w.heap.size w V := by rw [hV]; (repeat' (first | (with_reducible exact Below.refl _ _) | (with_reducible assumption) | (with_reducible refine below_drewN ?_ _) | (with_reducible refine Below.alloc ?_ ?_ _) | (with_reducible refine Below.drew ?_) | (with_reducible refine Below.setCell ?_ ?_ _) | go_size))
    have Z0 : V.heap.size = w.heap.size + 1 + 1 := by rw [hV]; simp
    have K0 : RepB V w.heap.size (w.heap.size + 1) (w.heap.size + 1 + 1) A A' c c' ls hs := ⟨by rw [hV]; simp [go_sem], by rw [hV]; simp [go_sem], (R1.below B0).more (by omega), (R2.below B0).more (by omega), by omega, by omega⟩
    have q1 : RdI V V.heap.size A ls := (R1.below B0).more B0.size
    have q2 : RdI V V.heap.size A' hs := (R2.below B0).more B0.size
    have HV := Lib.hid hV
    have p2 := K0.p2
    have p3 := K0.p3
    clear hV
    go_enter Try.func37, Try.ntmps37
    go_upto_region 1 with (fail)
    rw [← HV.out]
    go_wp2_with (go_at_call 51; refine (REP.out _ q1 q2).mono ?_; rintro e w' ⟨rfl, rfl⟩)
    have bb := (Below.refl V.heap.size V).alloc (Nat.le_refl _) (.cells #[] 3)
    have K1 := K0.far (bb.mono (by omega))
    have B1 := B0.trans (bb.mono B0.size)
    have O1 : OwnI (V.alloc (.cells #[] 3)) (w.heap.size + 1 + 1) (.slice (some ⟨w.heap.size + 1 + 1, 0, none⟩) 0 0) [] := by
      have := own_empty V (w.heap.size + 1 + 1) (by omega)
      rw [Z0] at this
      exact this
    have Z1 : w.heap.size + 1 + 1 ≤ (V.alloc (.cells #[] 3)).heap.size := by rw [World.size_alloc]; omega
    have AT := Lib.hid (And.intro O1 (And.intro K1 (And.intro B1 Z1)))
    clear B0 Z0 K0 q1 q2 HV p2 p3 bb K1 B1 O1 Z1 R1 R2 REP
    go_loopw [6, 7, 15] (fun o _ iv wr => ∃ (k gb cap : Nat), k ≤ ls.length ∧ iv = .int .i64 k ∧ o = .slice (some ⟨gb, 0, none⟩) k cap ∧ OwnI wr (w.heap.size + 1 + 1) (.slice (some ⟨gb, 0, none⟩) k cap) (rowR (ordR ls hs 0) k) ∧ RepB wr w.heap.size (w.heap.size + 1) (w.heap.size + 1 + 1) A A' c c' ls hs ∧ Below w.heap.size w wr ∧ w.heap.size + 1 + 1 ≤ wr.heap.size) (fun _ _ iv _ => ls.length - (intOf iv).toNat)
    case atStart => exact ⟨0, _, _, by omega, rfl, rfl, AT.out.1, AT.out.2.1, AT.out.2.2.1, AT.out.2.2.2⟩
    case round =>
      clear AT
      obtain ⟨k, gb, cap, hk, rfl, rfl, own, KX, BX, ZX⟩ := hrel
      by_cases hlt : k < ls.length
      · have hi : (k : Int) < (ls.length : Int) := by omega
        have W1 : IntKind.i64.wrap ((k : Int) + 1) = (k : Int) + 1 := IntWalk.i64_in _ (by omega)
        have OW := Lib.hid own
        clear own
        go_wp2_with (at_builtin; refine wpList_appI rfl (.tmp 18) (.tmp 20) rfl (w.heap.size + 1 + 1) _ _ _ rfl OW.out rfl (by rw [rowR_len]; omega) ZX ?_; intro v2 w2 o2 hb2; have z2 := hb2.size; have KX2 := Lib.hid (KX.far hb2); have BX2 := Lib.hid (BX.trans (hb2.mono (Nat.le_succ_of_le (Nat.le_succ _)))); have O2 := Lib.hid o2; clear KX BX OW o2 hb2)
        have o2 := O2.out
        obtain ⟨g2, cap2, hv2, _, _⟩ := o2.head (by simp)
        rw [List.length_append, rowR_len] at hv2
        simp only [List.length_cons, List.length_nil, Nat.zero_add] at hv2
        subst hv2
        clear o2
        go_roundw
        case rel => exact ⟨k + 1, g2, cap2, by omega, by go_num, rfl, by rw [rowR_succ]; exact O2.out, KX2.out, BX2.out, by omega⟩
        case measure => simp [intOf]; omega
      · obtain rfl : k = ls.length := by omega
        have srt := sortStable_c gb (w.heap.size + 1 + 1) ls.length cap wr KX HG.out rfl (Nat.le_refl _) own
        have hgb := own.lt gb rfl
        have hi : ¬ (ls.length : Int) < (ls.length : Int) := by omega
        have SRT := Lib.hid srt
        clear srt own KX hlt
        go_wp2_with fail
        go_at_call 63
        refine SRT.out.mono ?_
        rintro e w2 ⟨rfl, o2, g2⟩
        have BX2 := BX.trans (below_of_grown g2 (Nat.le_trans (Nat.le_succ_of_le (Nat.le_succ _)) hgb.1) hgb.2)
        have O2 := Lib.hid o2
        clear o2 g2 SRT
        go_wp2
        go_returns
        exact ⟨some ⟨gb, 0, none⟩, cap, by rw [rowR_len]; rfl, by rw [rowR_len]; exact O2.out.weak (by omega), BX2⟩
end Go.Proofs.Ytdkhiedgikjnkaa
