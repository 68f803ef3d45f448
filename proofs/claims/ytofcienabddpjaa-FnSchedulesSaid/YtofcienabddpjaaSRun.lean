/- Contracts: the day of a tank. -/
import Derived.Test.YtofcienabddpjaaSSpec
import Derived.Test.YtofcienabddpjaaAppK
import Derived.Deep.Light
namespace Go.Proofs.Ytofcienabddpjaa
open Go.RowKit

theorem below_undrew {B : Nat} {w w' : World} (h : Below B w.drew w') : Below B w w' := ⟨h.os, h.tape, h.output, h.size, h.block⟩
/-- The boxes of a day's walk at b: the tank, the result, the day. -/
structure TB (W : World) (b : Nat) (l E M : Int) (v1 v2 v3 : Value) : Prop where
  t0 : W.cell? ⟨b, 0, none⟩ = some (.int .i64 l)
  t1 : W.cell? ⟨b, 1, none⟩ = some (.int .i64 E)
  t2 : W.cell? ⟨b, 2, none⟩ = some (.int .i64 M)
  r0 : W.cell? ⟨b + 1, 0, none⟩ = some (.slice none 0 0)
  r1 : W.cell? ⟨b + 1, 1, none⟩ = some (.slice none 0 0)
  r2 : W.cell? ⟨b + 1, 2, none⟩ = some (.slice none 0 0)
  d0 : W.cell? ⟨b + 1 + 1, 0, none⟩ = some (v1)
  d1 : W.cell? ⟨b + 1 + 1, 1, none⟩ = some (v2)
  d2 : W.cell? ⟨b + 1 + 1, 2, none⟩ = some (v3)
  ft0 : W.frozen? ⟨b, 0, none⟩ = false
  ft1 : W.frozen? ⟨b, 1, none⟩ = false
  ft2 : W.frozen? ⟨b, 2, none⟩ = false
  fr0 : W.frozen? ⟨b + 1, 0, none⟩ = false
  fr1 : W.frozen? ⟨b + 1, 1, none⟩ = false
  fr2 : W.frozen? ⟨b + 1, 2, none⟩ = false
  fd0 : W.frozen? ⟨b + 1 + 1, 0, none⟩ = false
  fd1 : W.frozen? ⟨b + 1 + 1, 1, none⟩ = false
  fd2 : W.frozen? ⟨b + 1 + 1, 2, none⟩ = false
theorem TB.below {W W' : World} {b : Nat} {l E M : Int} {v1 v2 v3 : Value} (h : TB W b l E M v1 v2 v3) (hb : Below (b + 1 + 1 + 1) W W') : TB W' b l E M v1 v2 v3 :=
  ⟨(hb.cell (p := ⟨b, 0, none⟩) (by simp)).trans h.t0, (hb.cell (p := ⟨b, 1, none⟩) (by simp)).trans h.t1, (hb.cell (p := ⟨b, 2, none⟩) (by simp)).trans h.t2, (hb.cell (p := ⟨b + 1, 0, none⟩) (by simp)).trans h.r0, (hb.cell (p := ⟨b + 1, 1, none⟩) (by simp)).trans h.r1, (hb.cell (p := ⟨b + 1, 2, none⟩) (by simp)).trans h.r2, (hb.cell (p := ⟨b + 1 + 1, 0, none⟩) (by simp)).trans h.d0, (hb.cell (p := ⟨b + 1 + 1, 1, none⟩) (by simp)).trans h.d1, (hb.cell (p := ⟨b + 1 + 1, 2, none⟩) (by simp)).trans h.d2, (hb.frozen (p := ⟨b, 0, none⟩) (by simp)).trans h.ft0, (hb.frozen (p := ⟨b, 1, none⟩) (by simp)).trans h.ft1, (hb.frozen (p := ⟨b, 2, none⟩) (by simp)).trans h.ft2, (hb.frozen (p := ⟨b + 1, 0, none⟩) (by simp)).trans h.fr0, (hb.frozen (p := ⟨b + 1, 1, none⟩) (by simp)).trans h.fr1, (hb.frozen (p := ⟨b + 1, 2, none⟩) (by simp)).trans h.fr2, (hb.frozen (p := ⟨b + 1 + 1, 0, none⟩) (by simp)).trans h.fd0, (hb.frozen (p := ⟨b + 1 + 1, 1, none⟩) (by simp)).trans h.fd1, (hb.frozen (p := ⟨b + 1 + 1, 2, none⟩) (by simp)).trans h.fd2⟩
theorem TB.setT {W : World} {b : Nat} {l E M : Int} {v1 v2 v3 : Value} (h : TB W b l E M v1 v2 v3) (l' : Int) : TB (((W.setCell ⟨b, 0, none⟩ (.int .i64 l')).setCell ⟨b, 1, none⟩ (.int .i64 E)).setCell ⟨b, 2, none⟩ (.int .i64 M)) b l' E M v1 v2 v3 := by
  obtain ⟨t0, t1, t2, r0, r1, r2, d0, d1, d2, ft0, ft1, ft2, fr0, fr1, fr2, fd0, fd1, fd2⟩ := h
  exact ⟨by simp [*, go_sem], by simp [*, go_sem], by simp [*, go_sem], by simp [*, go_sem], by simp [*, go_sem], by simp [*, go_sem], by simp [*, go_sem], by simp [*, go_sem], by simp [*, go_sem], by simp [*, go_sem], by simp [*, go_sem], by simp [*, go_sem], by simp [*, go_sem], by simp [*, go_sem], by simp [*, go_sem], by simp [*, go_sem], by simp [*, go_sem], by simp [*, go_sem]⟩
theorem TB.setD0 {W : World} {b : Nat} {l E M : Int} {v1 v2 v3 : Value} (h : TB W b l E M v1 v2 v3) (v : Value) : TB (W.setCell ⟨b + 1 + 1, 0, none⟩ v) b l E M v v2 v3 := by
  obtain ⟨t0, t1, t2, r0, r1, r2, d0, d1, d2, ft0, ft1, ft2, fr0, fr1, fr2, fd0, fd1, fd2⟩ := h
  exact ⟨by simp [*, go_sem], by simp [*, go_sem], by simp [*, go_sem], by simp [*, go_sem], by simp [*, go_sem], by simp [*, go_sem], by simp [*, go_sem], by simp [*, go_sem], by simp [*, go_sem], by simp [*, go_sem], by simp [*, go_sem], by simp [*, go_sem], by simp [*, go_sem], by simp [*, go_sem], by simp [*, go_sem], by simp [*, go_sem], by simp [*, go_sem], by simp [*, go_sem]⟩
theorem TB.setD1 {W : World} {b : Nat} {l E M : Int} {v1 v2 v3 : Value} (h : TB W b l E M v1 v2 v3) (v : Value) : TB (W.setCell ⟨b + 1 + 1, 1, none⟩ v) b l E M v1 v v3 := by
  obtain ⟨t0, t1, t2, r0, r1, r2, d0, d1, d2, ft0, ft1, ft2, fr0, fr1, fr2, fd0, fd1, fd2⟩ := h
  exact ⟨by simp [*, go_sem], by simp [*, go_sem], by simp [*, go_sem], by simp [*, go_sem], by simp [*, go_sem], by simp [*, go_sem], by simp [*, go_sem], by simp [*, go_sem], by simp [*, go_sem], by simp [*, go_sem], by simp [*, go_sem], by simp [*, go_sem], by simp [*, go_sem], by simp [*, go_sem], by simp [*, go_sem], by simp [*, go_sem], by simp [*, go_sem], by simp [*, go_sem]⟩
theorem TB.setD2 {W : World} {b : Nat} {l E M : Int} {v1 v2 v3 : Value} (h : TB W b l E M v1 v2 v3) (v : Value) : TB (W.setCell ⟨b + 1 + 1, 2, none⟩ v) b l E M v1 v2 v := by
  obtain ⟨t0, t1, t2, r0, r1, r2, d0, d1, d2, ft0, ft1, ft2, fr0, fr1, fr2, fd0, fd1, fd2⟩ := h
  exact ⟨by simp [*, go_sem], by simp [*, go_sem], by simp [*, go_sem], by simp [*, go_sem], by simp [*, go_sem], by simp [*, go_sem], by simp [*, go_sem], by simp [*, go_sem], by simp [*, go_sem], by simp [*, go_sem], by simp [*, go_sem], by simp [*, go_sem], by simp [*, go_sem], by simp [*, go_sem], by simp [*, go_sem], by simp [*, go_sem], by simp [*, go_sem], by simp [*, go_sem]⟩
set_option maxHeartbeats 2000000 in
theorem runTank_c {B' B3 : Nat} (L E M P : Int) (A' C : Option Addr) (c' d : Nat) (xs ys zs : List Int) (w : World) (h' : RdI w B' A' ys) (h3 : RdI w B3 C zs) (hS2 : B' ≤ w.heap.size) (hS3 : B3 ≤ w.heap.size) (g : goodPm L E M P xs ys = true) (hl : zs.length = ys.length) (hv : volsB P zs = true) :
    Calls Try.prog 61 #[.agg #[.int .i64 L, .int .i64 E, .int .i64 M], .slice C zs.length d, .slice A' ys.length c'] w fun e w' => ∃ (A1 A2 A3 : Option Addr) (c1 c2 c3 : Nat), e = .returned (.agg #[.slice A1 zs.length c1, .slice A2 zs.length c2, .slice A3 zs.length c3]) ∧
      Own3 w' (w.heap.size + 1 + 1 + 1) (.slice A1 zs.length c1) (mapK (fun k => levT E M L zs ys (k + 1)) zs.length) (.slice A2 zs.length c2) (mapK (spK E M L zs ys) zs.length) (.slice A3 zs.length c3) (mapK (msK E M L zs ys) zs.length) ∧ Below w.heap.size w w' := by
  have hz12 : zs.length ≤ 12 := by have := goodPm_out g; omega
  have H2 := Lib.hid h'
  have H3 := Lib.hid h3
  have G := Lib.hid g
  have HV := Lib.hid (volsB_out hv)
  have HL := Lib.hid hl
  clear h' h3 g hv hl
  go_enter Try.func61, Try.ntmps61
  go_wp2
  have T0 : TB (((w.alloc (.cells #[.int .i64 L, .int .i64 E, .int .i64 M] 25)).alloc (.cells #[.slice none 0 0, .slice none 0 0, .slice none 0 0] 80)).alloc (.cells #[.slice none 0 0, .slice none 0 0, .slice none 0 0] 80)) w.heap.size L E M (.slice none 0 0) (.slice none 0 0) (.slice none 0 0) := ⟨by simp [go_sem], by simp [go_sem], by simp [go_sem], by simp [go_sem], by simp [go_sem], by simp [go_sem], by simp [go_sem], by simp [go_sem], by simp [go_sem], by simp [go_sem], by simp [go_sem], by simp [go_sem], by simp [go_sem], by simp [go_sem], by simp [go_sem], by simp [go_sem], by simp [go_sem], by simp [go_sem]⟩
  go_loopw [8, 9, 10, 11, 12, 16] (fun _ _ _ _ _ i wr => ∃ (k : Nat) (v1 v2 v3 : Value), k ≤ zs.length ∧ i = .int .i64 k ∧ Own3 wr (w.heap.size + 1 + 1 + 1) v1 (mapK (fun k => levT E M L zs ys (k + 1)) k) v2 (mapK (spK E M L zs ys) k) v3 (mapK (msK E M L zs ys) k) ∧ Below w.heap.size w wr ∧ (w.heap.size + 1 + 1 + 1) ≤ wr.heap.size ∧ TB wr w.heap.size (levT E M L zs ys k) E M v1 v2 v3) (fun _ _ _ _ _ i _ => zs.length - (intOf i).toNat)
  case atStart => exact ⟨0, _, _, _, by omega, rfl, ⟨OwnI.nil _ _, OwnI.nil _ _, OwnI.nil _ _, fun g h => by (simp [Value.ownBlock] at h), fun g h => by (simp [Value.ownBlock] at h), fun g h => by (simp [Value.ownBlock] at h)⟩, by (repeat' (first | (with_reducible exact Below.refl _ _) | (with_reducible assumption) | (with_reducible refine below_drewN ?_ _) | (with_reducible refine Below.alloc ?_ ?_ _) | (with_reducible refine Below.drew ?_) | (with_reducible refine Below.setCell ?_ ?_ _) | go_size)), by simp, T0⟩
  case round =>
    clear T0
    obtain ⟨k, v1, v2, v3, hk, rfl, O3, hBr, hsz, TBX⟩ := hrel
    by_cases hlt : k < zs.length
    · have hky : k < ys.length := by have := HL.out; omega
      have P3 := H3.out.below (hBr.mono hS3)
      have P2 := H2.out.below (hBr.mono hS2)
      obtain ⟨b3, o3, z, rfl, hz, hb3, hcz⟩ := P3.at_ hlt
      obtain ⟨b2, o2, u, rfl, hu, hb2, hcu⟩ := P2.at_ hky
      have hn2 : ¬ b2 = wr.heap.size := by omega
      have hn3 : ¬ wr.heap.size = b2 := by omega
      have hi : (k : Int) < (zs.length : Int) := by omega
      have hi2 : (k : Int) < (ys.length : Int) := by omega
      have W1 : IntKind.i64.wrap ((k : Int) + 1) = (k : Int) + 1 := IntWalk.i64_in _ (by omega)
      have hh := hour_of G.out (k := k) (zs := zs) (by have := HV.out k hlt; exact inB_mk this.1 this.2) hky
      have hn : levT E M L zs ys (k + 1) = nxT E M (levT E M L zs ys k) (zs.getD k 0) (ys.getD k 0) := rfl
      have hs : spK E M L zs ys k = spT M (levT E M L zs ys k) (zs.getD k 0) := rfl
      have hm : msK E M L zs ys k = msT E M (levT E M L zs ys k) (zs.getD k 0) (ys.getD k 0) := rfl
      rw [← hz, ← hu] at hh hn hm
      rw [← hz] at hs
      have step := fun s => stepTank_c E M (levT E M L zs ys k) z u s hh
      rw [← hn, ← hs, ← hm] at step
      have STEP := Lib.hid step
      clear hn hs hm hh step hz hu P2 P3 hb3 hb2
      obtain ⟨t0, t1, t2, r0, r1, r2, d0, d1, d2, ft0, ft1, ft2, fr0, fr1, fr2, fd0, fd1, fd2⟩ := id TBX
      go_upto_region 5 with (fail)
      go_cut [10, 11, 12] (fun p s m wx => ∃ H : Nat, p = .pointer (some ⟨H, 0, none⟩) ∧ s = .int .i64 (spK E M L zs ys k) ∧ m = .int .i64 (msK E M L zs ys k) ∧ (wx.cell? ⟨H, 0, none⟩ = some (.int .i64 (levT E M L zs ys (k + 1))) ∧ wx.cell? ⟨H, 1, none⟩ = some (.int .i64 E) ∧ wx.cell? ⟨H, 2, none⟩ = some (.int .i64 M)) ∧ Below wr.heap.size wr wx)
      case first =>
        go_region_held3 (fun w' => w'.cell? ⟨w.heap.size, 0, none⟩ = some (.int .i64 (levT E M L zs ys k)) ∧ w'.cell? ⟨w.heap.size, 1, none⟩ = some (.int .i64 E) ∧ w'.cell? ⟨w.heap.size, 2, none⟩ = some (.int .i64 M) ∧ w'.cell? ⟨b2, o2 + k, none⟩ = some (.int .i64 u)) (simp (maxDischargeDepth := 3) [*, go_sem]) (first | (go_at_call 54; refine (STEP.out _).mono ?_; rintro e w1 ⟨rfl, hb1⟩; have hz1 := hb1.size; (repeat (first | rw [World.size_alloc] at hz1 | rw [World.size_drew] at hz1 | rw [World.heap_drewN] at hz1 | rw [World.size_setCell] at hz1)); have hB : Below w.heap.size w w1 := Below.trans (by (repeat' (first | (with_reducible exact Below.refl _ _) | (with_reducible assumption) | (with_reducible refine below_drewN ?_ _) | (with_reducible refine Below.alloc ?_ ?_ _) | (with_reducible refine Below.drew ?_) | (with_reducible refine Below.setCell ?_ ?_ _) | go_size))) (hb1.mono (by go_size)); have hL1 := hb1; clear hb1; obtain ⟨hc1, hf1⟩ := bcell hL1))
        all_goals
          first | (have b1 : Below wr.heap.size wr w1 := below_undrew hL1) | (have b1 : Below wr.heap.size wr w1 := ((Below.refl wr.heap.size wr).alloc (Nat.le_refl _) _).trans ((below_undrew hL1).mono (by simp)))
          have z1 := b1.size
          go_wp2_with fail
          go_meet
          exact ⟨_, rfl, rfl, rfl, ⟨by simp [*, go_sem], by simp [*, go_sem], by simp [*, go_sem]⟩, by (repeat' (first | (with_reducible exact Below.refl _ _) | (with_reducible assumption) | (with_reducible refine below_drewN ?_ _) | (with_reducible refine Below.alloc ?_ ?_ _) | (with_reducible refine Below.drew ?_) | (with_reducible refine Below.setCell ?_ ?_ _) | go_size))⟩
      case rest =>
        clear t0 t1 t2 r0 r1 r2 d0 d1 d2 ft0 ft1 ft2 fr0 fr1 fr2 fd0 fd1 fd2
        clear hcz hcu STEP
        obtain ⟨H, rfl, rfl, rfl, ⟨n0, n1, n2⟩, bc⟩ := hcut
        have Tc := TBX.below (bc.mono hsz)
        have Oc := O3.below bc
        have Bc := hBr.trans (bc.mono hBr.size)
        have zc : (w.heap.size + 1 + 1 + 1) ≤ wc.heap.size := Nat.le_trans hsz bc.size
        clear TBX O3 hBr hsz bc
        obtain ⟨t0, t1, t2, r0, r1, r2, d0, d1, d2, ft0, ft1, ft2, fr0, fr1, fr2, fd0, fd1, fd2⟩ := id Tc
        go_upto_region 7 with (fail)
        clear t0 t1 t2 r0 r1 r2 d0 d1 d2 ft0 ft1 ft2 fr0 fr1 fr2 fd0 fd1 fd2
        clear n0 n1 n2
        obtain ⟨x1, hx1⟩ : ∃ x, x = ((wc.setCell ⟨w.heap.size, 0, none⟩ (.int .i64 (levT E M L zs ys (k + 1)))).setCell ⟨w.heap.size, 1, none⟩ (.int .i64 E)).setCell ⟨w.heap.size, 2, none⟩ (.int .i64 M) := ⟨_, rfl⟩
        rw [← hx1]
        have Tx1 := Tc.setT (levT E M L zs ys (k + 1))
        have Ox1 := ((Oc.set (a := ⟨w.heap.size, 0, none⟩) (by simp) (.int .i64 (levT E M L zs ys (k + 1)))).set (a := ⟨w.heap.size, 1, none⟩) (by simp) (.int .i64 E)).set (a := ⟨w.heap.size, 2, none⟩) (by simp) (.int .i64 M)
        have Bx1 : Below w.heap.size w x1 := by rw [hx1]; (repeat' (first | (with_reducible exact Below.refl _ _) | (with_reducible assumption) | (with_reducible refine below_drewN ?_ _) | (with_reducible refine Below.alloc ?_ ?_ _) | (with_reducible refine Below.drew ?_) | (with_reducible refine Below.setCell ?_ ?_ _) | go_size))
        have zx1 : (w.heap.size + 1 + 1 + 1) ≤ x1.heap.size := by rw [hx1]; simp only [World.size_setCell]; exact zc
        rw [← hx1] at Tx1 Ox1
        clear hx1 Tc Oc Bc zc
        obtain ⟨t0, t1, t2, r0, r1, r2, d0, d1, d2, ft0, ft1, ft2, fr0, fr1, fr2, fd0, fd1, fd2⟩ := id Tx1
        go_upto_region 8 with (at_builtin; refine wpList_appK (wr := x1) rfl (.tmp 34) (.tmp 37) rfl (w.heap.size + 1 + 1 + 1) v1 _ _ _ rfl Ox1.o1 rfl rfl (by rw [mapK_len]; omega) zx1 ?_; intro nv1 w2 q g l; obtain ⟨Aq1, cq1, eq⟩ := q.shape; simp only [List.length_append, mapK_len, List.length_cons, List.length_nil, Nat.zero_add] at eq; subst eq; have bb := below_row Ox1.o1 g zx1; have Tw2 := Tx1.below bb; have Ow2 := ((Ox1).app1 q g l (by omega)); have Bw2 := Bx1.trans (bb.mono (by omega)); have zw2 : (w.heap.size + 1 + 1 + 1) ≤ w2.heap.size := Nat.le_trans zx1 bb.size; clear t0 t1 t2 r0 r1 r2 d0 d1 d2 ft0 ft1 ft2 fr0 fr1 fr2 fd0 fd1 fd2; clear q g l bb Tx1 Ox1 Bx1 zx1; obtain ⟨t0, t1, t2, r0, r1, r2, d0, d1, d2, ft0, ft1, ft2, fr0, fr1, fr2, fd0, fd1, fd2⟩ := id Tw2)
        clear t0 t1 t2 r0 r1 r2 d0 d1 d2 ft0 ft1 ft2 fr0 fr1 fr2 fd0 fd1 fd2
        obtain ⟨x2, hx2⟩ : ∃ x, x = w2.setCell ⟨w.heap.size + 1 + 1, 0, none⟩ (.slice Aq1 (k + 1) cq1) := ⟨_, rfl⟩
        rw [← hx2]
        have Tx2 := Tw2.setD0 (.slice Aq1 (k + 1) cq1)
        have Ox2 := Ow2.set (a := ⟨w.heap.size + 1 + 1, 0, none⟩) (by simp) (.slice Aq1 (k + 1) cq1)
        have Bx2 : Below w.heap.size w (w2.setCell ⟨w.heap.size + 1 + 1, 0, none⟩ (.slice Aq1 (k + 1) cq1)) := Below.setCell Bw2 (by show w.heap.size ≤ w.heap.size + 1 + 1; omega) _
        have zx2 : (w.heap.size + 1 + 1 + 1) ≤ (w2.setCell ⟨w.heap.size + 1 + 1, 0, none⟩ (.slice Aq1 (k + 1) cq1)).heap.size := by rw [World.size_setCell]; exact zw2
        rw [← hx2] at Tx2 Ox2 Bx2 zx2
        clear hx2 Tw2 Ow2 Bw2 zw2
        obtain ⟨t0, t1, t2, r0, r1, r2, d0, d1, d2, ft0, ft1, ft2, fr0, fr1, fr2, fd0, fd1, fd2⟩ := id Tx2
        go_upto_region 9 with (at_builtin; refine wpList_appK (wr := x2) rfl (.tmp 41) (.tmp 43) rfl (w.heap.size + 1 + 1 + 1) v2 _ _ _ rfl Ox2.o2 rfl rfl (by rw [mapK_len]; omega) zx2 ?_; intro nv2 w3 q g l; obtain ⟨Aq2, cq2, eq⟩ := q.shape; simp only [List.length_append, mapK_len, List.length_cons, List.length_nil, Nat.zero_add] at eq; subst eq; have bb := below_row Ox2.o2 g zx2; have Tw3 := Tx2.below bb; have Ow3 := ((Ox2.turn).app1 q g l (by omega)).turn.turn; have Bw3 := Bx2.trans (bb.mono (by omega)); have zw3 : (w.heap.size + 1 + 1 + 1) ≤ w3.heap.size := Nat.le_trans zx2 bb.size; clear t0 t1 t2 r0 r1 r2 d0 d1 d2 ft0 ft1 ft2 fr0 fr1 fr2 fd0 fd1 fd2; clear q g l bb Tx2 Ox2 Bx2 zx2; obtain ⟨t0, t1, t2, r0, r1, r2, d0, d1, d2, ft0, ft1, ft2, fr0, fr1, fr2, fd0, fd1, fd2⟩ := id Tw3)
        clear t0 t1 t2 r0 r1 r2 d0 d1 d2 ft0 ft1 ft2 fr0 fr1 fr2 fd0 fd1 fd2
        obtain ⟨x3, hx3⟩ : ∃ x, x = w3.setCell ⟨w.heap.size + 1 + 1, 1, none⟩ (.slice Aq2 (k + 1) cq2) := ⟨_, rfl⟩
        rw [← hx3]
        have Tx3 := Tw3.setD1 (.slice Aq2 (k + 1) cq2)
        have Ox3 := Ow3.set (a := ⟨w.heap.size + 1 + 1, 1, none⟩) (by simp) (.slice Aq2 (k + 1) cq2)
        have Bx3 : Below w.heap.size w (w3.setCell ⟨w.heap.size + 1 + 1, 1, none⟩ (.slice Aq2 (k + 1) cq2)) := Below.setCell Bw3 (by show w.heap.size ≤ w.heap.size + 1 + 1; omega) _
        have zx3 : (w.heap.size + 1 + 1 + 1) ≤ (w3.setCell ⟨w.heap.size + 1 + 1, 1, none⟩ (.slice Aq2 (k + 1) cq2)).heap.size := by rw [World.size_setCell]; exact zw3
        rw [← hx3] at Tx3 Ox3 Bx3 zx3
        clear hx3 Tw3 Ow3 Bw3 zw3
        obtain ⟨t0, t1, t2, r0, r1, r2, d0, d1, d2, ft0, ft1, ft2, fr0, fr1, fr2, fd0, fd1, fd2⟩ := id Tx3
        go_upto_region 10 with (at_builtin; refine wpList_appK (wr := x3) rfl (.tmp 47) (.tmp 49) rfl (w.heap.size + 1 + 1 + 1) v3 _ _ _ rfl Ox3.o3 rfl rfl (by rw [mapK_len]; omega) zx3 ?_; intro nv3 w4 q g l; obtain ⟨Aq3, cq3, eq⟩ := q.shape; simp only [List.length_append, mapK_len, List.length_cons, List.length_nil, Nat.zero_add] at eq; subst eq; have bb := below_row Ox3.o3 g zx3; have Tw4 := Tx3.below bb; have Ow4 := ((Ox3.turn.turn).app1 q g l (by omega)).turn; have Bw4 := Bx3.trans (bb.mono (by omega)); have zw4 : (w.heap.size + 1 + 1 + 1) ≤ w4.heap.size := Nat.le_trans zx3 bb.size; clear t0 t1 t2 r0 r1 r2 d0 d1 d2 ft0 ft1 ft2 fr0 fr1 fr2 fd0 fd1 fd2; clear q g l bb Tx3 Ox3 Bx3 zx3; obtain ⟨t0, t1, t2, r0, r1, r2, d0, d1, d2, ft0, ft1, ft2, fr0, fr1, fr2, fd0, fd1, fd2⟩ := id Tw4)
        clear t0 t1 t2 r0 r1 r2 d0 d1 d2 ft0 ft1 ft2 fr0 fr1 fr2 fd0 fd1 fd2
        obtain ⟨x4, hx4⟩ : ∃ x, x = w4.setCell ⟨w.heap.size + 1 + 1, 2, none⟩ (.slice Aq3 (k + 1) cq3) := ⟨_, rfl⟩
        rw [← hx4]
        have Tx4 := Tw4.setD2 (.slice Aq3 (k + 1) cq3)
        have Ox4 := Ow4.set (a := ⟨w.heap.size + 1 + 1, 2, none⟩) (by simp) (.slice Aq3 (k + 1) cq3)
        have Bx4 : Below w.heap.size w (w4.setCell ⟨w.heap.size + 1 + 1, 2, none⟩ (.slice Aq3 (k + 1) cq3)) := Below.setCell Bw4 (by show w.heap.size ≤ w.heap.size + 1 + 1; omega) _
        have zx4 : (w.heap.size + 1 + 1 + 1) ≤ (w4.setCell ⟨w.heap.size + 1 + 1, 2, none⟩ (.slice Aq3 (k + 1) cq3)).heap.size := by rw [World.size_setCell]; exact zw4
        rw [← hx4] at Tx4 Ox4 Bx4 zx4
        clear hx4 Tw4 Ow4 Bw4 zw4
        go_wp2
        go_roundw
        case rel => exact ⟨k + 1, _, _, _, by omega, by go_num, Ox4, Bx4, zx4, Tx4⟩
        case measure => simp [intOf]; omega
    · obtain rfl : k = zs.length := by omega
      obtain ⟨A1, c1, e1⟩ := O3.o1.shape
      obtain ⟨A2, c2, e2⟩ := O3.o2.shape
      obtain ⟨A3, c3, e3⟩ := O3.o3.shape
      rw [mapK_len] at e1 e2 e3
      subst e1 e2 e3
      obtain ⟨t0, t1, t2, r0, r1, r2, d0, d1, d2, ft0, ft1, ft2, fr0, fr1, fr2, fd0, fd1, fd2⟩ := id TBX
      go_wp2
      go_light
      refine bodyPost_ret (v := .agg #[.slice A1 zs.length c1, .slice A2 zs.length c2, .slice A3 zs.length c3]) (by simp (maxDischargeDepth := 4) [results, Try.results61, go_sem, *]) rfl ?_
      exact ⟨A1, A2, A3, c1, c2, c3, rfl, ((O3.set (by simp) _).set (by simp) _).set (by simp) _, by (repeat' (first | (with_reducible exact Below.refl _ _) | (with_reducible assumption) | (with_reducible refine below_drewN ?_ _) | (with_reducible refine Below.alloc ?_ ?_ _) | (with_reducible refine Below.drew ?_) | (with_reducible refine Below.setCell ?_ ?_ _) | go_size))⟩
end Go.Proofs.Ytofcienabddpjaa
