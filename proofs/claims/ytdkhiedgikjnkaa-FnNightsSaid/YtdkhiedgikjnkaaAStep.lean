/- The step test: contracts. -/
import Derived.Test.YtdkhiedgikjnkaaAWalk
namespace Go.Proofs.Ytdkhiedgikjnkaa
open Go.RowKit

def stK (xs : List Int) : Nat → Int × Int
  | 0 => (0, 0)
  | k + 1 => if 0 < k ∧ (stK xs k).2 < xs.getD (k - 1) 0 - xs.getD k 0 then ((k : Int) - 1, xs.getD (k - 1) 0 - xs.getD k 0) else stK xs k
theorem stK_yes {xs : List Int} {k : Nat} (h0 : 0 < k) (h : (stK xs k).2 < xs.getD (k - 1) 0 - xs.getD k 0) : stK xs (k + 1) = ((k : Int) - 1, xs.getD (k - 1) 0 - xs.getD k 0) := by
  unfold stK; rw [if_pos ⟨h0, h⟩]
theorem stK_no {xs : List Int} {k : Nat} (h : ¬ (stK xs k).2 < xs.getD (k - 1) 0 - xs.getD k 0) : stK xs (k + 1) = stK xs k := by
  rw [stK]; rw [if_neg (fun x => h x.2)]
theorem stK_yes2 {xs : List Int} {j : Nat} {x x' : Int} (hx' : x' = xs.getD j 0) (hx : x = xs.getD (j + 1) 0) (h : (stK xs (j + 1)).2 < x' - x) : stK xs (j + 1 + 1) = ((j : Int), x' - x) := by
  subst hx hx'
  rw [stK_yes (by omega) (by simpa using h)]; simp
theorem stK_no2 {xs : List Int} {j : Nat} {x x' : Int} (hx' : x' = xs.getD j 0) (hx : x = xs.getD (j + 1) 0) (h : ¬ (stK xs (j + 1)).2 < x' - x) : stK xs (j + 1 + 1) = stK xs (j + 1) := by
  subst hx hx'
  exact stK_no (by simpa using h)
theorem stK_one (xs : List Int) : stK xs 1 = (0, 0) := by simp [stK]
theorem stK_nonneg (xs : List Int) : ∀ k, 0 ≤ (stK xs k).2
  | 0 => by simp [stK]
  | k + 1 => by
    by_cases h : 0 < k ∧ (stK xs k).2 < xs.getD (k - 1) 0 - xs.getD k 0
    · rw [stK_yes h.1 h.2]
      have := stK_nonneg xs k
      show 0 ≤ xs.getD (k - 1) 0 - xs.getD k 0
      omega
    · have := stK_nonneg xs k
      rw [stK, if_neg h]; exact this
def stepR (xs : List Int) : Int × Int × Bool := if (inB xs.length 2 20 && goodF xs && !decide ((stK xs xs.length).2 = 0)) then ((stK xs xs.length).1, (stK xs xs.length).2, true) else (0, 0, false)
theorem stepR_l {xs : List Int} (h : inB xs.length 2 20 = false) : stepR xs = (0, 0, false) := by simp [stepR, h]
theorem stepR_g {xs : List Int} (h : goodF xs = false) : stepR xs = (0, 0, false) := by simp [stepR, h]
theorem stepR_z {xs : List Int} (h : (stK xs xs.length).2 = 0) : stepR xs = (0, 0, false) := by simp [stepR, h]
theorem stepR_yes {xs : List Int} (h1 : inB xs.length 2 20 = true) (h2 : goodF xs = true) (h : ¬ (stK xs xs.length).2 = 0) : stepR xs = ((stK xs xs.length).1, (stK xs xs.length).2, true) := by simp [stepR, h, h1, h2]

theorem implStep_c {B : Nat} (A : Option Addr) (c : Nat) (xs : List Int) (w : World) (h : RdI w B A xs) (hm : xs.length ≤ 4611686018427387904) :
    Calls Try.prog 14 #[.slice A xs.length c] w fun e w' => e = .returned (.tuple #[.int .i64 (stepR xs).1, .int .i64 (stepR xs).2.1, .bool (stepR xs).2.2]) ∧ ∃ n, w' = w.drewN n := by
  have ha := goodF_any xs
  cases h1 : inB xs.length 2 20
  · rw [stepR_l h1]
    go_enter Try.func14, Try.ntmps14
    go_wp2_with (go_at_call 42; refine (inside_c _ _ _ _).mono ?_; rintro e w' ⟨rfl, rfl⟩)
    go_returns
    exact ⟨rfl, 0, rfl⟩
  have hl := inB_out h1
  cases h2 : goodF xs
  · rw [stepR_g h2]
    have h3 : xs.any badF = true := by rw [h2] at ha; cases hq : xs.any badF <;> simp [hq] at ha ⊢
    clear ha
    go_enter Try.func14, Try.ntmps14
    go_wp2_with (first | (go_at_call 42; refine (inside_c _ _ _ _).mono ?_; rintro e w' ⟨rfl, rfl⟩) | (go_at_call 43; refine (stept_has _ _ _ _ h hm).mono ?_; rintro e w' ⟨rfl, rfl⟩))
    go_returns
    exact ⟨rfl, 0, rfl⟩
  have H1 := h1
  have H2 := h2
  have h3 : xs.any badF = false := by rw [h2] at ha; cases hq : xs.any badF <;> simp [hq] at ha ⊢
  have hg := goodF_out h2
  clear ha
  go_enter Try.func14, Try.ntmps14
  go_wp2_with (first | (go_at_call 42; refine (inside_c _ _ _ _).mono ?_; rintro e w' ⟨rfl, rfl⟩) | (go_at_call 43; refine (stept_has _ _ _ _ h hm).mono ?_; rintro e w' ⟨rfl, rfl⟩))
  clear h1 h2
  go_loopw [5, 6, 7, 8] (fun b m i _ wr => ∃ (j : Nat) (p : Int × Int), j + 1 ≤ xs.length ∧ i = .int .i64 ((j : Int) + 1) ∧ b = .int .i64 p.1 ∧ m = .int .i64 p.2 ∧ p = stK xs (j + 1) ∧ ∃ n, wr = w.drewN n) (fun _ _ i _ _ => xs.length + 1 - (intOf i).toNat)
  case atStart => exact ⟨0, (0, 0), by omega, rfl, rfl, rfl, (stK_one xs).symm, 0, rfl⟩
  case round =>
    obtain ⟨j, p, hk, rfl, rfl, rfl, hp, n, rfl⟩ := hrel
    by_cases hlt : j + 1 < xs.length
    · obtain ⟨b, off, x, rfl, hx, hb, hc⟩ := h.at_ hlt
      obtain ⟨b', off', x', hA', hx', hb', hc'⟩ := h.at_ (k := j) (by omega)
      simp only [Option.some.injEq, Addr.mk.injEq, and_true] at hA'
      obtain ⟨rfl, rfl⟩ := hA'
      have gx := hg (j + 1) hlt
      have gx' := hg j (by omega)
      rw [← hx] at gx
      rw [← hx'] at gx'
      have wr1 : IntKind.i64.wrap (x' - x) = x' - x := IntWalk.i64_in _ (by omega)
      by_cases hq : p.2 < x' - x
      · have hs : stK xs (j + 1 + 1) = ((j : Int), x' - x) := stK_yes2 hx' hx (by rw [← hp]; exact hq)
        have HS := Lib.hid hs
        clear hs hp hx hx' h hg
        go_wp2
        go_quiet (fail)
        go_wp2
        go_roundw
        case rel => exact ⟨j + 1, _, by omega, by go_num, by go_num, rfl, HS.out.symm, _, by first | rfl | exact World.drewN_drewN _ _ _⟩
        case measure => simp [intOf]; omega
      · have hs : stK xs (j + 1 + 1) = p := by rw [stK_no2 hx' hx (by rw [← hp]; exact hq)]; exact hp.symm
        have HS := Lib.hid hs
        clear hs hp hx hx' h hg
        go_wp2
        go_quiet (fail)
        go_wp2
        go_roundw
        case rel => exact ⟨j + 1, p, by omega, by go_num, rfl, rfl, HS.out.symm, _, by first | rfl | exact World.drewN_drewN _ _ _⟩
        case measure => simp [intOf]; omega
    · have hk' : j + 1 = xs.length := by omega
      rw [hk'] at hp
      have hlj : (xs.length : Int) = j + 1 := by omega
      by_cases hz : p.2 = 0
      · have hr := stepR_z (xs := xs) (by rw [← hp]; exact hz)
        have HR := Lib.hid hr
        clear hr hp h hg
        go_wp2
        go_returns
        exact ⟨by rw [HR.out]; rfl, _, rfl⟩
      · have hr := stepR_yes H1 H2 (by rw [← hp]; exact hz)
        rw [← hp] at hr
        have HR := Lib.hid hr
        clear hr hp h hg
        go_wp2
        go_returns
        exact ⟨by rw [HR.out]; rfl, _, rfl⟩
theorem specStep_c {B : Nat} (A : Option Addr) (c : Nat) (xs : List Int) (w : World) (h : RdI w B A xs) (hm : xs.length ≤ 4611686018427387904) :
    Calls Try.prog 12 #[.slice A xs.length c] w fun e w' => e = .returned (.tuple #[.int .i64 (stepR xs).1, .int .i64 (stepR xs).2.1, .bool (stepR xs).2.2]) ∧ ∃ n, w' = w.drewN n := by
  go_enter Try.func12, Try.ntmps12
  go_wp2
  go_loopw [5, 6, 7] (fun b m i wr => ∃ (k : Nat) (p : Int × Int), k ≤ xs.length ∧ i = .int .i64 k ∧ b = .int .i64 p.1 ∧ m = .int .i64 p.2 ∧ p = stK xs k ∧ (∀ q, q < k → okF (xs.getD q 0) = true) ∧ ∃ n, wr = w.drewN n) (fun _ _ i _ => xs.length - (intOf i).toNat)
  case atStart => exact ⟨0, (0, 0), by omega, rfl, rfl, rfl, by simp [stK], fun q hq => absurd hq (by omega), 0, rfl⟩
  case round =>
    obtain ⟨k, p, hk, rfl, rfl, rfl, hp, hok, n, rfl⟩ := hrel
    by_cases hlt : k < xs.length
    · cases k with
      | zero =>
        obtain ⟨b, off, x, rfl, hx, hb, hc⟩ := h.at_ hlt
        rw [Nat.add_zero] at hc
        obtain rfl : p = (0, 0) := hp
        cases hf : okF x
        · have hr := stepR_g (goodF_bad hlt (by rw [← hx]; exact hf))
          have HR := Lib.hid hr
          clear hr hx h hok
          go_wp2_with (go_at_call 40; refine (l17Flow_c _ _).mono ?_; rintro e w' ⟨rfl, rfl⟩)
          go_returns
          exact ⟨by rw [HR.out]; rfl, _, rfl⟩
        · have HX := Lib.hid hx
          clear hx h hok
          go_wp2_with (go_at_call 40; refine (l17Flow_c _ _).mono ?_; rintro e w' ⟨rfl, rfl⟩)
          go_quiet (fail)
          go_wp2
          go_roundw
          case rel => exact ⟨1, (0, 0), by omega, by go_num, rfl, rfl, (stK_one xs).symm, fun q hq => by
            obtain rfl : q = 0 := by omega
            rw [← HX.out]; exact hf, _, by first | rfl | exact World.drewN_drewN _ _ _⟩
          case measure => simp [intOf]; omega
      | succ j =>
        obtain ⟨b, off, x, rfl, hx, hb, hc⟩ := h.at_ hlt
        obtain ⟨b', off', x', hA', hx', hb', hc'⟩ := h.at_ (k := j) (by omega)
        simp only [Option.some.injEq, Addr.mk.injEq, and_true] at hA'
        obtain ⟨rfl, rfl⟩ := hA'
        cases hf : okF x
        · have hr := stepR_g (goodF_bad hlt (by rw [← hx]; exact hf))
          have HR := Lib.hid hr
          clear hr hp hx hx' h hok
          go_wp2_with (go_at_call 40; refine (l17Flow_c _ _).mono ?_; rintro e w' ⟨rfl, rfl⟩)
          go_returns
          exact ⟨by rw [HR.out]; rfl, _, rfl⟩
        · have gx := inB_out hf
          have gx' := inB_out (show inB x' 0 1000000 = true by rw [hx']; exact hok j (by omega))
          have wr1 : IntKind.i64.wrap (x' - x) = x' - x := IntWalk.i64_in _ (by omega)
          have hok1 : ∀ q, q < j + 1 + 1 → okF (xs.getD q 0) = true := fun q hq => by
            by_cases e : q = j + 1
            · subst e; rw [← hx]; exact hf
            · exact hok q (by omega)
          have HOK := Lib.hid hok1
          by_cases hq : p.2 < x' - x
          · have hs : stK xs (j + 1 + 1) = ((j : Int), x' - x) := stK_yes2 hx' hx (by rw [← hp]; exact hq)
            have HS := Lib.hid hs
            clear hs hp hx hx' h hok hok1
            go_wp2_with (go_at_call 40; refine (l17Flow_c _ _).mono ?_; rintro e w' ⟨rfl, rfl⟩)
            go_quiet (fail)
            go_wp2
            try go_quiet (fail)
            go_wp2
            go_roundw
            case rel => exact ⟨j + 1 + 1, _, by omega, by go_num, by go_num, rfl, HS.out.symm, HOK.out, _, by first | rfl | exact World.drewN_drewN _ _ _⟩
            case measure => simp [intOf]; omega
          · have hs : stK xs (j + 1 + 1) = p := by rw [stK_no2 hx' hx (by rw [← hp]; exact hq)]; exact hp.symm
            have HS := Lib.hid hs
            clear hs hp hx hx' h hok hok1
            go_wp2_with (go_at_call 40; refine (l17Flow_c _ _).mono ?_; rintro e w' ⟨rfl, rfl⟩)
            go_quiet (fail)
            go_wp2
            go_roundw
            case rel => exact ⟨j + 1 + 1, p, by omega, by go_num, rfl, rfl, HS.out.symm, HOK.out, _, by first | rfl | exact World.drewN_drewN _ _ _⟩
            case measure => simp [intOf]; omega
    · obtain rfl : k = xs.length := by omega
      have hgood := goodF_end hok
      cases h1 : inB xs.length 2 20
      · have hr := stepR_l h1
        have HR := Lib.hid hr
        clear hr hp h hok hgood
        go_wp2_with (go_at_call 41; refine (l1In_c _ _ _ _).mono ?_; rintro e w' ⟨rfl, rfl⟩)
        go_returns
        exact ⟨by rw [HR.out]; rfl, _, rfl⟩
      · by_cases hz : p.2 = 0
        · have hr := stepR_z (xs := xs) (by rw [← hp]; exact hz)
          have HR := Lib.hid hr
          clear hr hp h hok hgood
          go_wp2_with (go_at_call 41; refine (l1In_c _ _ _ _).mono ?_; rintro e w' ⟨rfl, rfl⟩)
          go_returns
          exact ⟨by rw [HR.out]; rfl, _, rfl⟩
        · have hr := stepR_yes h1 hgood (by rw [← hp]; exact hz)
          rw [← hp] at hr
          have HR := Lib.hid hr
          clear hr hp h hok hgood
          go_wp2_with (go_at_call 41; refine (l1In_c _ _ _ _).mono ?_; rintro e w' ⟨rfl, rfl⟩)
          go_returns
          exact ⟨by rw [HR.out]; rfl, _, rfl⟩
end Go.Proofs.Ytdkhiedgikjnkaa
