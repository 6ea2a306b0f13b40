/- slices.Compare of two pairs. No condition beside that they lie there. -/
import Derived.Test.YtokhbjllgaaogaaCIter
namespace Go.Proofs.Ytokhbjllgaaogaa
set_option linter.unusedSimpArgs false
open Go.RowKit Go.Maps

theorem intS : (Try.prog.info? 3).map (·.size) = some 1 := by kernel_rfl

set_option maxRecDepth 100000 in
theorem isNaNI_ok {x : Int} {w : World} {R : Ending → World → Prop} (hR : R (.returned (.bool false)) w) : Calls Try.prog 64 #[.int .i64 x] w R := by
  go_enter Try.func64, Try.ntmps64
  go_wp2
  exact hR

def cmp1 (x y : Int) : Int := if x < y then -1 else if y < x then 1 else 0

set_option maxHeartbeats 4000000 in
set_option maxRecDepth 100000 in
theorem compare_ok {x y : Int} {w : World} {R : Ending → World → Prop} (hR : R (.returned (.int .i64 (cmp1 x y))) w) : Calls Try.prog 41 #[.int .i64 x, .int .i64 y] w R := by
  unfold cmp1 at hR
  by_cases h1 : x < y
  · rw [if_pos h1] at hR
    have HR := hid hR
    clear hR
    go_enter Try.func41, Try.ntmps41
    go_wp2_with (go_at_call 64; refine isNaNI_ok ?_)
    exact HR.out
  · rw [if_neg h1] at hR
    by_cases h2 : y < x
    · rw [if_pos h2] at hR
      have HR := hid hR
      clear hR
      go_enter Try.func41, Try.ntmps41
      go_wp2_with (go_at_call 64; refine isNaNI_ok ?_)
      exact HR.out
    · rw [if_neg h2] at hR
      have HR := hid hR
      clear hR
      go_enter Try.func41, Try.ntmps41
      go_wp2_with (go_at_call 64; refine isNaNI_ok ?_)
      exact HR.out

def cmp2 (x0 x1 y0 y1 : Int) : Int := if cmp1 x0 y0 ≠ 0 then cmp1 x0 y0 else cmp1 x1 y1

theorem cmp1_zero {x y : Int} : cmp1 x y = 0 ↔ x = y := by
  unfold cmp1
  split
  · constructor <;> intro h <;> omega
  · split
    · constructor <;> intro h <;> omega
    · constructor <;> intro h <;> omega

set_option maxHeartbeats 4000000 in
set_option maxRecDepth 100000 in
theorem compare2_ok {b1 b2 c1 c2 : Nat} {x0 x1 y0 y1 : Int} {w : World} {R : Ending → World → Prop} (h1 : w.cell? ⟨b1, 0, none⟩ = some (.int .i64 x0)) (h2 : w.cell? ⟨b1, 1, none⟩ = some (.int .i64 x1)) (h3 : w.cell? ⟨b2, 0, none⟩ = some (.int .i64 y0)) (h4 : w.cell? ⟨b2, 1, none⟩ = some (.int .i64 y1))
    (hR : R (.returned (.int .i64 (cmp2 x0 x1 y0 y1))) w) : Calls Try.prog 31 #[.slice (some ⟨b1, 0, none⟩) 2 c1, .slice (some ⟨b2, 0, none⟩) 2 c2] w R := by
  have HR := hid hR
  clear hR
  go_enter Try.func31, Try.ntmps31
  go_wp2
  go_loopw [11] (fun t11 wr => ∃ i : Nat, i ≤ 2 ∧ t11 = .int .i64 (i : Nat) ∧ Hid ((1 ≤ i → x0 = y0) ∧ (2 ≤ i → x1 = y1)) ∧ Hid (wr = w)) (fun t11 _ => 2 - (intOf t11).toNat)
  case atStart => exact ⟨0, by omega, rfl, ⟨fun h => by omega, fun h => by omega⟩, rfl⟩
  case round =>
    obtain ⟨i, hi, rfl, he, hw⟩ := hrel
    obtain rfl := hw.out
    have HE := hid he.out
    clear he hw
    have hi' : i = 0 ∨ i = 1 ∨ i = 2 := by omega
    clear hi
    rcases hi' with rfl | rfl | rfl
    · obtain ⟨c, hc⟩ : ∃ c, cmp1 x0 y0 = c := ⟨_, rfl⟩
      have HC := hid hc
      clear hc
      by_cases hz : c = 0
      · subst hz
        go_wp2_with (go_at_call 41; refine compare_ok ?_; rw [HC.out])
        go_roundw
        case rel => exact ⟨1, by omega, rfl, ⟨fun _ => cmp1_zero.1 HC.out, fun h => by omega⟩, trivial⟩
        case measure => simp [intOf]
      · go_wp2_with (go_at_call 41; refine compare_ok ?_; rw [HC.out])
        have := HR.out
        unfold cmp2 at this
        rw [HC.out, if_pos hz] at this
        exact this
    · obtain ⟨c, hc⟩ : ∃ c, cmp1 x1 y1 = c := ⟨_, rfl⟩
      have HC := hid hc
      clear hc
      have h0 := cmp1_zero.2 (HE.out.1 (by omega))
      have H0 := hid h0
      clear h0
      by_cases hz : c = 0
      · subst hz
        go_wp2_with (go_at_call 41; refine compare_ok ?_; rw [HC.out])
        go_roundw
        case rel => exact ⟨2, by omega, rfl, ⟨fun _ => HE.out.1 (by omega), fun _ => cmp1_zero.1 HC.out⟩, trivial⟩
        case measure => simp [intOf]
      · go_wp2_with (go_at_call 41; refine compare_ok ?_; rw [HC.out])
        have := HR.out
        unfold cmp2 at this
        rw [H0.out, if_neg (by simp), HC.out] at this
        exact this
    · go_wp2
      have := HR.out
      unfold cmp2 at this
      rw [cmp1_zero.2 (HE.out.1 (by omega)), if_neg (by simp), cmp1_zero.2 (HE.out.2 (by omega))] at this
      exact this

theorem cmp2_neg {x0 x1 y0 y1 : Int} : cmp2 x0 x1 y0 y1 < 0 ↔ (x0 < y0 ∨ (x0 = y0 ∧ x1 < y1)) := by
  unfold cmp2 cmp1
  split <;> split <;> (try split) <;> omega

end Go.Proofs.Ytokhbjllgaaogaa
