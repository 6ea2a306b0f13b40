/- slices.Sort of at most twelve fids. No condition beside what each law asks. -/
import Derived.Test.YtokhbjllgaaogaaCColl
import Derived.Test.YtokhbjllgaaogaaHeld
import Derived.RegionTactic
namespace Go.Proofs.Ytokhbjllgaaogaa
set_option linter.unusedSimpArgs false
open Go.RowKit Go.Maps
attribute [local irreducible] wpQuiet wpAnyH

theorem follows : Try.prog.follows .mixedOrders = true := by kernel_rfl
theorem var_cell {P : Program} {ty : TypeId} {d : TypeDesc} {w : World} {ad : Addr} {v : Value} (hu : P.underlying ty = some d) (hd : d.isRow = false) (h : w.cell? ad = some v) : (loadVar ty ad).run P w = .ok v w := by
  have hagg : (isAgg ty).run P w = .ok false w := by unfold isAgg; rw [Sem.run_bind, run_underlying hu w]; cases d <;> first | rfl | cases hd
  simp [loadVar, Sem.run_bind, hagg, h]
theorem intU : Try.prog.underlying 3 = some (.int .i64) := by kernel_rfl
theorem wrapI {a : Int} (h0 : -9223372036854775808 ≤ a) (h1 : a < 9223372036854775808) : IntKind.wrap .i64 a = a := by
  first | (simp only [IntKind.wrap]; omega) | (simp [IntKind.wrap, IntKind.bits, IntKind.signed]; omega) | (unfold IntKind.wrap; simp [wrap64]; omega)
theorem subI {a b : Int} (h0 : -9223372036854775808 ≤ a - b) (h1 : a - b < 9223372036854775808) (W : World) : (binOp .sub 3 (.int .i64 a) (.int .i64 b)).run Try.prog W = .ok (.int .i64 (a - b)) W := by
  have h : (binOp .sub 3 (.int .i64 a) (.int .i64 b)).run Try.prog W = .ok (.int .i64 (IntKind.wrap .i64 (a - b))) W := by kernel_rfl
  rw [h, show IntKind.wrap .i64 (a - b) = a - b by first | (simp only [IntKind.wrap]; omega) | (simp [IntKind.wrap, IntKind.bits, IntKind.signed]; omega) | (unfold IntKind.wrap; simp [wrap64]; omega)]
theorem gtrI {a b : Int} (hab : b < a) (W : World) : (binOp .gtr 3 (.int .i64 a) (.int .i64 b)).run Try.prog W = .ok (.bool true) W := by
  have h : (binOp .gtr 3 (.int .i64 a) (.int .i64 b)).run Try.prog W = .ok (.bool (decide (b < a))) W := by kernel_rfl
  rw [h, decide_eq_true hab]
theorem gtrN {a b : Int} (hab : ¬ b < a) (W : World) : (binOp .gtr 3 (.int .i64 a) (.int .i64 b)).run Try.prog W = .ok (.bool false) W := by
  have h : (binOp .gtr 3 (.int .i64 a) (.int .i64 b)).run Try.prog W = .ok (.bool (decide (b < a))) W := by kernel_rfl
  rw [h, decide_eq_false hab]
theorem fidS : (Try.prog.info? 27).map (·.size) = some 1 := by kernel_rfl

set_option maxRecDepth 100000 in
theorem isNaN_ok {x : Int} {w : World} {R : Ending → World → Prop} (hR : R (.returned (.bool false)) w) : Calls Try.prog 65 #[.int .u32 x] w R := by
  go_enter Try.func65, Try.ntmps65
  go_wp2
  exact hR

set_option maxRecDepth 100000 in
theorem less_ok {x y : Int} {w : World} {R : Ending → World → Prop} (hR : R (.returned (.bool (decide (x < y)))) w) : Calls Try.prog 93 #[.int .u32 x, .int .u32 y] w R := by
  go_enter Try.func93, Try.ntmps93
  go_wp2_with (go_at_call 65; refine isNaN_ok ?_)
  exact hR

/-- A row of numbers, the first cells of a block. -/
def Row32 (w : World) (g cap : Nat) (ys : Array Int) : Prop := ∃ cs : Array Value, w.heap[g]? = some (.cells cs 27 (0, 0)) ∧ cs.size = cap ∧ ys.size ≤ cap ∧ ∀ k, k < ys.size → cs[k]? = some (.int .u32 (ys.getD k 0))

theorem Row32.cell {w : World} {g cap : Nat} {ys : Array Int} (h : Row32 w g cap ys) {k : Nat} (hk : k < ys.size) : w.cell? ⟨g, k, none⟩ = some (.int .u32 (ys.getD k 0)) := by
  obtain ⟨cs, h1, _, _, h2⟩ := h
  exact cell_at h1 (h2 k hk)
theorem Row32.frozen {w : World} {g cap : Nat} {ys : Array Int} (h : Row32 w g cap ys) (k : Nat) : w.frozen? ⟨g, k, none⟩ = false := by
  obtain ⟨cs, h1, _⟩ := h
  simp [World.frozen?, h1]

def swp (ys : Array Int) (j : Nat) : Array Int := (ys.setIfInBounds j (ys.getD (j - 1) 0)).setIfInBounds (j - 1) (ys.getD j 0)

theorem swp_size (ys : Array Int) (j : Nat) : (swp ys j).size = ys.size := by simp [swp]
theorem swp_get {ys : Array Int} {j : Nat} (h0 : 0 < j) (hj : j < ys.size) (k : Nat) (hk : k < ys.size) : (swp ys j).getD k 0 = if k = j then ys.getD (j - 1) 0 else if k = j - 1 then ys.getD j 0 else ys.getD k 0 := by
  simp only [swp, Array.getD_eq_getD_getElem?]
  by_cases h1 : k = j - 1
  · subst h1
    rw [Array.getElem?_setIfInBounds_self_of_lt (by simp; omega), if_neg (by omega), if_pos rfl]
    rfl
  · rw [Array.getElem?_setIfInBounds_ne (by omega)]
    by_cases h2 : k = j
    · subst h2
      rw [Array.getElem?_setIfInBounds_self_of_lt hj, if_pos rfl]
      rfl
    · rw [Array.getElem?_setIfInBounds_ne (by omega), if_neg h2, if_neg h1]

theorem swp_perm {ys : Array Int} {j : Nat} (h0 : 0 < j) (hj : j < ys.size) : (swp ys j).toList.Perm ys.toList := by
  have : swp ys j = ys.swap j (j - 1) hj (by omega) := by
    simp only [swp, Array.swap, Array.getD_eq_getD_getElem?]
    rw [Array.getElem?_eq_getElem hj, Array.getElem?_eq_getElem (show j - 1 < ys.size by omega)]
    simp only [Option.getD_some]
    simp only [Array.setIfInBounds_def, Array.size_set, hj, dif_pos, show j - 1 < ys.size by omega]
  rw [this]
  exact (Array.swap_perm hj (by omega)).toList

theorem Row32.swap {w : World} {g cap : Nat} {ys : Array Int} {j : Nat} (h : Row32 w g cap ys) (h0 : 0 < j) (hj : j < ys.size) : Row32 ((w.setCell ⟨g, j, none⟩ (.int .u32 (ys.getD (j - 1) 0))).setCell ⟨g, j - 1, none⟩ (.int .u32 (ys.getD j 0))) g cap (swp ys j) := by
  obtain ⟨cs, h1, h2, h3, h4⟩ := h
  have e1 : (w.setCell ⟨g, j, none⟩ (.int .u32 (ys.getD (j - 1) 0))).heap[g]? = some (.cells (cs.setIfInBounds j (.int .u32 (ys.getD (j - 1) 0))) 27 (0, 0)) := by
    simp [World.setCell, Array.getElem?_modify, h1]
  refine ⟨(cs.setIfInBounds j (.int .u32 (ys.getD (j - 1) 0))).setIfInBounds (j - 1) (.int .u32 (ys.getD j 0)), by simp only [World.setCell, Array.getElem?_modify] at e1 ⊢; simp [h1], by simp [h2], by rw [swp_size]; exact h3, fun k hk => ?_⟩
  rw [swp_size] at hk
  rw [swp_get h0 hj k hk]
  by_cases a1 : k = j - 1
  · subst a1
    rw [Array.getElem?_setIfInBounds_self_of_lt (by simp; omega), if_neg (by omega), if_pos rfl]
  · rw [Array.getElem?_setIfInBounds_ne (by omega)]
    by_cases a2 : k = j
    · subst a2
      rw [Array.getElem?_setIfInBounds_self_of_lt (by omega), if_pos rfl]
    · rw [Array.getElem?_setIfInBounds_ne (by omega), if_neg a2, if_neg a1]
      exact h4 k hk

/-- In order, the first m. -/
def Upto (ys : Array Int) (m : Nat) : Prop := ∀ p q, p < q → q < m → ys.getD p 0 ≤ ys.getD q 0
/-- In order, the first i + 1, but for the one at j, which is least of those behind it. -/
def But (ys : Array Int) (i j : Nat) : Prop := (∀ p q, p < q → q ≤ i → p ≠ j → q ≠ j → ys.getD p 0 ≤ ys.getD q 0) ∧ ∀ q, j < q → q ≤ i → ys.getD j 0 ≤ ys.getD q 0

theorem Upto.but {ys : Array Int} {i : Nat} (h : Upto ys i) : But ys i i := ⟨fun p q h1 h2 _ h4 => h p q h1 (by omega), fun q h1 h2 => by omega⟩
theorem But.done {ys : Array Int} {i j : Nat} (h : But ys i j) (hs : j = 0 ∨ ys.getD (j - 1) 0 ≤ ys.getD j 0) : Upto ys (i + 1) := by
  intro p q h1 h2
  by_cases hp : p = j
  · subst hp; exact h.2 q h1 (by omega)
  · by_cases hq : q = j
    · subst hq
      rcases hs with h0 | hs
      · omega
      · by_cases hp1 : p = q - 1
        · subst hp1; exact hs
        · exact Int.le_trans (h.1 p (q - 1) (by omega) (by omega) hp (by omega)) hs
    · exact h.1 p q h1 (by omega) hp hq
theorem But.swap {ys : Array Int} {i j : Nat} (h : But ys i j) (h0 : 0 < j) (hji : j ≤ i) (hi : i < ys.size) (hs : ys.getD j 0 < ys.getD (j - 1) 0) : But (swp ys j) i (j - 1) := by
  have hj : j < ys.size := by omega
  constructor
  · intro p q h1 h2 h3 h4
    rw [swp_get h0 hj p (by omega), swp_get h0 hj q (by omega)]
    rw [if_neg h3, if_neg h4]
    by_cases hp : p = j
    · rw [if_pos hp, if_neg (show q ≠ j by omega)]
      exact h.1 (j - 1) q (by omega) h2 (by omega) (by omega)
    · rw [if_neg hp]
      by_cases hq : q = j
      · rw [if_pos hq]; exact h.1 p (j - 1) (by omega) (by omega) hp (by omega)
      · rw [if_neg hq]; exact h.1 p q h1 h2 hp hq
  · intro q h1 h2
    rw [swp_get h0 hj (j - 1) (by omega), swp_get h0 hj q (by omega)]
    rw [if_neg (show j - 1 ≠ j by omega), if_pos rfl]
    by_cases hq : q = j
    · rw [if_pos hq]; omega
    · rw [if_neg hq, if_neg (show q ≠ j - 1 by omega)]
      exact h.2 q (by omega) h2

set_option maxHeartbeats 4000000 in
set_option maxRecDepth 100000 in
theorem isort_ok {g cap : Nat} {xs : Array Int} {w : World} {R : Ending → World → Prop} (hn : xs.size ≤ 1000) (H : Row32 w g cap xs)
    (hR : ∀ w' ys, Row32 w' g cap ys → ys.toList.Perm xs.toList → Upto ys xs.size → Fr (fun b => b = g) w w' → R (.returned (.tuple #[])) w') :
    Calls Try.prog 87 #[.slice (some ⟨g, 0, none⟩) xs.size cap, .int .i64 0, .int .i64 xs.size] w R := by
  have HR := hid hR
  have HH := hid H
  obtain ⟨n, hN⟩ : ∃ n, n = xs.size := ⟨_, rfl⟩
  rw [← hN]
  have HN := hid hN
  clear hR H
  have hn' : n ≤ 1000 := by omega
  clear hn hN
  go_enter Try.func87, Try.ntmps87
  go_wp2
  go_loopw [6] (fun t6 wr => ∃ (i : Nat) (ys : Array Int), 1 ≤ i ∧ i ≤ n + 1 ∧ t6 = .int .i64 (i : Nat) ∧ Hid (Row32 wr g cap ys ∧ ys.toList.Perm xs.toList ∧ Upto ys (min i n) ∧ Fr (fun b => b = g) w wr)) (fun t6 _ => n + 1 - (intOf t6).toNat)
  case atStart => exact ⟨1, xs, by omega, by omega, rfl, HH.out, List.Perm.refl _, fun p q h1 h2 => by omega, Fr.refl _ _⟩
  case round =>
    obtain ⟨i, ys, hi0, hi1, rfl, hh⟩ := hrel
    rename World => wo
    have HI := hid hh.out
    have HSZ : Hid (ys.size = n) := by have := hh.out.2.1.length_eq; simp at this; show _ = _; rw [this, HN.out]
    clear hh
    by_cases hlt : i < n
    · go_wp2
      go_loopw [7] (fun t7 wr => ∃ (j : Nat) (zs : Array Int), j ≤ i ∧ t7 = .int .i64 (j : Nat) ∧ Hid (Row32 wr g cap zs ∧ zs.toList.Perm xs.toList ∧ But zs i j ∧ Fr (fun b => b = g) w wr)) (fun t7 _ => (intOf t7).toNat)
      case atStart => exact ⟨i, ys, by omega, rfl, HI.out.1, HI.out.2.1, (show Upto ys i by have := HI.out.2.2.1; rwa [show min i n = i by omega] at this).but, HI.out.2.2.2⟩
      case round =>
        obtain ⟨j, zs, hj, rfl, hh⟩ := hrel
        rename World => wp
        have HJ := hid hh.out
        have HZ : Hid (zs.size = n) := by have := hh.out.2.1.length_eq; simp at this; show _ = _; rw [this, HN.out]
        clear hh
        by_cases h0 : 0 < j
        · obtain ⟨j, rfl⟩ : ∃ k, j = k + 1 := ⟨j - 1, by omega⟩
          obtain ⟨y1, hy1⟩ : ∃ y1, zs.getD (j + 1) 0 = y1 := ⟨_, rfl⟩
          obtain ⟨y0, hy0⟩ : ∃ y0, zs.getD j 0 = y0 := ⟨_, rfl⟩
          have Q1 : Hid (wp.cell? ⟨g, j + 1, none⟩ = some (.int .u32 y1)) := by rw [← hy1]; exact HJ.out.1.cell (by have := HZ.out; omega)
          have Q0 : Hid (wp.cell? ⟨g, j, none⟩ = some (.int .u32 y0)) := by rw [← hy0]; exact HJ.out.1.cell (by have := HZ.out; omega)
          have HY1 := hid hy1
          have HY0 := hid hy0
          clear hy1 hy0
          go_wp2
          refine region_held (n := 15) (fun W => W.cell? ⟨g, j + 1, none⟩ = some (.int .u32 y1) ∧ W.cell? ⟨g, j, none⟩ = some (.int .u32 y0)) follows (by kernel_rfl) ?_
          have HS : (fun W : World => W.cell? ⟨g, j + 1, none⟩ = some (.int .u32 y1) ∧ W.cell? ⟨g, j, none⟩ = some (.int .u32 y0)) wp.drew := ⟨Q1.out, Q0.out⟩
          (refine h_val 0 rfl (by kernel_rfl) (by kernel_rfl) (by kernel_rfl) (fun _ _ _ h => h) HS (by kernel_rfl) (fun W _ => run_move rfl rfl W) ?_; simp only [Act.put, Act.eval, Array.getD_eq_getD_getElem?, List.setIfInBounds_toArray, List.set_cons_succ, List.set_cons_zero, List.getElem?_toArray, List.getElem?_cons_succ, List.getElem?_cons_zero, Option.getD_some])
          (refine h_val 1 rfl (by kernel_rfl) (by kernel_rfl) (by kernel_rfl) (fun _ _ _ h => h) HS (by kernel_rfl) (fun W _ => run_move rfl rfl W) ?_; simp only [Act.put, Act.eval, Array.getD_eq_getD_getElem?, List.setIfInBounds_toArray, List.set_cons_succ, List.set_cons_zero, List.getElem?_toArray, List.getElem?_cons_succ, List.getElem?_cons_zero, Option.getD_some])
          (refine h_val (v := .bool true) 2 rfl (by kernel_rfl) (by kernel_rfl) (by kernel_rfl) (fun _ _ _ h => h) HS (by kernel_rfl) (fun W _ => run_bin rfl rfl rfl (gtrI (by omega) W)) ?_; simp only [Act.put, Act.eval, Array.getD_eq_getD_getElem?, List.setIfInBounds_toArray, List.set_cons_succ, List.set_cons_zero, List.getElem?_toArray, List.getElem?_cons_succ, List.getElem?_cons_zero, Option.getD_some])
          (refine h_val 3 rfl (by kernel_rfl) (by kernel_rfl) (by kernel_rfl) (fun _ _ _ h => h) HS (by kernel_rfl) (fun W _ => run_move rfl rfl W) ?_; simp only [Act.put, Act.eval, Array.getD_eq_getD_getElem?, List.setIfInBounds_toArray, List.set_cons_succ, List.set_cons_zero, List.getElem?_toArray, List.getElem?_cons_succ, List.getElem?_cons_zero, Option.getD_some])
          (refine h_val 4 rfl (by kernel_rfl) (by kernel_rfl) (by kernel_rfl) (fun _ _ _ h => h) HS (by kernel_rfl) (fun W _ => run_move rfl rfl W) ?_; simp only [Act.put, Act.eval, Array.getD_eq_getD_getElem?, List.setIfInBounds_toArray, List.set_cons_succ, List.set_cons_zero, List.getElem?_toArray, List.getElem?_cons_succ, List.getElem?_cons_zero, Option.getD_some])
          (refine h_val 5 rfl (by kernel_rfl) (by kernel_rfl) (by kernel_rfl) (fun _ _ _ h => h) HS (by kernel_rfl) (fun W _ => run_move rfl rfl W) ?_; simp only [Act.put, Act.eval, Array.getD_eq_getD_getElem?, List.setIfInBounds_toArray, List.set_cons_succ, List.set_cons_zero, List.getElem?_toArray, List.getElem?_cons_succ, List.getElem?_cons_zero, Option.getD_some])
          (refine h_val (v := .pointer (some ⟨g, j + 1, none⟩)) 6 rfl (by kernel_rfl) (by kernel_rfl) (by kernel_rfl) (fun _ _ _ h => h) HS (by kernel_rfl) (fun W _ => run_index rfl rfl rfl (fidsU) (fidS) ((by omega)) ((by omega)) (by simp) W) ?_; simp only [Act.put, Act.eval, Array.getD_eq_getD_getElem?, List.setIfInBounds_toArray, List.set_cons_succ, List.set_cons_zero, List.getElem?_toArray, List.getElem?_cons_succ, List.getElem?_cons_zero, Option.getD_some])
          (refine h_val (v := .int .u32 y1) 7 rfl (by kernel_rfl) (by kernel_rfl) (by kernel_rfl) (fun _ _ _ h => h) HS (by kernel_rfl) (fun W hW => run_loadv rfl rfl (var_cell fidU rfl hW.1)) ?_; simp only [Act.put, Act.eval, Array.getD_eq_getD_getElem?, List.setIfInBounds_toArray, List.set_cons_succ, List.set_cons_zero, List.getElem?_toArray, List.getElem?_cons_succ, List.getElem?_cons_zero, Option.getD_some])
          (refine h_val 8 rfl (by kernel_rfl) (by kernel_rfl) (by kernel_rfl) (fun _ _ _ h => h) HS (by kernel_rfl) (fun W _ => run_move rfl rfl W) ?_; simp only [Act.put, Act.eval, Array.getD_eq_getD_getElem?, List.setIfInBounds_toArray, List.set_cons_succ, List.set_cons_zero, List.getElem?_toArray, List.getElem?_cons_succ, List.getElem?_cons_zero, Option.getD_some])
          (refine h_val 9 rfl (by kernel_rfl) (by kernel_rfl) (by kernel_rfl) (fun _ _ _ h => h) HS (by kernel_rfl) (fun W _ => run_move rfl rfl W) ?_; simp only [Act.put, Act.eval, Array.getD_eq_getD_getElem?, List.setIfInBounds_toArray, List.set_cons_succ, List.set_cons_zero, List.getElem?_toArray, List.getElem?_cons_succ, List.getElem?_cons_zero, Option.getD_some])
          (refine h_val (v := .int .i64 (((j + 1 : Nat) : Int) - 1)) 10 rfl (by kernel_rfl) (by kernel_rfl) (by kernel_rfl) (fun _ _ _ h => h) HS (by kernel_rfl) (fun W _ => run_bin rfl rfl rfl (subI (by omega) (by omega) W)) ?_; simp only [Act.put, Act.eval, Array.getD_eq_getD_getElem?, List.setIfInBounds_toArray, List.set_cons_succ, List.set_cons_zero, List.getElem?_toArray, List.getElem?_cons_succ, List.getElem?_cons_zero, Option.getD_some])
          (refine h_val (v := .pointer (some ⟨g, j, none⟩)) 11 rfl (by kernel_rfl) (by kernel_rfl) (by kernel_rfl) (fun _ _ _ h => h) HS (by kernel_rfl) (fun W _ => run_index rfl rfl rfl (fidsU) (fidS) ((by omega)) ((by omega)) (by simp) W) ?_; simp only [Act.put, Act.eval, Array.getD_eq_getD_getElem?, List.setIfInBounds_toArray, List.set_cons_succ, List.set_cons_zero, List.getElem?_toArray, List.getElem?_cons_succ, List.getElem?_cons_zero, Option.getD_some])
          (refine h_val (v := .int .u32 y0) 12 rfl (by kernel_rfl) (by kernel_rfl) (by kernel_rfl) (fun _ _ _ h => h) HS (by kernel_rfl) (fun W hW => run_loadv rfl rfl (var_cell fidU rfl hW.2)) ?_; simp only [Act.put, Act.eval, Array.getD_eq_getD_getElem?, List.setIfInBounds_toArray, List.set_cons_succ, List.set_cons_zero, List.getElem?_toArray, List.getElem?_cons_succ, List.getElem?_cons_zero, Option.getD_some])
          refine h_call (args := #[.int .u32 y1, .int .u32 y0]) 13 (by kernel_rfl) rfl (by kernel_rfl) (run_callf2 (g := 93) (v := .int .u32 y1) (z := .int .u32 y0) (fun _ _ => by kernel_rfl) rfl rfl rfl _) ?_
          refine less_ok ?_
          refine ⟨HS, ?_⟩
          simp only [Act.put, Act.eval, Array.getD_eq_getD_getElem?, List.setIfInBounds_toArray, List.set_cons_succ, List.set_cons_zero, List.getElem?_toArray, List.getElem?_cons_succ, List.getElem?_cons_zero, Option.getD_some]
          (refine h_val 14 rfl (by kernel_rfl) (by kernel_rfl) (by kernel_rfl) (fun _ _ _ h => h) HS (by kernel_rfl) (fun W _ => run_pickT rfl rfl rfl W) ?_; simp only [Act.put, Act.eval, Array.getD_eq_getD_getElem?, List.setIfInBounds_toArray, List.set_cons_succ, List.set_cons_zero, List.getElem?_toArray, List.getElem?_cons_succ, List.getElem?_cons_zero, Option.getD_some])
          refine h_done (by kernel_rfl) ?_
          clear HS
          by_cases hls : y1 < y0
          · rw [decide_eq_true hls]
            have q1 := Q1.out
            have q0 := Q0.out
            have f1 := HJ.out.1.frozen (j + 1)
            have f0 := HJ.out.1.frozen j
            go_wp2
            have hwr : IntKind.wrap .i64 (j : Int) = j := wrapI (by omega) (by omega)
            have hb0 : (0 : Int) ≤ j := by omega
            have hb1 : (j : Int) < n := by omega
            have hb2 : (j : Int) + 1 < n := by omega
            have hb3 : (0 : Int) ≤ (j : Int) + 1 := by omega
            have hb4 : ((j : Int) + 1).toNat = j + 1 := by omega
            go_region
            all_goals go_wp2
            go_roundw
            case rel =>
              have hsw := HJ.out.1.swap (j := j + 1) (by omega) (by have := HZ.out; omega)
              rw [show j + 1 - 1 = j from rfl, HY0.out, HY1.out] at hsw
              exact ⟨j, swp zs (j + 1), by omega, rfl, hsw, (swp_perm (by omega) (by have := HZ.out; omega)).trans HJ.out.2.1,
                HJ.out.2.2.1.swap (by omega) (by omega) (by have := HZ.out; omega) (by show zs.getD (j + 1) 0 < zs.getD j 0; rw [HY0.out, HY1.out]; exact hls),
                (((HJ.out.2.2.2.setCell (.inl rfl) _).setCell (.inl rfl) _).drew).drew⟩
            case measure => first | (simp [intOf]; done) | (simp [intOf]; omega)
          · rw [decide_eq_false hls]
            go_wp2
            go_roundw
            case rel =>
              refine ⟨i + 1, zs, by omega, by omega, by go_num, HJ.out.1, HJ.out.2.1, ?_, HJ.out.2.2.2.drew⟩
              rw [show min (i + 1) n = i + 1 by omega]
              exact HJ.out.2.2.1.done (.inr (by show zs.getD j 0 ≤ _; rw [HY0.out, HY1.out]; omega))
            case measure => first | (simp [intOf]; done) | (simp [intOf]; omega)
        · obtain rfl : j = 0 := by omega
          go_wp2
          refine region_held (n := 15) (fun _ => True) follows (by kernel_rfl) ?_
          have HS : (fun _ : World => True) wp.drew := trivial
          (refine h_val 0 rfl (by kernel_rfl) (by kernel_rfl) (by kernel_rfl) (fun _ _ _ h => h) HS (by kernel_rfl) (fun W _ => run_move rfl rfl W) ?_; simp only [Act.put, Act.eval, Array.getD_eq_getD_getElem?, List.setIfInBounds_toArray, List.set_cons_succ, List.set_cons_zero, List.getElem?_toArray, List.getElem?_cons_succ, List.getElem?_cons_zero, Option.getD_some])
          (refine h_val 1 rfl (by kernel_rfl) (by kernel_rfl) (by kernel_rfl) (fun _ _ _ h => h) HS (by kernel_rfl) (fun W _ => run_move rfl rfl W) ?_; simp only [Act.put, Act.eval, Array.getD_eq_getD_getElem?, List.setIfInBounds_toArray, List.set_cons_succ, List.set_cons_zero, List.getElem?_toArray, List.getElem?_cons_succ, List.getElem?_cons_zero, Option.getD_some])
          (refine h_val (v := .bool false) 2 rfl (by kernel_rfl) (by kernel_rfl) (by kernel_rfl) (fun _ _ _ h => h) HS (by kernel_rfl) (fun W _ => run_bin rfl rfl rfl (gtrN (by omega) W)) ?_; simp only [Act.put, Act.eval, Array.getD_eq_getD_getElem?, List.setIfInBounds_toArray, List.set_cons_succ, List.set_cons_zero, List.getElem?_toArray, List.getElem?_cons_succ, List.getElem?_cons_zero, Option.getD_some])
          (refine h_val 3 rfl (by kernel_rfl) (by kernel_rfl) (by kernel_rfl) (fun _ _ _ h => h) HS (by kernel_rfl) (fun W _ => run_move rfl rfl W) ?_; simp only [Act.put, Act.eval, Array.getD_eq_getD_getElem?, List.setIfInBounds_toArray, List.set_cons_succ, List.set_cons_zero, List.getElem?_toArray, List.getElem?_cons_succ, List.getElem?_cons_zero, Option.getD_some])
          (refine h_skip 4 rfl (by kernel_rfl) (by kernel_rfl) (by kernel_rfl) (fun _ _ _ h => h) HS (by kernel_rfl) ?_; simp only [Act.put, Act.eval, Array.getD_eq_getD_getElem?, List.setIfInBounds_toArray, List.set_cons_succ, List.set_cons_zero, List.getElem?_toArray, List.getElem?_cons_succ, List.getElem?_cons_zero, Option.getD_some])
          (refine h_skip 5 rfl (by kernel_rfl) (by kernel_rfl) (by kernel_rfl) (fun _ _ _ h => h) HS (by kernel_rfl) ?_; simp only [Act.put, Act.eval, Array.getD_eq_getD_getElem?, List.setIfInBounds_toArray, List.set_cons_succ, List.set_cons_zero, List.getElem?_toArray, List.getElem?_cons_succ, List.getElem?_cons_zero, Option.getD_some])
          (refine h_skip 6 rfl (by kernel_rfl) (by kernel_rfl) (by kernel_rfl) (fun _ _ _ h => h) HS (by kernel_rfl) ?_; simp only [Act.put, Act.eval, Array.getD_eq_getD_getElem?, List.setIfInBounds_toArray, List.set_cons_succ, List.set_cons_zero, List.getElem?_toArray, List.getElem?_cons_succ, List.getElem?_cons_zero, Option.getD_some])
          (refine h_skip 7 rfl (by kernel_rfl) (by kernel_rfl) (by kernel_rfl) (fun _ _ _ h => h) HS (by kernel_rfl) ?_; simp only [Act.put, Act.eval, Array.getD_eq_getD_getElem?, List.setIfInBounds_toArray, List.set_cons_succ, List.set_cons_zero, List.getElem?_toArray, List.getElem?_cons_succ, List.getElem?_cons_zero, Option.getD_some])
          (refine h_skip 8 rfl (by kernel_rfl) (by kernel_rfl) (by kernel_rfl) (fun _ _ _ h => h) HS (by kernel_rfl) ?_; simp only [Act.put, Act.eval, Array.getD_eq_getD_getElem?, List.setIfInBounds_toArray, List.set_cons_succ, List.set_cons_zero, List.getElem?_toArray, List.getElem?_cons_succ, List.getElem?_cons_zero, Option.getD_some])
          (refine h_skip 9 rfl (by kernel_rfl) (by kernel_rfl) (by kernel_rfl) (fun _ _ _ h => h) HS (by kernel_rfl) ?_; simp only [Act.put, Act.eval, Array.getD_eq_getD_getElem?, List.setIfInBounds_toArray, List.set_cons_succ, List.set_cons_zero, List.getElem?_toArray, List.getElem?_cons_succ, List.getElem?_cons_zero, Option.getD_some])
          (refine h_skip 10 rfl (by kernel_rfl) (by kernel_rfl) (by kernel_rfl) (fun _ _ _ h => h) HS (by kernel_rfl) ?_; simp only [Act.put, Act.eval, Array.getD_eq_getD_getElem?, List.setIfInBounds_toArray, List.set_cons_succ, List.set_cons_zero, List.getElem?_toArray, List.getElem?_cons_succ, List.getElem?_cons_zero, Option.getD_some])
          (refine h_skip 11 rfl (by kernel_rfl) (by kernel_rfl) (by kernel_rfl) (fun _ _ _ h => h) HS (by kernel_rfl) ?_; simp only [Act.put, Act.eval, Array.getD_eq_getD_getElem?, List.setIfInBounds_toArray, List.set_cons_succ, List.set_cons_zero, List.getElem?_toArray, List.getElem?_cons_succ, List.getElem?_cons_zero, Option.getD_some])
          (refine h_skip 12 rfl (by kernel_rfl) (by kernel_rfl) (by kernel_rfl) (fun _ _ _ h => h) HS (by kernel_rfl) ?_; simp only [Act.put, Act.eval, Array.getD_eq_getD_getElem?, List.setIfInBounds_toArray, List.set_cons_succ, List.set_cons_zero, List.getElem?_toArray, List.getElem?_cons_succ, List.getElem?_cons_zero, Option.getD_some])
          (refine h_skip 13 rfl (by kernel_rfl) (by kernel_rfl) (by kernel_rfl) (fun _ _ _ h => h) HS (by kernel_rfl) ?_; simp only [Act.put, Act.eval, Array.getD_eq_getD_getElem?, List.setIfInBounds_toArray, List.set_cons_succ, List.set_cons_zero, List.getElem?_toArray, List.getElem?_cons_succ, List.getElem?_cons_zero, Option.getD_some])
          (refine h_val 14 rfl (by kernel_rfl) (by kernel_rfl) (by kernel_rfl) (fun _ _ _ h => h) HS (by kernel_rfl) (fun W _ => run_pickF rfl rfl rfl W) ?_; simp only [Act.put, Act.eval, Array.getD_eq_getD_getElem?, List.setIfInBounds_toArray, List.set_cons_succ, List.set_cons_zero, List.getElem?_toArray, List.getElem?_cons_succ, List.getElem?_cons_zero, Option.getD_some])
          refine h_done (by kernel_rfl) ?_
          clear HS
          go_wp2
          go_roundw
          case rel =>
            refine ⟨i + 1, zs, by omega, by omega, by go_num, HJ.out.1, HJ.out.2.1, ?_, HJ.out.2.2.2.drew⟩
            rw [show min (i + 1) n = i + 1 by omega]
            exact HJ.out.2.2.1.done (.inl rfl)
          case measure => simp [intOf]; omega
    · go_wp2
      go_end0
      exact HR.out _ ys HI.out.1 HI.out.2.1 (by have := HI.out.2.2.1; rwa [show min i n = xs.size by rw [← HN.out]; omega] at this) HI.out.2.2.2

end Go.Proofs.Ytokhbjllgaaogaa
