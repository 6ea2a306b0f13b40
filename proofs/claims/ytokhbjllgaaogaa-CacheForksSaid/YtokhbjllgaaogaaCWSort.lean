/- slices.insertionSortCmpFunc at fids, by whatever comparator that tells whose key is less. No condition beside what each law asks. -/
import Derived.Test.YtokhbjllgaaogaaCEqv2
namespace Go.Proofs.Ytokhbjllgaaogaa
set_option linter.unusedSimpArgs false
open Go.RowKit Go.Maps
attribute [local irreducible] wpQuiet wpAnyH

/-- In order, the first m. -/
def UptoK (κ : Int → Int) (ys : Array Int) (m : Nat) : Prop := ∀ p q, p < q → q < m → κ (ys.getD p 0) ≤ κ (ys.getD q 0)
/-- In order, the first i + 1, but for the one at j, which is least of those behind it. -/
def ButK (κ : Int → Int) (ys : Array Int) (i j : Nat) : Prop := (∀ p q, p < q → q ≤ i → p ≠ j → q ≠ j → κ (ys.getD p 0) ≤ κ (ys.getD q 0)) ∧ ∀ q, j < q → q ≤ i → κ (ys.getD j 0) ≤ κ (ys.getD q 0)

theorem UptoK.but {κ : Int → Int} {ys : Array Int} {i : Nat} (h : UptoK κ ys i) : ButK κ ys i i := ⟨fun p q h1 h2 _ h4 => h p q h1 (by omega), fun q h1 h2 => by omega⟩
theorem ButK.done {κ : Int → Int} {ys : Array Int} {i j : Nat} (h : ButK κ ys i j) (hs : j = 0 ∨ κ (ys.getD (j - 1) 0) ≤ κ (ys.getD j 0)) : UptoK κ ys (i + 1) := by
  intro p q h1 h2
  by_cases hp : p = j
  · subst hp; exact h.2 q h1 (by omega)
  · by_cases hq : q = j
    · subst hq
      rcases hs with h0 | hs
      · omega
      · by_cases hp1 : p = q - 1
        · subst hp1; exact hs
        · exact Int.le_trans (h.1 p (q - 1) (by omega) (by omega) hp (by omega)) hs
    · exact h.1 p q h1 (by omega) hp hq
theorem ButK.swap {κ : Int → Int} {ys : Array Int} {i j : Nat} (h : ButK κ ys i j) (h0 : 0 < j) (hji : j ≤ i) (hi : i < ys.size) (hs : κ (ys.getD j 0) < κ (ys.getD (j - 1) 0)) : ButK κ (swp ys j) i (j - 1) := by
  have hj : j < ys.size := by omega
  constructor
  · intro p q h1 h2 h3 h4
    rw [swp_get h0 hj p (by omega), swp_get h0 hj q (by omega)]
    rw [if_neg h3, if_neg h4]
    by_cases hp : p = j
    · rw [if_pos hp, if_neg (show q ≠ j by omega)]
      exact h.1 (j - 1) q (by omega) h2 (by omega) (by omega)
    · rw [if_neg hp]
      by_cases hq : q = j
      · rw [if_pos hq]; exact h.1 p (j - 1) (by omega) (by omega) hp (by omega)
      · rw [if_neg hq]; exact h.1 p q h1 h2 hp hq
  · intro q h1 h2
    rw [swp_get h0 hj (j - 1) (by omega), swp_get h0 hj q (by omega)]
    rw [if_neg (show j - 1 ≠ j by omega), if_pos rfl]
    by_cases hq : q = j
    · rw [if_pos hq]; omega
    · rw [if_neg hq, if_neg (show q ≠ j - 1 by omega)]
      exact h.2 q (by omega) h2


theorem Row32.no {w W : World} {g cap : Nat} {ys : Array Int} (h : Row32 w g cap ys) (hf : Fr No w W) : Row32 W g cap ys := by
  obtain ⟨cs, h1, h2⟩ := h
  exact ⟨cs, hf.keep h1 (fun h => h), h2⟩

theorem run_callv2 {P : Program} {o : Oper} {a : Act} {x : Operand} {g : FuncId} {t u : Nat} {ts : Array TypeId} {caps : Array Value} {v z : Value} (hg : ∀ (args : Array Value) (W : World), (callFunc g args).run P W = .ok (.enter g args) W) (ho : o.op = .call { callee := .value x, args := #[.tmp t, .tmp u], argTypes := ts }) (hx : a.eval x = .func (.func g) #[] caps)
    (hv : a.eval (.tmp t) = v) (hz : a.eval (.tmp u) = z) (W : World) : (execOp a.eval o).run P W = .ok (.enter g (#[v, z] ++ caps)) W :=
  run_callv hg ho hx (by simp [hv, hz]) W

theorem mem_getD {zs xs : Array Int} {k : Nat} (h : zs.toList.Perm xs.toList) (hk : k < zs.size) : zs.getD k 0 ∈ xs.toList := by
  refine h.subset ?_
  rw [Array.getD_eq_getD_getElem?, Array.getElem?_eq_getElem hk]
  simp

set_option maxHeartbeats 4000000 in
set_option maxRecDepth 100000 in
theorem isortc_ok {g cap G : Nat} {caps : Array Value} {κ : Int → Int} {xs : Array Int} {w : World} {R : Ending → World → Prop} (eg : ∀ (args : Array Value) (W : World), (callFunc G args).run Try.prog W = .ok (.enter G args) W) (hn : xs.size ≤ 1000) (H : Row32 w g cap xs)
    (hcmp : ∀ (W : World) (x y : Int) (R' : Ending → World → Prop), Fr (fun b => b = g) w W → x ∈ xs.toList → y ∈ xs.toList → (∀ W' c, Fr No W W' → (c < 0 ↔ κ x < κ y) → R' (.returned (.int .i64 c)) W') → Calls Try.prog G (#[.int .u32 x, .int .u32 y] ++ caps) W R')
    (hR : ∀ w' ys, Row32 w' g cap ys → ys.toList.Perm xs.toList → UptoK κ ys xs.size → Fr (fun b => b = g) w w' → R (.returned (.tuple #[])) w') :
    Calls Try.prog 71 #[.slice (some ⟨g, 0, none⟩) xs.size cap, .int .i64 0, .int .i64 xs.size, .func (.func G) #[] caps] w R := by
  have HR := hid hR
  have HH := hid H
  have HCMP := hid hcmp
  have HEG := hid eg
  obtain ⟨n, hN⟩ : ∃ n, n = xs.size := ⟨_, rfl⟩
  rw [← hN]
  have HN := hid hN
  clear hR H hcmp eg
  have hn' : n ≤ 1000 := by omega
  clear hn hN
  go_enter Try.func71, Try.ntmps71
  go_wp2
  go_loopw [8] (fun t8 wr => ∃ (i : Nat) (ys : Array Int), 1 ≤ i ∧ i ≤ n + 1 ∧ t8 = .int .i64 (i : Nat) ∧ Hid (Row32 wr g cap ys ∧ ys.toList.Perm xs.toList ∧ UptoK κ ys (min i n) ∧ Fr (fun b => b = g) w wr)) (fun t8 _ => n + 1 - (intOf t8).toNat)
  case atStart => exact ⟨1, xs, by omega, by omega, rfl, HH.out, List.Perm.refl _, fun p q h1 h2 => by omega, Fr.refl _ _⟩
  case round =>
    obtain ⟨i, ys, hi0, hi1, rfl, hh⟩ := hrel
    rename World => wo
    have HI := hid hh.out
    have HSZ : Hid (ys.size = n) := by have := hh.out.2.1.length_eq; simp at this; show _ = _; rw [this, HN.out]
    clear hh
    by_cases hlt : i < n
    · go_wp2
      go_loopw [9] (fun t9 wr => ∃ (j : Nat) (zs : Array Int), j ≤ i ∧ t9 = .int .i64 (j : Nat) ∧ Hid (Row32 wr g cap zs ∧ zs.toList.Perm xs.toList ∧ ButK κ zs i j ∧ Fr (fun b => b = g) w wr)) (fun t9 _ => (intOf t9).toNat)
      case atStart => exact ⟨i, ys, by omega, rfl, HI.out.1, HI.out.2.1, (show UptoK κ ys i by have := HI.out.2.2.1; rwa [show min i n = i by omega] at this).but, HI.out.2.2.2⟩
      case round =>
        obtain ⟨j, zs, hj, rfl, hh⟩ := hrel
        rename World => wp
        have HJ := hid hh.out
        have HZ : Hid (zs.size = n) := by have := hh.out.2.1.length_eq; simp at this; show _ = _; rw [this, HN.out]
        clear hh
        by_cases h0 : 0 < j
        · obtain ⟨j, rfl⟩ : ∃ k, j = k + 1 := ⟨j - 1, by omega⟩
          obtain ⟨y1, hy1⟩ : ∃ y1, zs.getD (j + 1) 0 = y1 := ⟨_, rfl⟩
          obtain ⟨y0, hy0⟩ : ∃ y0, zs.getD j 0 = y0 := ⟨_, rfl⟩
          have Q1 : Hid (wp.cell? ⟨g, j + 1, none⟩ = some (.int .u32 y1)) := by rw [← hy1]; exact HJ.out.1.cell (by have := HZ.out; omega)
          have Q0 : Hid (wp.cell? ⟨g, j, none⟩ = some (.int .u32 y0)) := by rw [← hy0]; exact HJ.out.1.cell (by have := HZ.out; omega)
          have HM : Hid (y1 ∈ xs.toList ∧ y0 ∈ xs.toList) := by rw [← hy1, ← hy0]; exact ⟨mem_getD HJ.out.2.1 (by have := HZ.out; omega), mem_getD HJ.out.2.1 (by have := HZ.out; omega)⟩
          have HL : Hid (g < wp.heap.size) := by obtain ⟨cs, h, _⟩ := HJ.out.1; exact lt_of_heap h
          have HY1 := hid hy1
          have HY0 := hid hy0
          clear hy1 hy0
          go_wp2
          refine region_held (n := 17) (fun W => Fr No wp W) follows (by kernel_rfl) ?_
          have HS : (fun W : World => Fr No wp W) wp.drew := (Fr.refl No wp).drew
          (refine h_val 0 rfl (by kernel_rfl) (by kernel_rfl) (by kernel_rfl) (fun _ _ _ h => h) HS (by kernel_rfl) (fun W _ => run_move rfl rfl W) ?_; simp only [Act.put, Act.eval, Array.getD_eq_getD_getElem?, List.setIfInBounds_toArray, List.set_cons_succ, List.set_cons_zero, List.getElem?_toArray, List.getElem?_cons_succ, List.getElem?_cons_zero, Option.getD_some])
          (refine h_val 1 rfl (by kernel_rfl) (by kernel_rfl) (by kernel_rfl) (fun _ _ _ h => h) HS (by kernel_rfl) (fun W _ => run_move rfl rfl W) ?_; simp only [Act.put, Act.eval, Array.getD_eq_getD_getElem?, List.setIfInBounds_toArray, List.set_cons_succ, List.set_cons_zero, List.getElem?_toArray, List.getElem?_cons_succ, List.getElem?_cons_zero, Option.getD_some])
          (refine h_val (v := .bool true) 2 rfl (by kernel_rfl) (by kernel_rfl) (by kernel_rfl) (fun _ _ _ h => h) HS (by kernel_rfl) (fun W _ => run_bin rfl rfl rfl (gtrI (by omega) W)) ?_; simp only [Act.put, Act.eval, Array.getD_eq_getD_getElem?, List.setIfInBounds_toArray, List.set_cons_succ, List.set_cons_zero, List.getElem?_toArray, List.getElem?_cons_succ, List.getElem?_cons_zero, Option.getD_some])
          (refine h_val 3 rfl (by kernel_rfl) (by kernel_rfl) (by kernel_rfl) (fun _ _ _ h => h) HS (by kernel_rfl) (fun W _ => run_move rfl rfl W) ?_; simp only [Act.put, Act.eval, Array.getD_eq_getD_getElem?, List.setIfInBounds_toArray, List.set_cons_succ, List.set_cons_zero, List.getElem?_toArray, List.getElem?_cons_succ, List.getElem?_cons_zero, Option.getD_some])
          (refine h_val 4 rfl (by kernel_rfl) (by kernel_rfl) (by kernel_rfl) (fun _ _ _ h => h) HS (by kernel_rfl) (fun W _ => run_move rfl rfl W) ?_; simp only [Act.put, Act.eval, Array.getD_eq_getD_getElem?, List.setIfInBounds_toArray, List.set_cons_succ, List.set_cons_zero, List.getElem?_toArray, List.getElem?_cons_succ, List.getElem?_cons_zero, Option.getD_some])
          (refine h_val 5 rfl (by kernel_rfl) (by kernel_rfl) (by kernel_rfl) (fun _ _ _ h => h) HS (by kernel_rfl) (fun W _ => run_move rfl rfl W) ?_; simp only [Act.put, Act.eval, Array.getD_eq_getD_getElem?, List.setIfInBounds_toArray, List.set_cons_succ, List.set_cons_zero, List.getElem?_toArray, List.getElem?_cons_succ, List.getElem?_cons_zero, Option.getD_some])
          (refine h_val 6 rfl (by kernel_rfl) (by kernel_rfl) (by kernel_rfl) (fun _ _ _ h => h) HS (by kernel_rfl) (fun W _ => run_move rfl rfl W) ?_; simp only [Act.put, Act.eval, Array.getD_eq_getD_getElem?, List.setIfInBounds_toArray, List.set_cons_succ, List.set_cons_zero, List.getElem?_toArray, List.getElem?_cons_succ, List.getElem?_cons_zero, Option.getD_some])
          (refine h_val (v := .pointer (some ⟨g, j + 1, none⟩)) 7 rfl (by kernel_rfl) (by kernel_rfl) (by kernel_rfl) (fun _ _ _ h => h) HS (by kernel_rfl) (fun W _ => run_index rfl rfl rfl (fidsU) (fidS) ((by omega)) ((by omega)) (by simp) W) ?_; simp only [Act.put, Act.eval, Array.getD_eq_getD_getElem?, List.setIfInBounds_toArray, List.set_cons_succ, List.set_cons_zero, List.getElem?_toArray, List.getElem?_cons_succ, List.getElem?_cons_zero, Option.getD_some])
          (refine h_val (v := .int .u32 y1) 8 rfl (by kernel_rfl) (by kernel_rfl) (by kernel_rfl) (fun _ _ _ h => h) HS (by kernel_rfl) (fun W hW => run_loadv rfl rfl (var_cell fidU rfl ((hW.cell HL.out (fun h => h)).trans Q1.out))) ?_; simp only [Act.put, Act.eval, Array.getD_eq_getD_getElem?, List.setIfInBounds_toArray, List.set_cons_succ, List.set_cons_zero, List.getElem?_toArray, List.getElem?_cons_succ, List.getElem?_cons_zero, Option.getD_some])
          (refine h_val 9 rfl (by kernel_rfl) (by kernel_rfl) (by kernel_rfl) (fun _ _ _ h => h) HS (by kernel_rfl) (fun W _ => run_move rfl rfl W) ?_; simp only [Act.put, Act.eval, Array.getD_eq_getD_getElem?, List.setIfInBounds_toArray, List.set_cons_succ, List.set_cons_zero, List.getElem?_toArray, List.getElem?_cons_succ, List.getElem?_cons_zero, Option.getD_some])
          (refine h_val 10 rfl (by kernel_rfl) (by kernel_rfl) (by kernel_rfl) (fun _ _ _ h => h) HS (by kernel_rfl) (fun W _ => run_move rfl rfl W) ?_; simp only [Act.put, Act.eval, Array.getD_eq_getD_getElem?, List.setIfInBounds_toArray, List.set_cons_succ, List.set_cons_zero, List.getElem?_toArray, List.getElem?_cons_succ, List.getElem?_cons_zero, Option.getD_some])
          (refine h_val (v := .int .i64 (((j + 1 : Nat) : Int) - 1)) 11 rfl (by kernel_rfl) (by kernel_rfl) (by kernel_rfl) (fun _ _ _ h => h) HS (by kernel_rfl) (fun W _ => run_bin rfl rfl rfl (subI (by omega) (by omega) W)) ?_; simp only [Act.put, Act.eval, Array.getD_eq_getD_getElem?, List.setIfInBounds_toArray, List.set_cons_succ, List.set_cons_zero, List.getElem?_toArray, List.getElem?_cons_succ, List.getElem?_cons_zero, Option.getD_some])
          (refine h_val (v := .pointer (some ⟨g, j, none⟩)) 12 rfl (by kernel_rfl) (by kernel_rfl) (by kernel_rfl) (fun _ _ _ h => h) HS (by kernel_rfl) (fun W _ => run_index rfl rfl rfl (fidsU) (fidS) ((by omega)) ((by omega)) (by simp) W) ?_; simp only [Act.put, Act.eval, Array.getD_eq_getD_getElem?, List.setIfInBounds_toArray, List.set_cons_succ, List.set_cons_zero, List.getElem?_toArray, List.getElem?_cons_succ, List.getElem?_cons_zero, Option.getD_some])
          (refine h_val (v := .int .u32 y0) 13 rfl (by kernel_rfl) (by kernel_rfl) (by kernel_rfl) (fun _ _ _ h => h) HS (by kernel_rfl) (fun W hW => run_loadv rfl rfl (var_cell fidU rfl ((hW.cell HL.out (fun h => h)).trans Q0.out))) ?_; simp only [Act.put, Act.eval, Array.getD_eq_getD_getElem?, List.setIfInBounds_toArray, List.set_cons_succ, List.set_cons_zero, List.getElem?_toArray, List.getElem?_cons_succ, List.getElem?_cons_zero, Option.getD_some])
          refine h_call (args := #[.int .u32 y1, .int .u32 y0] ++ caps) 14 (by kernel_rfl) rfl (by kernel_rfl) (run_callv2 (v := .int .u32 y1) (z := .int .u32 y0) HEG.out rfl rfl rfl rfl _) ?_
          refine HCMP.out _ _ _ _ HJ.out.2.2.2.drew HM.out.1 HM.out.2 ?_
          intro wq c hfq hc
          have HC := hid hc
          have HS1 := HS.no hfq
          clear HS hfq hc
          have HS := HS1
          refine ⟨HS, ?_⟩
          clear HS1
          simp only [Act.put, Act.eval, Array.getD_eq_getD_getElem?, List.setIfInBounds_toArray, List.set_cons_succ, List.set_cons_zero, List.getElem?_toArray, List.getElem?_cons_succ, List.getElem?_cons_zero, Option.getD_some]
          (refine h_val (v := .bool (decide (c < 0))) 15 rfl (by kernel_rfl) (by kernel_rfl) (by kernel_rfl) (fun _ _ _ h => h) HS (by kernel_rfl) (fun W _ => run_bin rfl rfl rfl (lssI W)) ?_; simp only [Act.put, Act.eval, Array.getD_eq_getD_getElem?, List.setIfInBounds_toArray, List.set_cons_succ, List.set_cons_zero, List.getElem?_toArray, List.getElem?_cons_succ, List.getElem?_cons_zero, Option.getD_some])
          (refine h_val 16 rfl (by kernel_rfl) (by kernel_rfl) (by kernel_rfl) (fun _ _ _ h => h) HS (by kernel_rfl) (fun W _ => run_pickT rfl rfl rfl W) ?_; simp only [Act.put, Act.eval, Array.getD_eq_getD_getElem?, List.setIfInBounds_toArray, List.set_cons_succ, List.set_cons_zero, List.getElem?_toArray, List.getElem?_cons_succ, List.getElem?_cons_zero, Option.getD_some])
          refine h_done (by kernel_rfl) ?_
          have HQ := hid HS
          clear HS
          by_cases hls : c < 0
          · rw [decide_eq_true hls]
            have HLT : Hid (κ y1 < κ y0) := HC.out.1 hls
            have q1 := (HQ.out.cell HL.out (fun h => h)).trans Q1.out
            have q0 := (HQ.out.cell HL.out (fun h => h)).trans Q0.out
            have f1 := (HJ.out.1.no HQ.out).frozen (j + 1)
            have f0 := (HJ.out.1.no HQ.out).frozen j
            clear hls
            go_wp2
            have hwr : IntKind.wrap .i64 (j : Int) = j := wrapI (by omega) (by omega)
            have hb0 : (0 : Int) ≤ j := by omega
            have hb1 : (j : Int) < n := by omega
            have hb2 : (j : Int) + 1 < n := by omega
            have hb3 : (0 : Int) ≤ (j : Int) + 1 := by omega
            have hb4 : ((j : Int) + 1).toNat = j + 1 := by omega
            go_region
            all_goals go_wp2
            go_roundw
            case rel =>
              have hsw := (HJ.out.1.no HQ.out).swap (j := j + 1) (by omega) (by have := HZ.out; omega)
              rw [show j + 1 - 1 = j from rfl, HY0.out, HY1.out] at hsw
              exact ⟨j, swp zs (j + 1), by omega, rfl, hsw, (swp_perm (by omega) (by have := HZ.out; omega)).trans HJ.out.2.1,
                HJ.out.2.2.1.swap (by omega) (by omega) (by have := HZ.out; omega) (by show κ (zs.getD (j + 1) 0) < κ (zs.getD j 0); rw [HY0.out, HY1.out]; exact HLT.out),
                ((((HJ.out.2.2.2.no HQ.out).setCell (.inl rfl) _).setCell (.inl rfl) _).drew)⟩
            case measure => first | (simp [intOf]; done) | (simp [intOf]; omega)
          · rw [decide_eq_false hls]
            have HGE : Hid (κ y0 ≤ κ y1) := by show _ ≤ _; have := mt HC.out.2 hls; omega
            clear hls
            go_wp2
            go_roundw
            case rel =>
              refine ⟨i + 1, zs, by omega, by omega, by go_num, HJ.out.1.no HQ.out, HJ.out.2.1, ?_, HJ.out.2.2.2.no HQ.out⟩
              rw [show min (i + 1) n = i + 1 by omega]
              exact HJ.out.2.2.1.done (.inr (by show κ (zs.getD j 0) ≤ _; rw [HY0.out, HY1.out]; exact HGE.out))
            case measure => first | (simp [intOf]; done) | (simp [intOf]; omega)
        · obtain rfl : j = 0 := by omega
          go_wp2
          refine region_held (n := 17) (fun _ => True) follows (by kernel_rfl) ?_
          have HS : (fun _ : World => True) wp.drew := trivial
          (refine h_val 0 rfl (by kernel_rfl) (by kernel_rfl) (by kernel_rfl) (fun _ _ _ h => h) HS (by kernel_rfl) (fun W _ => run_move rfl rfl W) ?_; simp only [Act.put, Act.eval, Array.getD_eq_getD_getElem?, List.setIfInBounds_toArray, List.set_cons_succ, List.set_cons_zero, List.getElem?_toArray, List.getElem?_cons_succ, List.getElem?_cons_zero, Option.getD_some])
          (refine h_val 1 rfl (by kernel_rfl) (by kernel_rfl) (by kernel_rfl) (fun _ _ _ h => h) HS (by kernel_rfl) (fun W _ => run_move rfl rfl W) ?_; simp only [Act.put, Act.eval, Array.getD_eq_getD_getElem?, List.setIfInBounds_toArray, List.set_cons_succ, List.set_cons_zero, List.getElem?_toArray, List.getElem?_cons_succ, List.getElem?_cons_zero, Option.getD_some])
          (refine h_val (v := .bool false) 2 rfl (by kernel_rfl) (by kernel_rfl) (by kernel_rfl) (fun _ _ _ h => h) HS (by kernel_rfl) (fun W _ => run_bin rfl rfl rfl (gtrN (by omega) W)) ?_; simp only [Act.put, Act.eval, Array.getD_eq_getD_getElem?, List.setIfInBounds_toArray, List.set_cons_succ, List.set_cons_zero, List.getElem?_toArray, List.getElem?_cons_succ, List.getElem?_cons_zero, Option.getD_some])
          (refine h_val 3 rfl (by kernel_rfl) (by kernel_rfl) (by kernel_rfl) (fun _ _ _ h => h) HS (by kernel_rfl) (fun W _ => run_move rfl rfl W) ?_; simp only [Act.put, Act.eval, Array.getD_eq_getD_getElem?, List.setIfInBounds_toArray, List.set_cons_succ, List.set_cons_zero, List.getElem?_toArray, List.getElem?_cons_succ, List.getElem?_cons_zero, Option.getD_some])
          (refine h_skip 4 rfl (by kernel_rfl) (by kernel_rfl) (by kernel_rfl) (fun _ _ _ h => h) HS (by kernel_rfl) ?_; simp only [Act.put, Act.eval, Array.getD_eq_getD_getElem?, List.setIfInBounds_toArray, List.set_cons_succ, List.set_cons_zero, List.getElem?_toArray, List.getElem?_cons_succ, List.getElem?_cons_zero, Option.getD_some])
          (refine h_skip 5 rfl (by kernel_rfl) (by kernel_rfl) (by kernel_rfl) (fun _ _ _ h => h) HS (by kernel_rfl) ?_; simp only [Act.put, Act.eval, Array.getD_eq_getD_getElem?, List.setIfInBounds_toArray, List.set_cons_succ, List.set_cons_zero, List.getElem?_toArray, List.getElem?_cons_succ, List.getElem?_cons_zero, Option.getD_some])
          (refine h_skip 6 rfl (by kernel_rfl) (by kernel_rfl) (by kernel_rfl) (fun _ _ _ h => h) HS (by kernel_rfl) ?_; simp only [Act.put, Act.eval, Array.getD_eq_getD_getElem?, List.setIfInBounds_toArray, List.set_cons_succ, List.set_cons_zero, List.getElem?_toArray, List.getElem?_cons_succ, List.getElem?_cons_zero, Option.getD_some])
          (refine h_skip 7 rfl (by kernel_rfl) (by kernel_rfl) (by kernel_rfl) (fun _ _ _ h => h) HS (by kernel_rfl) ?_; simp only [Act.put, Act.eval, Array.getD_eq_getD_getElem?, List.setIfInBounds_toArray, List.set_cons_succ, List.set_cons_zero, List.getElem?_toArray, List.getElem?_cons_succ, List.getElem?_cons_zero, Option.getD_some])
          (refine h_skip 8 rfl (by kernel_rfl) (by kernel_rfl) (by kernel_rfl) (fun _ _ _ h => h) HS (by kernel_rfl) ?_; simp only [Act.put, Act.eval, Array.getD_eq_getD_getElem?, List.setIfInBounds_toArray, List.set_cons_succ, List.set_cons_zero, List.getElem?_toArray, List.getElem?_cons_succ, List.getElem?_cons_zero, Option.getD_some])
          (refine h_skip 9 rfl (by kernel_rfl) (by kernel_rfl) (by kernel_rfl) (fun _ _ _ h => h) HS (by kernel_rfl) ?_; simp only [Act.put, Act.eval, Array.getD_eq_getD_getElem?, List.setIfInBounds_toArray, List.set_cons_succ, List.set_cons_zero, List.getElem?_toArray, List.getElem?_cons_succ, List.getElem?_cons_zero, Option.getD_some])
          (refine h_skip 10 rfl (by kernel_rfl) (by kernel_rfl) (by kernel_rfl) (fun _ _ _ h => h) HS (by kernel_rfl) ?_; simp only [Act.put, Act.eval, Array.getD_eq_getD_getElem?, List.setIfInBounds_toArray, List.set_cons_succ, List.set_cons_zero, List.getElem?_toArray, List.getElem?_cons_succ, List.getElem?_cons_zero, Option.getD_some])
          (refine h_skip 11 rfl (by kernel_rfl) (by kernel_rfl) (by kernel_rfl) (fun _ _ _ h => h) HS (by kernel_rfl) ?_; simp only [Act.put, Act.eval, Array.getD_eq_getD_getElem?, List.setIfInBounds_toArray, List.set_cons_succ, List.set_cons_zero, List.getElem?_toArray, List.getElem?_cons_succ, List.getElem?_cons_zero, Option.getD_some])
          (refine h_skip 12 rfl (by kernel_rfl) (by kernel_rfl) (by kernel_rfl) (fun _ _ _ h => h) HS (by kernel_rfl) ?_; simp only [Act.put, Act.eval, Array.getD_eq_getD_getElem?, List.setIfInBounds_toArray, List.set_cons_succ, List.set_cons_zero, List.getElem?_toArray, List.getElem?_cons_succ, List.getElem?_cons_zero, Option.getD_some])
          (refine h_skip 13 rfl (by kernel_rfl) (by kernel_rfl) (by kernel_rfl) (fun _ _ _ h => h) HS (by kernel_rfl) ?_; simp only [Act.put, Act.eval, Array.getD_eq_getD_getElem?, List.setIfInBounds_toArray, List.set_cons_succ, List.set_cons_zero, List.getElem?_toArray, List.getElem?_cons_succ, List.getElem?_cons_zero, Option.getD_some])
          (refine h_skip 14 rfl (by kernel_rfl) (by kernel_rfl) (by kernel_rfl) (fun _ _ _ h => h) HS (by kernel_rfl) ?_; simp only [Act.put, Act.eval, Array.getD_eq_getD_getElem?, List.setIfInBounds_toArray, List.set_cons_succ, List.set_cons_zero, List.getElem?_toArray, List.getElem?_cons_succ, List.getElem?_cons_zero, Option.getD_some])
          (refine h_skip 15 rfl (by kernel_rfl) (by kernel_rfl) (by kernel_rfl) (fun _ _ _ h => h) HS (by kernel_rfl) ?_; simp only [Act.put, Act.eval, Array.getD_eq_getD_getElem?, List.setIfInBounds_toArray, List.set_cons_succ, List.set_cons_zero, List.getElem?_toArray, List.getElem?_cons_succ, List.getElem?_cons_zero, Option.getD_some])
          (refine h_val 16 rfl (by kernel_rfl) (by kernel_rfl) (by kernel_rfl) (fun _ _ _ h => h) HS (by kernel_rfl) (fun W _ => run_pickF rfl rfl rfl W) ?_; simp only [Act.put, Act.eval, Array.getD_eq_getD_getElem?, List.setIfInBounds_toArray, List.set_cons_succ, List.set_cons_zero, List.getElem?_toArray, List.getElem?_cons_succ, List.getElem?_cons_zero, Option.getD_some])
          refine h_done (by kernel_rfl) ?_
          clear HS
          go_wp2
          go_roundw
          case rel =>
            refine ⟨i + 1, zs, by omega, by omega, by go_num, HJ.out.1, HJ.out.2.1, ?_, HJ.out.2.2.2.drew⟩
            rw [show min (i + 1) n = i + 1 by omega]
            exact HJ.out.2.2.1.done (.inl rfl)
          case measure => simp [intOf]; omega
    · go_wp2
      go_end0
      exact HR.out _ ys HI.out.1 HI.out.2.1 (by have := HI.out.2.2.1; rwa [show min i n = xs.size by rw [← HN.out]; omega] at this) HI.out.2.2.2

end Go.Proofs.Ytokhbjllgaaogaa
