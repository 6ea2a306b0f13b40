/- The program's Walk of a cache. No condition beside that it lies there. -/
import Derived.Test.YtokhbjllgaaogaaCFork
import Derived.Test.YtokhbjllgaaogaaCDel
import Derived.Test.YtokhbjllgaaogaaCDKeys
namespace Go.Proofs.Ytokhbjllgaaogaa
set_option linter.unusedSimpArgs false
open Go.RowKit Go.Maps
attribute [local irreducible] wpQuiet wpAnyH

set_option maxHeartbeats 4000000 in
set_option maxRecDepth 100000 in
theorem cmpF_ok {x y : Int} {w : World} {R : Ending → World → Prop} (hR : R (.returned (.int .i64 (cmp1 x y))) w) : Calls Try.prog 42 #[.int .u32 x, .int .u32 y] w R := by
  unfold cmp1 at hR
  by_cases h1 : x < y
  · rw [if_pos h1] at hR
    have HR := hid hR
    clear hR
    go_enter Try.func42, Try.ntmps42
    go_wp2_with (go_at_call 65; refine isNaN_ok ?_)
    exact HR.out
  · rw [if_neg h1] at hR
    by_cases h2 : y < x
    · rw [if_pos h2] at hR
      have HR := hid hR
      clear hR
      go_enter Try.func42, Try.ntmps42
      go_wp2_with (go_at_call 65; refine isNaN_ok ?_)
      exact HR.out
    · rw [if_neg h2] at hR
      have HR := hid hR
      clear hR
      go_enter Try.func42, Try.ntmps42
      go_wp2_with (go_at_call 65; refine isNaN_ok ?_)
      exact HR.out

/-- The first that is not zero. -/
def or2 (x y : Int) : Int := if x ≠ 0 then x else y

set_option maxHeartbeats 4000000 in
set_option maxRecDepth 100000 in
theorem or2_ok {b : Nat} {x y : Int} {w : World} {R : Ending → World → Prop} (h0 : w.cell? ⟨b, 0, none⟩ = some (.int .i64 x)) (h1 : w.cell? ⟨b, 1, none⟩ = some (.int .i64 y)) (hR : R (.returned (.int .i64 (or2 x y))) w) : Calls Try.prog 40 #[.slice (some ⟨b, 0, none⟩) 2 2] w R := by
  have HR := hid hR
  have HY := hid (show x = 0 → or2 x y = y from fun e => by unfold or2; rw [if_neg (by simp [e])])
  have HX := hid (show x ≠ 0 → or2 x y = x from fun e => by unfold or2; rw [if_pos e])
  clear hR
  go_enter Try.func40, Try.ntmps40
  go_wp2
  go_loop [8] (fun t8 => ∃ k : Nat, k ≤ 2 ∧ t8 = .int .i64 (k : Nat) ∧ Hid ((1 ≤ k → x = 0) ∧ (2 ≤ k → y = 0))) (fun t8 => 2 - (intOf t8).toNat)
  case atStart => exact ⟨0, by omega, rfl, fun h => by omega, fun h => by omega⟩
  case round =>
    obtain ⟨k, hk, rfl, hh⟩ := hrel
    have HK := hid hh.out
    clear hh
    have hc : k = 0 ∨ k = 1 ∨ k = 2 := by omega
    rcases hc with rfl | rfl | rfl
    · by_cases hx : x = 0
      · have HX0 := hid hx
        have hb : (x == 0) = true := by simp [hx]
        have hb2 : (x != 0) = false := by simp [hx]
        clear hx
        go_wp2
        go_round
        case rel => exact ⟨1, by omega, rfl, fun _ => HX0.out, fun h => by omega⟩
        case measure => simp [intOf]
      · have HX1 := hid (HX.out hx)
        have hb2 : (x != 0) = true := by simp [hx]
        go_wp2
        have := HR.out
        rw [HX1.out] at this
        exact this
    · have HX0 := hid (HK.out.1 (by omega))
      by_cases hy : y = 0
      · have HY0 := hid hy
        have hb2 : (y != 0) = false := by simp [hy]
        clear hy
        go_wp2
        go_round
        case rel => exact ⟨2, by omega, rfl, fun _ => HX0.out, fun _ => HY0.out⟩
        case measure => simp [intOf]
      · have hb2 : (y != 0) = true := by simp [hy]
        go_wp2
        have := HR.out
        rw [HY.out HX0.out] at this
        exact this
    · have HX0 := hid (HK.out.1 (by omega))
      have HY0 := hid (HK.out.2 (by omega))
      go_wp2
      have := HR.out
      rw [HY.out HX0.out, HY0.out] at this
      exact this

theorem intsU : Try.prog.underlying 67 = some (.slice 3) := by kernel_rfl
theorem intI : (Try.prog.info? 3).map (fun i => (i.zero, i.size, i.bytes)) = some (some (.int .i64 0), 1, 8) := by kernel_rfl

theorem run_pair {o : Oper} {a : Act} {w : World} {x y : Operand} {i j : Int} (ho : o.op = .buildSlice 67 2 #[(0, x), (1, y)]) (hx : a.eval x = .int .i64 i) (hy : a.eval y = .int .i64 j) :
    (execOp a.eval o).run Try.prog w = .ok (.value (.slice (some ⟨w.heap.size, 0, none⟩) 2 2)) (w.alloc (.cells #[.int .i64 i, .int .i64 j] 3)) := by
  obtain ⟨i0, hi, hz0, hz1, hz2⟩ := info_parts intI
  have h := run_buildSlice (P := Try.prog) w 67 3 2 #[(0, .int .i64 i), (1, .int .i64 j)] #[.int .i64 i, .int .i64 j] i0 (.int .i64 0) intsU hi hz0 (by omega) (by omega) (by rw [hz1]; first | kernel_rfl | (have := Great.fill_whole (k := 1) (by omega) [Value.int .i64 i, Value.int .i64 j] ((Array.range (2 * 1)).map (fun _ => Value.int .i64 0)) (by intro v hv; simp at hv; rcases hv with rfl | rfl <;> rfl) (by simp); simpa [Value.cells] using this))
  unfold execOp
  simp only [ho, List.map_toArray, List.map_cons, List.map_nil, hx, hy, Sem.run_bind, h, Result.andThen_ok]
  rfl

section
variable {w : World} {p bh bd Bx : Nat} {n k a b : Int} {hl : HL} {dl : List (Int × Int)} {R : Ending → World → Prop} {tb : TypeId}

/-- How Walk compares two. -/
def wcmp (dl : List (Int × Int)) (a b : Int) : Int := or2 (cmp1 (dearOf dl b) (dearOf dl a)) (cmp1 a b)
def wkey (dl : List (Int × Int)) (f : Int) : Int := f - dearOf dl f * 4294967296

theorem wcmp_lt {dl : List (Int × Int)} (ha : 0 ≤ a) (ha1 : a < 4294967296) (hb : 0 ≤ b) (hb1 : b < 4294967296) : wcmp dl a b < 0 ↔ wkey dl a < wkey dl b := by
  unfold wcmp or2 wkey cmp1
  generalize dearOf dl a = da
  generalize dearOf dl b = db
  split <;> split <;> (try split) <;> (try split) <;> (try split) <;> simp_all <;> omega

set_option maxHeartbeats 4000000 in
set_option maxRecDepth 100000 in
theorem wcmp_ok (HB : w.heap[Bx]? = some (.cells #[.pointer (some ⟨p, 0, none⟩)] tb (0, 0))) (C : CacheAt w p n k hl dl bh bd) (hwa : (Lit.int .u32 a).wf = true) (hwb : (Lit.int .u32 b).wf = true)
    (hR : ∀ w', Fr No w w' → R (.returned (.int .i64 (wcmp dl a b))) w') : Calls Try.prog 39 #[.int .u32 a, .int .u32 b, .pointer (some ⟨Bx, 0, none⟩)] w R := by
  have HR := hid hR
  have HC := hid C
  have HBX := hid HB
  have HWA := hid hwa
  have HWB := hid hwb
  clear hR C HB hwa hwb
  go_enter Try.func39, Try.ntmps39
  go_wp2
  refine region_held (n := 19) (Fr No w) follows (by kernel_rfl) ?_
  have HS : (Fr No w) w.drew := (Fr.refl No w).drew
  (refine h_val (v := .pointer (some ⟨p, 0, none⟩)) 0 rfl (by kernel_rfl) (by kernel_rfl) (by kernel_rfl) (fun _ _ _ h => h) HS (by kernel_rfl) (fun W hW => run_loadv rfl rfl (var_cell cacheU rfl (cell_at (hW.keep HBX.out (fun h => h)) rfl))) ?_; simp only [Act.put, Act.eval, Array.getD_eq_getD_getElem?, List.setIfInBounds_toArray, List.set_cons_succ, List.set_cons_zero, List.getElem?_toArray, List.getElem?_cons_succ, List.getElem?_cons_zero, Option.getD_some])
  (refine h_val 1 rfl (by kernel_rfl) (by kernel_rfl) (by kernel_rfl) (fun _ _ _ h => h) HS (by kernel_rfl) (fun W _ => run_nilCheck rfl rfl W) ?_; simp only [Act.put, Act.eval, Array.getD_eq_getD_getElem?, List.setIfInBounds_toArray, List.set_cons_succ, List.set_cons_zero, List.getElem?_toArray, List.getElem?_cons_succ, List.getElem?_cons_zero, Option.getD_some])
  (refine h_val (v := .pointer (some ⟨p, 3, none⟩)) 2 rfl (by kernel_rfl) (by kernel_rfl) (by kernel_rfl) (fun _ _ _ h => h) HS (by kernel_rfl) (fun W _ => run_field rfl rfl (fun _ => by kernel_rfl) W) ?_; simp only [Act.put, Act.eval, Array.getD_eq_getD_getElem?, List.setIfInBounds_toArray, List.set_cons_succ, List.set_cons_zero, List.getElem?_toArray, List.getElem?_cons_succ, List.getElem?_cons_zero, Option.getD_some])
  (refine h_val (v := .map (some bd)) 3 rfl (by kernel_rfl) (by kernel_rfl) (by kernel_rfl) (fun _ _ _ h => h) HS (by kernel_rfl) (fun W hW => run_loadv rfl rfl (var_cell dearU rfl (cell_at (hW.keep HC.out.head (fun h => h)) rfl))) ?_; simp only [Act.put, Act.eval, Array.getD_eq_getD_getElem?, List.setIfInBounds_toArray, List.set_cons_succ, List.set_cons_zero, List.getElem?_toArray, List.getElem?_cons_succ, List.getElem?_cons_zero, Option.getD_some])
  (refine h_val 4 rfl (by kernel_rfl) (by kernel_rfl) (by kernel_rfl) (fun _ _ _ h => h) HS (by kernel_rfl) (fun W _ => run_move rfl rfl W) ?_; simp only [Act.put, Act.eval, Array.getD_eq_getD_getElem?, List.setIfInBounds_toArray, List.set_cons_succ, List.set_cons_zero, List.getElem?_toArray, List.getElem?_cons_succ, List.getElem?_cons_zero, Option.getD_some])
  (refine h_val (v := .int .i64 ((aget dl b).getD 0)) 5 rfl (by kernel_rfl) (by kernel_rfl) (by kernel_rfl) (fun _ _ _ h => h) HS (by kernel_rfl) (fun W hW => run_look_op rfl rfl rfl (run_look (d0 := 0) (HC.out.dear.fr hW (fun h => h)) fidU dearU (zeroI _) HWB.out)) ?_; simp only [Act.put, Act.eval, Array.getD_eq_getD_getElem?, List.setIfInBounds_toArray, List.set_cons_succ, List.set_cons_zero, List.getElem?_toArray, List.getElem?_cons_succ, List.getElem?_cons_zero, Option.getD_some])
  (refine h_val (v := .pointer (some ⟨p, 0, none⟩)) 6 rfl (by kernel_rfl) (by kernel_rfl) (by kernel_rfl) (fun _ _ _ h => h) HS (by kernel_rfl) (fun W hW => run_loadv rfl rfl (var_cell cacheU rfl (cell_at (hW.keep HBX.out (fun h => h)) rfl))) ?_; simp only [Act.put, Act.eval, Array.getD_eq_getD_getElem?, List.setIfInBounds_toArray, List.set_cons_succ, List.set_cons_zero, List.getElem?_toArray, List.getElem?_cons_succ, List.getElem?_cons_zero, Option.getD_some])
  (refine h_val 7 rfl (by kernel_rfl) (by kernel_rfl) (by kernel_rfl) (fun _ _ _ h => h) HS (by kernel_rfl) (fun W _ => run_nilCheck rfl rfl W) ?_; simp only [Act.put, Act.eval, Array.getD_eq_getD_getElem?, List.setIfInBounds_toArray, List.set_cons_succ, List.set_cons_zero, List.getElem?_toArray, List.getElem?_cons_succ, List.getElem?_cons_zero, Option.getD_some])
  (refine h_val (v := .pointer (some ⟨p, 3, none⟩)) 8 rfl (by kernel_rfl) (by kernel_rfl) (by kernel_rfl) (fun _ _ _ h => h) HS (by kernel_rfl) (fun W _ => run_field rfl rfl (fun _ => by kernel_rfl) W) ?_; simp only [Act.put, Act.eval, Array.getD_eq_getD_getElem?, List.setIfInBounds_toArray, List.set_cons_succ, List.set_cons_zero, List.getElem?_toArray, List.getElem?_cons_succ, List.getElem?_cons_zero, Option.getD_some])
  (refine h_val (v := .map (some bd)) 9 rfl (by kernel_rfl) (by kernel_rfl) (by kernel_rfl) (fun _ _ _ h => h) HS (by kernel_rfl) (fun W hW => run_loadv rfl rfl (var_cell dearU rfl (cell_at (hW.keep HC.out.head (fun h => h)) rfl))) ?_; simp only [Act.put, Act.eval, Array.getD_eq_getD_getElem?, List.setIfInBounds_toArray, List.set_cons_succ, List.set_cons_zero, List.getElem?_toArray, List.getElem?_cons_succ, List.getElem?_cons_zero, Option.getD_some])
  (refine h_val 10 rfl (by kernel_rfl) (by kernel_rfl) (by kernel_rfl) (fun _ _ _ h => h) HS (by kernel_rfl) (fun W _ => run_move rfl rfl W) ?_; simp only [Act.put, Act.eval, Array.getD_eq_getD_getElem?, List.setIfInBounds_toArray, List.set_cons_succ, List.set_cons_zero, List.getElem?_toArray, List.getElem?_cons_succ, List.getElem?_cons_zero, Option.getD_some])
  (refine h_val (v := .int .i64 ((aget dl a).getD 0)) 11 rfl (by kernel_rfl) (by kernel_rfl) (by kernel_rfl) (fun _ _ _ h => h) HS (by kernel_rfl) (fun W hW => run_look_op rfl rfl rfl (run_look (d0 := 0) (HC.out.dear.fr hW (fun h => h)) fidU dearU (zeroI _) HWA.out)) ?_; simp only [Act.put, Act.eval, Array.getD_eq_getD_getElem?, List.setIfInBounds_toArray, List.set_cons_succ, List.set_cons_zero, List.getElem?_toArray, List.getElem?_cons_succ, List.getElem?_cons_zero, Option.getD_some])
  (refine h_val 13 rfl (by kernel_rfl) (by kernel_rfl) (by kernel_rfl) (fun _ _ _ h => h) HS (by kernel_rfl) (fun W _ => run_move rfl rfl W) ?_; simp only [Act.put, Act.eval, Array.getD_eq_getD_getElem?, List.setIfInBounds_toArray, List.set_cons_succ, List.set_cons_zero, List.getElem?_toArray, List.getElem?_cons_succ, List.getElem?_cons_zero, Option.getD_some])
  (refine h_val 14 rfl (by kernel_rfl) (by kernel_rfl) (by kernel_rfl) (fun _ _ _ h => h) HS (by kernel_rfl) (fun W _ => run_move rfl rfl W) ?_; simp only [Act.put, Act.eval, Array.getD_eq_getD_getElem?, List.setIfInBounds_toArray, List.set_cons_succ, List.set_cons_zero, List.getElem?_toArray, List.getElem?_cons_succ, List.getElem?_cons_zero, Option.getD_some])
  refine h_call (args := #[.int .i64 ((aget dl b).getD 0), .int .i64 ((aget dl a).getD 0)]) 12 (by kernel_rfl) rfl (by kernel_rfl) (run_callf2 (g := 41) (v := .int .i64 ((aget dl b).getD 0)) (z := .int .i64 ((aget dl a).getD 0)) (fun _ _ => by kernel_rfl) rfl rfl rfl _) ?_
  refine compare_ok ?_
  refine ⟨HS, ?_⟩
  simp only [Act.put, Act.eval, Array.getD_eq_getD_getElem?, List.setIfInBounds_toArray, List.set_cons_succ, List.set_cons_zero, List.getElem?_toArray, List.getElem?_cons_succ, List.getElem?_cons_zero, Option.getD_some]
  refine h_call (args := #[.int .u32 a, .int .u32 b]) 15 (by kernel_rfl) rfl (by kernel_rfl) (run_callf2 (g := 42) (v := .int .u32 a) (z := .int .u32 b) (fun _ _ => by kernel_rfl) rfl rfl rfl _) ?_
  refine cmpF_ok ?_
  refine ⟨HS, ?_⟩
  simp only [Act.put, Act.eval, Array.getD_eq_getD_getElem?, List.setIfInBounds_toArray, List.set_cons_succ, List.set_cons_zero, List.getElem?_toArray, List.getElem?_cons_succ, List.getElem?_cons_zero, Option.getD_some]
  (refine h_one 16 (by kernel_rfl) rfl (by kernel_rfl) (run_pair rfl rfl rfl) (HS.alloc _) ?_; simp only [Act.put, Act.eval, Array.getD_eq_getD_getElem?, List.setIfInBounds_toArray, List.set_cons_succ, List.set_cons_zero, List.getElem?_toArray, List.getElem?_cons_succ, List.getElem?_cons_zero, Option.getD_some])
  have HS3 : Fr No w (w.drew.alloc (.cells #[.int .i64 (cmp1 ((aget dl b).getD 0) ((aget dl a).getD 0)), .int .i64 (cmp1 a b)] 3)) := HS.alloc _
  clear HS
  have HS := HS3
  clear HS3
  refine h_call (args := #[.slice (some ⟨w.drew.heap.size, 0, none⟩) 2 2]) 17 (by kernel_rfl) rfl (by kernel_rfl) (run_callf1 (g := 40) (v := .slice (some ⟨w.drew.heap.size, 0, none⟩) 2 2) (fun _ _ => by kernel_rfl) rfl rfl _) ?_
  refine or2_ok (cell_at (heap_alloc_new _ _) rfl) (cell_at (heap_alloc_new _ _) rfl) ?_
  refine ⟨HS, ?_⟩
  simp only [Act.put, Act.eval, Array.getD_eq_getD_getElem?, List.setIfInBounds_toArray, List.set_cons_succ, List.set_cons_zero, List.getElem?_toArray, List.getElem?_cons_succ, List.getElem?_cons_zero, Option.getD_some]
  (refine h_val 18 rfl (by kernel_rfl) (by kernel_rfl) (by kernel_rfl) (fun _ _ _ h => h) HS (by kernel_rfl) (fun W _ => run_assign rfl rfl W) ?_; simp only [Act.put, Act.eval, Array.getD_eq_getD_getElem?, List.setIfInBounds_toArray, List.set_cons_succ, List.set_cons_zero, List.getElem?_toArray, List.getElem?_cons_succ, List.getElem?_cons_zero, Option.getD_some])
  refine h_done (by kernel_rfl) ?_
  go_wp2
  exact HR.out _ HS
end

end Go.Proofs.Ytokhbjllgaaogaa
