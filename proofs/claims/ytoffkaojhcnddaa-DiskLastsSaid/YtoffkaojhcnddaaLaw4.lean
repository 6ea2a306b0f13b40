/- The law DiskReads. No condition beside that the deeds lie there. -/
import Derived.Test.YtoffkaojhcnddaaLaw2
namespace Go.Proofs.Ytoffkaojhcnddaa
set_option linter.unusedSimpArgs false
open Go.RowKit Go.Maps
attribute [local irreducible] wpQuiet wpAnyH

section
variable {B : Nat} {w : World} {p q n bs bm : Nat} {l l2 : List (Int × Array Value)} {s s2 : Nat → Array Value} {R : Ending → World → Prop} {i : Int} {c : Array Value} {e g : Int}

theorem two_writeG (T : Two B w p q n bs bm l s l2 s2) (hc : IsSec c) (hg : wcode n i = g)
    (hR : ∀ w', Two B w' p q n bs bm (wleft l n i c) s l2 s2 → Fr (SS p bs bm q) w w' → R (.returned (.int .i64 g)) w') :
    Calls Try.prog 12 #[.pointer (some ⟨p, 0, none⟩), .int .i64 i, .agg c] w R := by
  subst hg
  exact two_write' T hc hR
end

theorem RV_in {l : List (Int × Array Value)} {s : Nat → Array Value} {n : Nat} {i : Int} {c : Array Value} (h : 0 ≤ i ∧ i < n) : RV (wleft l n i c) s n i = (c, 0) := by
  unfold RV wleft
  rw [if_pos h, if_pos h]
  simp only [val, Int.toNat_of_nonneg h.1, aget_put_same, Option.getD_some]
theorem RV_out {l : List (Int × Array Value)} {s : Nat → Array Value} {n : Nat} {i : Int} (h : ¬ (0 ≤ i ∧ i < n)) : RV l s n i = (Z32, 2) := by
  unfold RV
  rw [if_neg h]
theorem wleft_out {l : List (Int × Array Value)} {n : Nat} {i : Int} {c : Array Value} (h : ¬ (0 ≤ i ∧ i < n)) : wleft l n i c = l := by
  unfold wleft
  rw [if_neg h]

/-- The world behind a box of a deed. -/
abbrev boxed (w : World) (d : Array Value) : World := w.alloc (.cells d 32)

set_option maxHeartbeats 4000000 in
set_option maxRecDepth 100000 in
theorem reads_ok {w : World} {R : Ending → World → Prop} {x k a y : Int} {ka : Option Addr} {km kc : Nat} {v : Value} {ds : List Dd} (h0 : 0 ≤ x) (h1 : x < 256) (hy0 : 0 ≤ y) (hy1 : y < 256) (D : Deeds w.heap.size w v ds) (hR : ∀ w', Fr No w w' → R (.returned (.bool true)) w') :
    Calls Try.prog 4 #[.int .u8 x, v, .agg (deed k a y (.slice ka km kc))] w R := by
  have HR := hid hR
  have HX := hid (And.intro h0 h1)
  have HY := hid (secOf_is hy0 hy1)
  have HY0 := hid (And.intro hy0 hy1)
  have F0 : Hid (Fr No w (boxed w (deed k a y (.slice ka km kc)))) := (Fr.refl No w).alloc _
  have HB : Hid ((boxed w (deed k a y (.slice ka km kc))).heap[w.heap.size]? = some (.cells (deed k a y (.slice ka km kc)) 32 (0, 0))) := heap_alloc_new w _
  have HLT : Hid (w.heap.size < (boxed w (deed k a y (.slice ka km kc))).heap.size) := lt_of_heap HB.out
  have HD : Hid (Deeds (boxed w (deed k a y (.slice ka km kc))).heap.size (boxed w (deed k a y (.slice ka km kc))) v ds) := (D.up F0.out.any).mono (Nat.le_of_lt HLT.out)
  clear hR D h0 h1 hy0 hy1
  obtain ⟨_, da, dc, rfl, _⟩ := id HD.out.row
  go_enter Try.func4, Try.ntmps4
  go_wp2_with (first
    | (go_at_call 9; refine play_ok HX.out.1 HX.out.2 HD.out (Nat.le_refl _) ?_; intro w1 p q n bs bm l s t1 _ hf; have T1 := hid t1; have F1 := hid hf; clear t1 hf)
    | (go_at_call 10; refine live_ok ?_; intro w2 hf; have T2 := hid (T1.out.no hf); have F2 := hid (F1.out.no hf); clear hf))
  obtain ⟨g, hg⟩ : ∃ g, wcode n a = g := ⟨_, rfl⟩
  have HG := hid hg
  clear hg
  have NB : Hid (¬ SS p bs bm q w.heap.size) := fun h => by have := (T2.out.lo _ h).1; have := HLT.out; omega
  refine region_held (n := 8) (fun W => W.heap[w.heap.size]? = some (.cells (deed k a y (.slice ka km kc)) 32 (0, 0))) follows (by kernel_rfl) ?_
  have HS : (fun W : World => W.heap[w.heap.size]? = some (.cells (deed k a y (.slice ka km kc)) 32 (0, 0))) w2.drew := F2.out.drew.keep HB.out (fun h => Nat.lt_irrefl _ (Nat.lt_of_lt_of_le HLT.out h))
  (refine h_val 0 rfl (by kernel_rfl) (by kernel_rfl) (by kernel_rfl) (fun _ _ _ h => h) HS (by kernel_rfl) (fun W _ => run_move rfl rfl W) ?_; simp only [Act.put, Act.eval, Array.getD_eq_getD_getElem?, List.setIfInBounds_toArray, List.set_cons_succ, List.set_cons_zero, List.getElem?_toArray, List.getElem?_cons_succ, List.getElem?_cons_zero, Option.getD_some])
  (refine h_val 1 rfl (by kernel_rfl) (by kernel_rfl) (by kernel_rfl) (fun _ _ _ h => h) HS (by kernel_rfl) (fun W _ => run_field rfl rfl (fieldE1 w.heap.size) W) ?_; simp only [Act.put, Act.eval, Array.getD_eq_getD_getElem?, List.setIfInBounds_toArray, List.set_cons_succ, List.set_cons_zero, List.getElem?_toArray, List.getElem?_cons_succ, List.getElem?_cons_zero, Option.getD_some])
  (refine h_val (v := .int .i64 a) 2 rfl (by kernel_rfl) (by kernel_rfl) (by kernel_rfl) (fun _ _ _ h => h) HS (by kernel_rfl) (fun W hW => run_loadv rfl rfl (var_cell intU rfl (cell_at hW rfl))) ?_; simp only [Act.put, Act.eval, Array.getD_eq_getD_getElem?, List.setIfInBounds_toArray, List.set_cons_succ, List.set_cons_zero, List.getElem?_toArray, List.getElem?_cons_succ, List.getElem?_cons_zero, Option.getD_some])
  (refine h_val 3 rfl (by kernel_rfl) (by kernel_rfl) (by kernel_rfl) (fun _ _ _ h => h) HS (by kernel_rfl) (fun W _ => run_field rfl rfl (fieldE2 w.heap.size) W) ?_; simp only [Act.put, Act.eval, Array.getD_eq_getD_getElem?, List.setIfInBounds_toArray, List.set_cons_succ, List.set_cons_zero, List.getElem?_toArray, List.getElem?_cons_succ, List.getElem?_cons_zero, Option.getD_some])
  (refine h_val (v := .int .u8 y) 4 rfl (by kernel_rfl) (by kernel_rfl) (by kernel_rfl) (fun _ _ _ h => h) HS (by kernel_rfl) (fun W hW => run_loadv rfl rfl (var_cell byteU rfl (cell_at hW rfl))) ?_; simp only [Act.put, Act.eval, Array.getD_eq_getD_getElem?, List.setIfInBounds_toArray, List.set_cons_succ, List.set_cons_zero, List.getElem?_toArray, List.getElem?_cons_succ, List.getElem?_cons_zero, Option.getD_some])
  refine h_call (args := #[.int .u8 y]) 5 (by kernel_rfl) rfl (by kernel_rfl) (run_callf1 (g := 13) (v := .int .u8 y) (fun _ _ => by kernel_rfl) rfl rfl _) ?_
  refine sector_ok HY0.out.1 HY0.out.2 ?_
  intro w3 hf3
  have T3 := T2.out.no (((Fr.refl No _).drew).no hf3)
  have F3 := hid (F2.out.no (((Fr.refl No _).drew).no hf3))
  have HS1 := hf3.keep HS (fun h => h)
  clear HS
  have HS := HS1
  refine ⟨HS, ?_⟩
  clear HS1
  simp only [Act.put, Act.eval, Array.getD_eq_getD_getElem?, List.setIfInBounds_toArray, List.set_cons_succ, List.set_cons_zero, List.getElem?_toArray, List.getElem?_cons_succ, List.getElem?_cons_zero, Option.getD_some]
  refine h_call (args := #[.pointer (some ⟨p, 0, none⟩), .int .i64 a, .agg (secOf y)]) 6 (by kernel_rfl) rfl (by kernel_rfl) (run_callf3 (g := 12) (v := .pointer (some ⟨p, 0, none⟩)) (z := .int .i64 a) (y := .agg (secOf y)) (fun _ _ => by kernel_rfl) rfl rfl rfl rfl _) ?_
  refine two_writeG T3 HY.out HG.out ?_
  intro w4 t4 hf4
  have T4 := hid t4
  have F4 : Hid (Fr (Up (boxed w (deed k a y (.slice ka km kc))).heap.size) (boxed w (deed k a y (.slice ka km kc))) w4) := F3.out.trans hf4 (fun _ h => .inl (T3.lo _ h).1)
  have HS1 := hf4.keep HS NB.out
  clear HS
  have HS := HS1
  refine ⟨HS, ?_⟩
  clear HS1
  simp only [Act.put, Act.eval, Array.getD_eq_getD_getElem?, List.setIfInBounds_toArray, List.set_cons_succ, List.set_cons_zero, List.getElem?_toArray, List.getElem?_cons_succ, List.getElem?_cons_zero, Option.getD_some]
  (refine h_val 7 rfl (by kernel_rfl) (by kernel_rfl) (by kernel_rfl) (fun _ _ _ h => h) HS (by kernel_rfl) (fun W _ => run_assign rfl rfl W) ?_; simp only [Act.put, Act.eval, Array.getD_eq_getD_getElem?, List.setIfInBounds_toArray, List.set_cons_succ, List.set_cons_zero, List.getElem?_toArray, List.getElem?_cons_succ, List.getElem?_cons_zero, Option.getD_some])
  refine h_done (by kernel_rfl) ?_
  have HS4 := hid HS
  clear HS T3 t4 hf3 hf4
  have c1 : w4.cell? ⟨w.heap.size, 1, none⟩ = some (.int .i64 a) := cell_at HS4.out rfl
  have HZ := hid Z32_is
  by_cases hin : 0 ≤ a ∧ a < n
  · obtain rfl : g = 0 := by rw [← HG.out]; exact if_pos hin
    have HRV : Hid (RV (wleft l n a (secOf y)) s n a = (secOf y, 0)) := RV_in hin
    have hz : Hid (Z32.size = (secOf y).size) := by show _ = _; rw [HY.out.1]; exact Z32_is.1
    clear hin
    go_wp2_with (first
      | (go_at_call 14; refine two_read' T4.out HRV.out ?_; intro w5 hf5; have T5 := hid (T4.out.no hf5); have F5 := hid (F4.out.no hf5); have HS5 := hid (hf5.keep HS4.out (fun h => h)); clear hf5 c1)
      | (refine wpList_allocRow rfl rfl (zeroSec _) ?_)
      | (refine wpList_storeNew (x := .tmp 11) rfl rfl rfl rfl (heap_alloc_new _ _) HY.out.info hz.out HY.out.one (World.setRow_alloc_new _ _ _ _) ?_))
    have NB5 := hid T5.out.notSS
    have T6 := T5.out.no (((Fr.refl No _).alloc (.cells (secOf y) 36)).drew)
    have G6 := hid ((F5.out.alloc (.cells (secOf y) 36)).drew)
    have HS6 : Hid ((w5.alloc (.cells (secOf y) 36)).drew.heap[w.heap.size]? = some (.cells (deed k a y (.slice ka km kc)) 32 (0, 0)) ∧ (w5.alloc (.cells (secOf y) 36)).drew.heap[w5.heap.size]? = some (.cells (secOf y) 36 (0, 0))) := ⟨alloc_keep HS5.out _, heap_alloc_new w5 _⟩
    refine region_held (n := 7) (fun W => W.heap[w.heap.size]? = some (.cells (deed k a y (.slice ka km kc)) 32 (0, 0)) ∧ W.heap[w5.heap.size]? = some (.cells (secOf y) 36 (0, 0))) follows (by kernel_rfl) ?_
    have HS := HS6.out
    (refine h_val 0 rfl (by kernel_rfl) (by kernel_rfl) (by kernel_rfl) (fun _ _ _ h => h) HS (by kernel_rfl) (fun W _ => run_move rfl rfl W) ?_; simp only [Act.put, Act.eval, Array.getD_eq_getD_getElem?, List.setIfInBounds_toArray, List.set_cons_succ, List.set_cons_zero, List.getElem?_toArray, List.getElem?_cons_succ, List.getElem?_cons_zero, Option.getD_some])
    (refine h_val 1 rfl (by kernel_rfl) (by kernel_rfl) (by kernel_rfl) (fun _ _ _ h => h) HS (by kernel_rfl) (fun W _ => run_field rfl rfl (fieldE1 w.heap.size) W) ?_; simp only [Act.put, Act.eval, Array.getD_eq_getD_getElem?, List.setIfInBounds_toArray, List.set_cons_succ, List.set_cons_zero, List.getElem?_toArray, List.getElem?_cons_succ, List.getElem?_cons_zero, Option.getD_some])
    (refine h_val (v := .int .i64 a) 2 rfl (by kernel_rfl) (by kernel_rfl) (by kernel_rfl) (fun _ _ _ h => h) HS (by kernel_rfl) (fun W hW => run_loadv rfl rfl (var_cell intU rfl (cell_at hW.1 rfl))) ?_; simp only [Act.put, Act.eval, Array.getD_eq_getD_getElem?, List.setIfInBounds_toArray, List.set_cons_succ, List.set_cons_zero, List.getElem?_toArray, List.getElem?_cons_succ, List.getElem?_cons_zero, Option.getD_some])
    (refine h_val 3 rfl (by kernel_rfl) (by kernel_rfl) (by kernel_rfl) (fun _ _ _ h => h) HS (by kernel_rfl) (fun W _ => run_field rfl rfl (fieldE2 w.heap.size) W) ?_; simp only [Act.put, Act.eval, Array.getD_eq_getD_getElem?, List.setIfInBounds_toArray, List.set_cons_succ, List.set_cons_zero, List.getElem?_toArray, List.getElem?_cons_succ, List.getElem?_cons_zero, Option.getD_some])
    (refine h_val (v := .int .u8 y) 4 rfl (by kernel_rfl) (by kernel_rfl) (by kernel_rfl) (fun _ _ _ h => h) HS (by kernel_rfl) (fun W hW => run_loadv rfl rfl (var_cell byteU rfl (cell_at hW.1 rfl))) ?_; simp only [Act.put, Act.eval, Array.getD_eq_getD_getElem?, List.setIfInBounds_toArray, List.set_cons_succ, List.set_cons_zero, List.getElem?_toArray, List.getElem?_cons_succ, List.getElem?_cons_zero, Option.getD_some])
    refine h_call (args := #[.int .u8 y]) 5 (by kernel_rfl) rfl (by kernel_rfl) (run_callf1 (g := 13) (v := .int .u8 y) (fun _ _ => by kernel_rfl) rfl rfl _) ?_
    refine sector_ok HY0.out.1 HY0.out.2 ?_
    intro w6 hf6
    have T7 := T6.no hf6
    have G7 := hid (G6.out.no hf6)
    have HS1 := And.intro (hf6.keep HS.1 (fun h => h)) (hf6.keep HS.2 (fun h => h))
    clear HS
    have HS := HS1
    refine ⟨HS, ?_⟩
    clear HS1
    simp only [Act.put, Act.eval, Array.getD_eq_getD_getElem?, List.setIfInBounds_toArray, List.set_cons_succ, List.set_cons_zero, List.getElem?_toArray, List.getElem?_cons_succ, List.getElem?_cons_zero, Option.getD_some]
    refine h_call (args := #[.pointer (some ⟨q, 0, none⟩), .int .i64 a, .agg (secOf y)]) 6 (by kernel_rfl) rfl (by kernel_rfl) (run_callf3 (g := 15) (v := .pointer (some ⟨q, 0, none⟩)) (z := .int .i64 a) (y := .agg (secOf y)) (fun _ _ => by kernel_rfl) rfl rfl rfl rfl _) ?_
    refine two_writeR' T7 HY.out ?_
    intro w7 t8 hf7
    have T8 := hid t8
    have G8 : Hid (Fr (Up (boxed w (deed k a y (.slice ka km kc))).heap.size) (boxed w (deed k a y (.slice ka km kc))) w7) := G7.out.trans hf7 (fun _ h => .inl (T7.lo _ h).1)
    have HS1 := And.intro (hf7.keep HS.1 NB.out) (hf7.keep HS.2 NB5.out)
    clear HS
    have HS := HS1
    refine ⟨HS, ?_⟩
    clear HS1
    simp only [Act.put, Act.eval, Array.getD_eq_getD_getElem?, List.setIfInBounds_toArray, List.set_cons_succ, List.set_cons_zero, List.getElem?_toArray, List.getElem?_cons_succ, List.getElem?_cons_zero, Option.getD_some]
    refine h_done (by kernel_rfl) ?_
    have HS8 := hid HS
    clear HS T6 T7 t8 hf6 hf7
    go_wp2_with (first
      | (go_at_call 11; refine same_ok T8.out (fun _ _ => rfl) rfl ?_; intro w8 hf; have T9 := hid (T8.out.no hf); have G9 := hid (G8.out.no hf); have HS9 := hid (And.intro (hf.keep HS8.out.1 (fun h => h)) (hf.keep HS8.out.2 (fun h => h))); clear hf)
      | (go_at_call 16; refine two_flush T9.out ?_; intro w9 t hf; have T10 := hid t; have G10 : Hid (Fr (Up (boxed w (deed k a y (.slice ka km kc))).heap.size) (boxed w (deed k a y (.slice ka km kc))) w9) := G9.out.trans hf (fun _ h => .inl (T9.out.lo _ h).1); have HS10 := hid (And.intro (hf.keep HS9.out.1 NB.out) (hf.keep HS9.out.2 NB5.out)); clear t hf)
      | (go_at_call 17; refine two_flushR T10.out ?_; intro w10 t hf; have T11 := hid t; have G11 : Hid (Fr (Up (boxed w (deed k a y (.slice ka km kc))).heap.size) (boxed w (deed k a y (.slice ka km kc))) w10) := G10.out.trans hf (fun _ h => .inl (T10.out.lo _ h).1); have HS11 := hid (And.intro (hf.keep HS10.out.1 NB.out) (hf.keep HS10.out.2 NB5.out)); clear t hf))
    refine region_held (n := 24) (fun W => W.heap[w.heap.size]? = some (.cells (deed k a y (.slice ka km kc)) 32 (0, 0)) ∧ W.heap[w5.heap.size]? = some (.cells (secOf y) 36 (0, 0))) follows (by kernel_rfl) ?_
    have HS : (fun W : World => W.heap[w.heap.size]? = some (.cells (deed k a y (.slice ka km kc)) 32 (0, 0)) ∧ W.heap[w5.heap.size]? = some (.cells (secOf y) 36 (0, 0))) w10.drew := HS11.out
    (refine h_val 0 rfl (by kernel_rfl) (by kernel_rfl) (by kernel_rfl) (fun _ _ _ h => h) HS (by kernel_rfl) (fun W _ => run_move rfl rfl W) ?_; simp only [Act.put, Act.eval, Array.getD_eq_getD_getElem?, List.setIfInBounds_toArray, List.set_cons_succ, List.set_cons_zero, List.getElem?_toArray, List.getElem?_cons_succ, List.getElem?_cons_zero, Option.getD_some])
    (refine h_val (v := .bool true) 1 rfl (by kernel_rfl) (by kernel_rfl) (by kernel_rfl) (fun _ _ _ h => h) HS (by kernel_rfl) (fun W _ => run_bin rfl rfl rfl (eqlCode _ W)) ?_; simp only [Act.put, Act.eval, Array.getD_eq_getD_getElem?, List.setIfInBounds_toArray, List.set_cons_succ, List.set_cons_zero, List.getElem?_toArray, List.getElem?_cons_succ, List.getElem?_cons_zero, Option.getD_some])
    (refine h_val 2 rfl (by kernel_rfl) (by kernel_rfl) (by kernel_rfl) (fun _ _ _ h => h) HS (by kernel_rfl) (fun W _ => run_move rfl rfl W) ?_; simp only [Act.put, Act.eval, Array.getD_eq_getD_getElem?, List.setIfInBounds_toArray, List.set_cons_succ, List.set_cons_zero, List.getElem?_toArray, List.getElem?_cons_succ, List.getElem?_cons_zero, Option.getD_some])
    (refine h_val (v := .agg (secOf y)) 3 rfl (by kernel_rfl) (by kernel_rfl) (by kernel_rfl) (fun _ _ _ h => h) HS (by kernel_rfl) (fun W hW => run_loadv rfl rfl (var_row hW.2 sectorU HY.out.info)) ?_; simp only [Act.put, Act.eval, Array.getD_eq_getD_getElem?, List.setIfInBounds_toArray, List.set_cons_succ, List.set_cons_zero, List.getElem?_toArray, List.getElem?_cons_succ, List.getElem?_cons_zero, Option.getD_some])
    (refine h_val 4 rfl (by kernel_rfl) (by kernel_rfl) (by kernel_rfl) (fun _ _ _ h => h) HS (by kernel_rfl) (fun W _ => run_field rfl rfl (fieldE2 w.heap.size) W) ?_; simp only [Act.put, Act.eval, Array.getD_eq_getD_getElem?, List.setIfInBounds_toArray, List.set_cons_succ, List.set_cons_zero, List.getElem?_toArray, List.getElem?_cons_succ, List.getElem?_cons_zero, Option.getD_some])
    (refine h_val (v := .int .u8 y) 5 rfl (by kernel_rfl) (by kernel_rfl) (by kernel_rfl) (fun _ _ _ h => h) HS (by kernel_rfl) (fun W hW => run_loadv rfl rfl (var_cell byteU rfl (cell_at hW.1 rfl))) ?_; simp only [Act.put, Act.eval, Array.getD_eq_getD_getElem?, List.setIfInBounds_toArray, List.set_cons_succ, List.set_cons_zero, List.getElem?_toArray, List.getElem?_cons_succ, List.getElem?_cons_zero, Option.getD_some])
    refine h_call (args := #[.int .u8 y]) 6 (by kernel_rfl) rfl (by kernel_rfl) (run_callf1 (g := 13) (v := .int .u8 y) (fun _ _ => by kernel_rfl) rfl rfl _) ?_
    refine sector_ok HY0.out.1 HY0.out.2 ?_
    intro w11 hf
    have T12 := T11.out.no (((Fr.refl No _).drew).no hf)
    have G12 := hid (G11.out.no (((Fr.refl No _).drew).no hf))
    have HS1 := And.intro (hf.keep HS.1 (fun h => h)) (hf.keep HS.2 (fun h => h))
    clear HS
    have HS := HS1
    refine ⟨HS, ?_⟩
    clear HS1 hf
    simp only [Act.put, Act.eval, Array.getD_eq_getD_getElem?, List.setIfInBounds_toArray, List.set_cons_succ, List.set_cons_zero, List.getElem?_toArray, List.getElem?_cons_succ, List.getElem?_cons_zero, Option.getD_some]
    (refine h_val (v := .bool true) 7 rfl (by kernel_rfl) (by kernel_rfl) (by kernel_rfl) (fun _ _ _ h => h) HS (by kernel_rfl) (fun W _ => run_cmp_ints rfl rfl rfl noGuard (eqlSec HY.out HY.out (r := true) (by simp) W)) ?_; simp only [Act.put, Act.eval, Array.getD_eq_getD_getElem?, List.setIfInBounds_toArray, List.set_cons_succ, List.set_cons_zero, List.getElem?_toArray, List.getElem?_cons_succ, List.getElem?_cons_zero, Option.getD_some])
    (refine h_val 8 rfl (by kernel_rfl) (by kernel_rfl) (by kernel_rfl) (fun _ _ _ h => h) HS (by kernel_rfl) (fun W _ => run_pickT rfl rfl rfl W) ?_; simp only [Act.put, Act.eval, Array.getD_eq_getD_getElem?, List.setIfInBounds_toArray, List.set_cons_succ, List.set_cons_zero, List.getElem?_toArray, List.getElem?_cons_succ, List.getElem?_cons_zero, Option.getD_some])
    (refine h_val 9 rfl (by kernel_rfl) (by kernel_rfl) (by kernel_rfl) (fun _ _ _ h => h) HS (by kernel_rfl) (fun W _ => run_move rfl rfl W) ?_; simp only [Act.put, Act.eval, Array.getD_eq_getD_getElem?, List.setIfInBounds_toArray, List.set_cons_succ, List.set_cons_zero, List.getElem?_toArray, List.getElem?_cons_succ, List.getElem?_cons_zero, Option.getD_some])
    (refine h_val 10 rfl (by kernel_rfl) (by kernel_rfl) (by kernel_rfl) (fun _ _ _ h => h) HS (by kernel_rfl) (fun W _ => run_move rfl rfl W) ?_; simp only [Act.put, Act.eval, Array.getD_eq_getD_getElem?, List.setIfInBounds_toArray, List.set_cons_succ, List.set_cons_zero, List.getElem?_toArray, List.getElem?_cons_succ, List.getElem?_cons_zero, Option.getD_some])
    (refine h_val 11 rfl (by kernel_rfl) (by kernel_rfl) (by kernel_rfl) (fun _ _ _ h => h) HS (by kernel_rfl) (fun W _ => run_pickT rfl rfl rfl W) ?_; simp only [Act.put, Act.eval, Array.getD_eq_getD_getElem?, List.setIfInBounds_toArray, List.set_cons_succ, List.set_cons_zero, List.getElem?_toArray, List.getElem?_cons_succ, List.getElem?_cons_zero, Option.getD_some])
    (refine h_val 12 rfl (by kernel_rfl) (by kernel_rfl) (by kernel_rfl) (fun _ _ _ h => h) HS (by kernel_rfl) (fun W _ => run_move rfl rfl W) ?_; simp only [Act.put, Act.eval, Array.getD_eq_getD_getElem?, List.setIfInBounds_toArray, List.set_cons_succ, List.set_cons_zero, List.getElem?_toArray, List.getElem?_cons_succ, List.getElem?_cons_zero, Option.getD_some])
    (refine h_val 13 rfl (by kernel_rfl) (by kernel_rfl) (by kernel_rfl) (fun _ _ _ h => h) HS (by kernel_rfl) (fun W _ => run_move rfl rfl W) ?_; simp only [Act.put, Act.eval, Array.getD_eq_getD_getElem?, List.setIfInBounds_toArray, List.set_cons_succ, List.set_cons_zero, List.getElem?_toArray, List.getElem?_cons_succ, List.getElem?_cons_zero, Option.getD_some])
    (refine h_val 14 rfl (by kernel_rfl) (by kernel_rfl) (by kernel_rfl) (fun _ _ _ h => h) HS (by kernel_rfl) (fun W _ => run_move rfl rfl W) ?_; simp only [Act.put, Act.eval, Array.getD_eq_getD_getElem?, List.setIfInBounds_toArray, List.set_cons_succ, List.set_cons_zero, List.getElem?_toArray, List.getElem?_cons_succ, List.getElem?_cons_zero, Option.getD_some])
    refine h_call (args := #[.pointer (some ⟨p, 0, none⟩), .pointer (some ⟨q, 0, none⟩)]) 15 (by kernel_rfl) rfl (by kernel_rfl) (run_callf2 (g := 11) (v := .pointer (some ⟨p, 0, none⟩)) (z := .pointer (some ⟨q, 0, none⟩)) (fun _ _ => by kernel_rfl) rfl rfl rfl _) ?_
    refine same_ok T12 (fun _ _ => rfl) rfl ?_
    intro w12 hf
    have T13 := T12.no hf
    have G13 := hid (G12.out.no hf)
    have HS1 := And.intro (hf.keep HS.1 (fun h => h)) (hf.keep HS.2 (fun h => h))
    clear HS
    have HS := HS1
    refine ⟨HS, ?_⟩
    clear HS1 hf
    simp only [Act.put, Act.eval, Array.getD_eq_getD_getElem?, List.setIfInBounds_toArray, List.set_cons_succ, List.set_cons_zero, List.getElem?_toArray, List.getElem?_cons_succ, List.getElem?_cons_zero, Option.getD_some]
    (refine h_val 16 rfl (by kernel_rfl) (by kernel_rfl) (by kernel_rfl) (fun _ _ _ h => h) HS (by kernel_rfl) (fun W _ => run_pickT rfl rfl rfl W) ?_; simp only [Act.put, Act.eval, Array.getD_eq_getD_getElem?, List.setIfInBounds_toArray, List.set_cons_succ, List.set_cons_zero, List.getElem?_toArray, List.getElem?_cons_succ, List.getElem?_cons_zero, Option.getD_some])
    (refine h_val 17 rfl (by kernel_rfl) (by kernel_rfl) (by kernel_rfl) (fun _ _ _ h => h) HS (by kernel_rfl) (fun W _ => run_move rfl rfl W) ?_; simp only [Act.put, Act.eval, Array.getD_eq_getD_getElem?, List.setIfInBounds_toArray, List.set_cons_succ, List.set_cons_zero, List.getElem?_toArray, List.getElem?_cons_succ, List.getElem?_cons_zero, Option.getD_some])
    (refine h_val 18 rfl (by kernel_rfl) (by kernel_rfl) (by kernel_rfl) (fun _ _ _ h => h) HS (by kernel_rfl) (fun W _ => run_move rfl rfl W) ?_; simp only [Act.put, Act.eval, Array.getD_eq_getD_getElem?, List.setIfInBounds_toArray, List.set_cons_succ, List.set_cons_zero, List.getElem?_toArray, List.getElem?_cons_succ, List.getElem?_cons_zero, Option.getD_some])
    refine h_call (args := #[.pointer (some ⟨p, 0, none⟩)]) 19 (by kernel_rfl) rfl (by kernel_rfl) (run_callf1 (g := 18) (v := .pointer (some ⟨p, 0, none⟩)) (fun _ _ => by kernel_rfl) rfl rfl _) ?_
    refine two_loose T13 ?_
    intro vl w13 hrow hf
    obtain ⟨_, va, vc, rfl, _⟩ := hrow
    have G14 := hid (G13.out.no hf)
    have HS1 := And.intro (hf.keep HS.1 (fun h => h)) (hf.keep HS.2 (fun h => h))
    clear HS
    have HS := HS1
    refine ⟨HS, ?_⟩
    clear HS1 hf
    simp only [Act.put, Act.eval, Array.getD_eq_getD_getElem?, List.setIfInBounds_toArray, List.set_cons_succ, List.set_cons_zero, List.getElem?_toArray, List.getElem?_cons_succ, List.getElem?_cons_zero, Option.getD_some]
    (refine h_val 20 rfl (by kernel_rfl) (by kernel_rfl) (by kernel_rfl) (fun _ _ _ h => h) HS (by kernel_rfl) (fun W _ => run_lens rfl rfl (intsU) W) ?_; simp only [Act.put, Act.eval, Array.getD_eq_getD_getElem?, List.setIfInBounds_toArray, List.set_cons_succ, List.set_cons_zero, List.getElem?_toArray, List.getElem?_cons_succ, List.getElem?_cons_zero, Option.getD_some])
    (refine h_val (v := .bool true) 21 rfl (by kernel_rfl) (by kernel_rfl) (by kernel_rfl) (fun _ _ _ h => h) HS (by kernel_rfl) (fun W _ => run_bin rfl rfl rfl ((by kernel_rfl))) ?_; simp only [Act.put, Act.eval, Array.getD_eq_getD_getElem?, List.setIfInBounds_toArray, List.set_cons_succ, List.set_cons_zero, List.getElem?_toArray, List.getElem?_cons_succ, List.getElem?_cons_zero, Option.getD_some])
    (refine h_val 22 rfl (by kernel_rfl) (by kernel_rfl) (by kernel_rfl) (fun _ _ _ h => h) HS (by kernel_rfl) (fun W _ => run_pickT rfl rfl rfl W) ?_; simp only [Act.put, Act.eval, Array.getD_eq_getD_getElem?, List.setIfInBounds_toArray, List.set_cons_succ, List.set_cons_zero, List.getElem?_toArray, List.getElem?_cons_succ, List.getElem?_cons_zero, Option.getD_some])
    (refine h_val 23 rfl (by kernel_rfl) (by kernel_rfl) (by kernel_rfl) (fun _ _ _ h => h) HS (by kernel_rfl) (fun W _ => run_assign rfl rfl W) ?_; simp only [Act.put, Act.eval, Array.getD_eq_getD_getElem?, List.setIfInBounds_toArray, List.set_cons_succ, List.set_cons_zero, List.getElem?_toArray, List.getElem?_cons_succ, List.getElem?_cons_zero, Option.getD_some])
    refine h_done (by kernel_rfl) ?_
    clear HS T12 T13
    go_wp2
    exact HR.out _ (F0.out.trans G14.out (fun b hb => .inr (Nat.le_trans (Nat.le_of_lt HLT.out) hb)))
  · obtain rfl : g = 2 := by rw [← HG.out]; exact if_neg hin
    have HRV : Hid (RV (wleft l n a (secOf y)) s n a = (Z32, 2)) := RV_out hin
    have HW : Hid (wleft l n a (secOf y) = l) := wleft_out hin
    clear hin
    go_wp2_with (first
      | (go_at_call 14; refine two_read' T4.out HRV.out ?_; intro w5 hf5; have T5 := hid (T4.out.no hf5); have F5 := hid (F4.out.no hf5); clear hf5 c1)
      | (refine wpList_allocRow rfl rfl (zeroSec _) ?_)
      | (refine wpList_storeNew (x := .tmp 11) rfl rfl rfl rfl (heap_alloc_new _ _) Z32_is.info rfl Z32_is.one (World.setRow_alloc_new _ _ _ _) ?_)
      | (go_at_call 11; refine same_ok ((T5.out.no ((Fr.refl No _).alloc _))) (fun i hi => by rw [HW.out]) (by first | (rw [HW.out]; done) | (rw [HW.out]; rfl)) ?_; intro w6 hf6; have F6 := hid ((F5.out.alloc (.cells Z32 36)).no hf6); clear hf6))
    exact HR.out _ (F0.out.trans F6.out (fun b hb => .inr (Nat.le_trans (Nat.le_of_lt HLT.out) hb)))

end Go.Proofs.Ytoffkaojhcnddaa
