/- The program's Fork of a cache. No condition beside that it lies there. -/
import Derived.Test.YtokhbjllgaaogaaCOpen
import Derived.Shelf.SlMaps.Clone
namespace Go.Proofs.Ytokhbjllgaaogaa
set_option linter.unusedSimpArgs false
open Go.RowKit Go.Maps
attribute [local irreducible] wpQuiet wpAnyH

set_option maxHeartbeats 1000000 in
set_option maxRecDepth 100000 in
theorem hclone_ok {b : Nat} {l : List (Int × (Int × Bool))} {w : World} {R : Ending → World → Prop} (M : MapAt Try.prog 27 .u32 encH w b l)
    (hR : ∀ w', MapAt Try.prog 27 .u32 encH w' w.heap.size l → Fr No w w' → R (.returned (.map (some w.heap.size))) w') :
    Calls Try.prog 33 #[.map (some b)] w R := by
  obtain ⟨es, clock, hb, F, hsz, hD⟩ := M.owns
  have M' : MapAt Try.prog 27 .u32 encH (w.alloc (.map es clock)) w.heap.size l := ⟨⟨es, clock, heap_alloc_new w _, F, hsz, hD⟩, M.srt, M.wf⟩
  have HR := hid hR
  have hq := fun w => run_eql_map_nil_sl (P := Try.prog) w 55 _ _ (some b) heldU
  clear hR hD F hsz M
  go_enter Try.func33, Try.ntmps33
  go_wp2
  rw [run_callFunc_extern Try.func58 (by kernel_rfl) (by kernel_rfl) (by kernel_rfl) (e := Extern.MapsClone.clone) (by kernel_rfl), run_maps_clone_sl w 55 hb]
  simp only [Result.andThen]
  rw [Oper.upon_value]
  go_wp2
  rw [run_typeAssert_map_sl _ 55 _ _ _ _ heldU]
  simp only [Result.andThen]
  rw [Oper.upon_value]
  go_wp2
  exact HR.out _ M' ((Fr.refl No w).alloc _)

set_option maxHeartbeats 1000000 in
set_option maxRecDepth 100000 in
theorem dclone_ok {b : Nat} {l : List (Int × Int)} {w : World} {R : Ending → World → Prop} (M : MapAt Try.prog 27 .u32 encD w b l)
    (hR : ∀ w', MapAt Try.prog 27 .u32 encD w' w.heap.size l → Fr No w w' → R (.returned (.map (some w.heap.size))) w') :
    Calls Try.prog 34 #[.map (some b)] w R := by
  obtain ⟨es, clock, hb, F, hsz, hD⟩ := M.owns
  have M' : MapAt Try.prog 27 .u32 encD (w.alloc (.map es clock)) w.heap.size l := ⟨⟨es, clock, heap_alloc_new w _, F, hsz, hD⟩, M.srt, M.wf⟩
  have HR := hid hR
  have hq := fun w => run_eql_map_nil_sl (P := Try.prog) w 56 _ _ (some b) dearU
  clear hR hD F hsz M
  go_enter Try.func34, Try.ntmps34
  go_wp2
  rw [run_callFunc_extern Try.func58 (by kernel_rfl) (by kernel_rfl) (by kernel_rfl) (e := Extern.MapsClone.clone) (by kernel_rfl), run_maps_clone_sl w 56 hb]
  simp only [Result.andThen]
  rw [Oper.upon_value]
  go_wp2
  rw [run_typeAssert_map_sl _ 56 _ _ _ _ dearU]
  simp only [Result.andThen]
  rw [Oper.upon_value]
  go_wp2
  exact HR.out _ M' ((Fr.refl No w).alloc _)

set_option maxHeartbeats 1000000 in
set_option maxRecDepth 100000 in
theorem fork_ok {w : World} {p bh bd : Nat} {n k : Int} {hl : HL} {dl : List (Int × Int)} {R : Ending → World → Prop} (C : CacheAt w p n k hl dl bh bd)
    (hR : ∀ w' p' bh' bd', CacheAt w' p' n k hl dl bh' bd' → (∀ b, CacheS p' bh' bd' b → w.heap.size ≤ b) → Fr No w w' → R (.returned (.pointer (some ⟨p', 0, none⟩))) w') :
    Calls Try.prog 18 #[.pointer (some ⟨p, 0, none⟩)] w R := by
  have HR := hid hR
  have HH := hid C
  clear hR C
  go_enter Try.func18, Try.ntmps18
  go_wp2
  refine region_held (n := 21) (Fr No w) follows (by kernel_rfl) ?_
  have HS : (Fr No w) w.drew := (Fr.refl No w).drew
  (refine h_val 0 rfl (by kernel_rfl) (by kernel_rfl) (by kernel_rfl) (fun _ _ _ h => h) HS (by kernel_rfl) (fun W _ => run_move rfl rfl W) ?_; simp only [Act.put, Act.eval, Array.getD_eq_getD_getElem?, List.setIfInBounds_toArray, List.set_cons_succ, List.set_cons_zero, List.getElem?_toArray, List.getElem?_cons_succ, List.getElem?_cons_zero, Option.getD_some])
  (refine h_val 1 rfl (by kernel_rfl) (by kernel_rfl) (by kernel_rfl) (fun _ _ _ h => h) HS (by kernel_rfl) (fun W _ => run_nilCheck rfl rfl W) ?_; simp only [Act.put, Act.eval, Array.getD_eq_getD_getElem?, List.setIfInBounds_toArray, List.set_cons_succ, List.set_cons_zero, List.getElem?_toArray, List.getElem?_cons_succ, List.getElem?_cons_zero, Option.getD_some])
  (refine h_val (v := .pointer (some ⟨p, 0, none⟩)) 2 rfl (by kernel_rfl) (by kernel_rfl) (by kernel_rfl) (fun _ _ _ h => h) HS (by kernel_rfl) (fun W _ => run_field rfl rfl (fun _ => by kernel_rfl) W) ?_; simp only [Act.put, Act.eval, Array.getD_eq_getD_getElem?, List.setIfInBounds_toArray, List.set_cons_succ, List.set_cons_zero, List.getElem?_toArray, List.getElem?_cons_succ, List.getElem?_cons_zero, Option.getD_some])
  (refine h_val (v := .int .i64 n) 3 rfl (by kernel_rfl) (by kernel_rfl) (by kernel_rfl) (fun _ _ _ h => h) HS (by kernel_rfl) (fun W hW => run_loadv rfl rfl (var_cell intU rfl (cell_at (hW.keep HH.out.head (fun h => h)) rfl))) ?_; simp only [Act.put, Act.eval, Array.getD_eq_getD_getElem?, List.setIfInBounds_toArray, List.set_cons_succ, List.set_cons_zero, List.getElem?_toArray, List.getElem?_cons_succ, List.getElem?_cons_zero, Option.getD_some])
  (refine h_val 4 rfl (by kernel_rfl) (by kernel_rfl) (by kernel_rfl) (fun _ _ _ h => h) HS (by kernel_rfl) (fun W _ => run_move rfl rfl W) ?_; simp only [Act.put, Act.eval, Array.getD_eq_getD_getElem?, List.setIfInBounds_toArray, List.set_cons_succ, List.set_cons_zero, List.getElem?_toArray, List.getElem?_cons_succ, List.getElem?_cons_zero, Option.getD_some])
  (refine h_val 5 rfl (by kernel_rfl) (by kernel_rfl) (by kernel_rfl) (fun _ _ _ h => h) HS (by kernel_rfl) (fun W _ => run_nilCheck rfl rfl W) ?_; simp only [Act.put, Act.eval, Array.getD_eq_getD_getElem?, List.setIfInBounds_toArray, List.set_cons_succ, List.set_cons_zero, List.getElem?_toArray, List.getElem?_cons_succ, List.getElem?_cons_zero, Option.getD_some])
  (refine h_val (v := .pointer (some ⟨p, 1, none⟩)) 6 rfl (by kernel_rfl) (by kernel_rfl) (by kernel_rfl) (fun _ _ _ h => h) HS (by kernel_rfl) (fun W _ => run_field rfl rfl (fun _ => by kernel_rfl) W) ?_; simp only [Act.put, Act.eval, Array.getD_eq_getD_getElem?, List.setIfInBounds_toArray, List.set_cons_succ, List.set_cons_zero, List.getElem?_toArray, List.getElem?_cons_succ, List.getElem?_cons_zero, Option.getD_some])
  (refine h_val (v := .int .i64 k) 7 rfl (by kernel_rfl) (by kernel_rfl) (by kernel_rfl) (fun _ _ _ h => h) HS (by kernel_rfl) (fun W hW => run_loadv rfl rfl (var_cell intU rfl (cell_at (hW.keep HH.out.head (fun h => h)) rfl))) ?_; simp only [Act.put, Act.eval, Array.getD_eq_getD_getElem?, List.setIfInBounds_toArray, List.set_cons_succ, List.set_cons_zero, List.getElem?_toArray, List.getElem?_cons_succ, List.getElem?_cons_zero, Option.getD_some])
  (refine h_val 8 rfl (by kernel_rfl) (by kernel_rfl) (by kernel_rfl) (fun _ _ _ h => h) HS (by kernel_rfl) (fun W _ => run_move rfl rfl W) ?_; simp only [Act.put, Act.eval, Array.getD_eq_getD_getElem?, List.setIfInBounds_toArray, List.set_cons_succ, List.set_cons_zero, List.getElem?_toArray, List.getElem?_cons_succ, List.getElem?_cons_zero, Option.getD_some])
  (refine h_val 9 rfl (by kernel_rfl) (by kernel_rfl) (by kernel_rfl) (fun _ _ _ h => h) HS (by kernel_rfl) (fun W _ => run_nilCheck rfl rfl W) ?_; simp only [Act.put, Act.eval, Array.getD_eq_getD_getElem?, List.setIfInBounds_toArray, List.set_cons_succ, List.set_cons_zero, List.getElem?_toArray, List.getElem?_cons_succ, List.getElem?_cons_zero, Option.getD_some])
  (refine h_val (v := .pointer (some ⟨p, 2, none⟩)) 10 rfl (by kernel_rfl) (by kernel_rfl) (by kernel_rfl) (fun _ _ _ h => h) HS (by kernel_rfl) (fun W _ => run_field rfl rfl (fun _ => by kernel_rfl) W) ?_; simp only [Act.put, Act.eval, Array.getD_eq_getD_getElem?, List.setIfInBounds_toArray, List.set_cons_succ, List.set_cons_zero, List.getElem?_toArray, List.getElem?_cons_succ, List.getElem?_cons_zero, Option.getD_some])
  (refine h_val (v := .map (some bh)) 11 rfl (by kernel_rfl) (by kernel_rfl) (by kernel_rfl) (fun _ _ _ h => h) HS (by kernel_rfl) (fun W hW => run_loadv rfl rfl (var_cell heldU rfl (cell_at (hW.keep HH.out.head (fun h => h)) rfl))) ?_; simp only [Act.put, Act.eval, Array.getD_eq_getD_getElem?, List.setIfInBounds_toArray, List.set_cons_succ, List.set_cons_zero, List.getElem?_toArray, List.getElem?_cons_succ, List.getElem?_cons_zero, Option.getD_some])
  (refine h_val 13 rfl (by kernel_rfl) (by kernel_rfl) (by kernel_rfl) (fun _ _ _ h => h) HS (by kernel_rfl) (fun W _ => run_move rfl rfl W) ?_; simp only [Act.put, Act.eval, Array.getD_eq_getD_getElem?, List.setIfInBounds_toArray, List.set_cons_succ, List.set_cons_zero, List.getElem?_toArray, List.getElem?_cons_succ, List.getElem?_cons_zero, Option.getD_some])
  (refine h_val 14 rfl (by kernel_rfl) (by kernel_rfl) (by kernel_rfl) (fun _ _ _ h => h) HS (by kernel_rfl) (fun W _ => run_nilCheck rfl rfl W) ?_; simp only [Act.put, Act.eval, Array.getD_eq_getD_getElem?, List.setIfInBounds_toArray, List.set_cons_succ, List.set_cons_zero, List.getElem?_toArray, List.getElem?_cons_succ, List.getElem?_cons_zero, Option.getD_some])
  (refine h_val (v := .pointer (some ⟨p, 3, none⟩)) 15 rfl (by kernel_rfl) (by kernel_rfl) (by kernel_rfl) (fun _ _ _ h => h) HS (by kernel_rfl) (fun W _ => run_field rfl rfl (fun _ => by kernel_rfl) W) ?_; simp only [Act.put, Act.eval, Array.getD_eq_getD_getElem?, List.setIfInBounds_toArray, List.set_cons_succ, List.set_cons_zero, List.getElem?_toArray, List.getElem?_cons_succ, List.getElem?_cons_zero, Option.getD_some])
  (refine h_val (v := .map (some bd)) 16 rfl (by kernel_rfl) (by kernel_rfl) (by kernel_rfl) (fun _ _ _ h => h) HS (by kernel_rfl) (fun W hW => run_loadv rfl rfl (var_cell dearU rfl (cell_at (hW.keep HH.out.head (fun h => h)) rfl))) ?_; simp only [Act.put, Act.eval, Array.getD_eq_getD_getElem?, List.setIfInBounds_toArray, List.set_cons_succ, List.set_cons_zero, List.getElem?_toArray, List.getElem?_cons_succ, List.getElem?_cons_zero, Option.getD_some])
  refine h_call (args := #[.map (some bh)]) 12 (by kernel_rfl) rfl (by kernel_rfl) (run_callf1 (g := 33) (v := .map (some bh)) (fun _ _ => by kernel_rfl) rfl rfl _) ?_
  refine hclone_ok (HH.out.held.fr HS (fun h => h)) ?_
  intro w1 m1 hf1
  have M1 := hid m1
  have F1 := hid hf1
  have HS1 := HS.no hf1
  clear HS m1 hf1
  have HS := HS1
  refine ⟨HS, ?_⟩
  clear HS1
  simp only [Act.put, Act.eval, Array.getD_eq_getD_getElem?, List.setIfInBounds_toArray, List.set_cons_succ, List.set_cons_zero, List.getElem?_toArray, List.getElem?_cons_succ, List.getElem?_cons_zero, Option.getD_some]
  refine h_call (args := #[.map (some bd)]) 17 (by kernel_rfl) rfl (by kernel_rfl) (run_callf1 (g := 34) (v := .map (some bd)) (fun _ _ => by kernel_rfl) rfl rfl _) ?_
  refine dclone_ok (HH.out.dear.fr HS (fun h => h)) ?_
  intro w2 m2 hf2
  have M2 := hid m2
  have F2 := hid hf2
  have HS1 := HS.no hf2
  clear HS m2 hf2
  have HS := HS1
  refine ⟨HS, ?_⟩
  clear HS1
  simp only [Act.put, Act.eval, Array.getD_eq_getD_getElem?, List.setIfInBounds_toArray, List.set_cons_succ, List.set_cons_zero, List.getElem?_toArray, List.getElem?_cons_succ, List.getElem?_cons_zero, Option.getD_some]
  (refine h_val (v := .agg #[.int .i64 n, .int .i64 k, .map (some w.drew.heap.size), .map (some w1.heap.size)]) 18 rfl (by kernel_rfl) (by kernel_rfl) (by kernel_rfl) (fun _ _ _ h => h) HS (by kernel_rfl) (fun W _ => by kernel_rfl) ?_; simp only [Act.put, Act.eval, Array.getD_eq_getD_getElem?, List.setIfInBounds_toArray, List.set_cons_succ, List.set_cons_zero, List.getElem?_toArray, List.getElem?_cons_succ, List.getElem?_cons_zero, Option.getD_some])
  (refine h_one 19 (by kernel_rfl) rfl (by kernel_rfl) (run_box rfl rfl _) (HS.alloc _) ?_; simp only [Act.put, Act.eval, Array.getD_eq_getD_getElem?, List.setIfInBounds_toArray, List.set_cons_succ, List.set_cons_zero, List.getElem?_toArray, List.getElem?_cons_succ, List.getElem?_cons_zero, Option.getD_some])
  have HS3 : Fr No w (w2.alloc (.cells #[.int .i64 n, .int .i64 k, .map (some w.drew.heap.size), .map (some w1.heap.size)] 58)) := HS.alloc _
  clear HS
  have HS := HS3
  (refine h_val 20 rfl (by kernel_rfl) (by kernel_rfl) (by kernel_rfl) (fun _ _ _ h => h) HS (by kernel_rfl) (fun W _ => run_assign rfl rfl W) ?_; simp only [Act.put, Act.eval, Array.getD_eq_getD_getElem?, List.setIfInBounds_toArray, List.set_cons_succ, List.set_cons_zero, List.getElem?_toArray, List.getElem?_cons_succ, List.getElem?_cons_zero, Option.getD_some])
  refine h_done (by kernel_rfl) ?_
  go_wp2
  have hs1 : w.heap.size ≤ w1.heap.size := F1.out.size
  have hs2 : w1.heap.size ≤ w2.heap.size := F2.out.size
  have hm1 : w.drew.heap.size < w1.heap.size := M1.out.lt
  refine HR.out _ w2.heap.size w.drew.heap.size w1.heap.size ⟨heap_alloc_new w2 _, (M1.out.fr F2.out (fun h => h)).alloc _, M2.out.alloc _, by omega⟩ (fun b hb => ?_) HS
  rcases hb with rfl | rfl | rfl
  · omega
  · exact Nat.le_refl _
  · exact hs1

end Go.Proofs.Ytokhbjllgaaogaa
