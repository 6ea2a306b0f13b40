/- The cache's functions on nil. No condition. -/
import Derived.Test.YtokhbjllgaaogaaCPut
namespace Go.Proofs.Ytokhbjllgaaogaa
set_option linter.unusedSimpArgs false
open Go.RowKit Go.Maps Go.Shelf
attribute [local go_sem] Oper.semAt_some
attribute [local irreducible] wpQuiet wpAnyH

structure NxN (w : World) (s : NS) (W : World) : Prop where
  c : W.heap[w.heap.size]? = some (.cells #[.pointer none] 23 (0, 0))
  b : W.heap[w.heap.size + 1]? = some (.cells #[.int .u32 s.best] 27 (0, 0))
  o : W.heap[w.heap.size + 1 + 1]? = some (.cells #[.bool s.ok] 4 (0, 0))
  l : W.heap[w.heap.size + 1 + 1 + 1]? = some (.cells #[.int .i64 s.l0, .int .i64 s.l1] 65 (0, 0))

theorem NxN.kept {w : World} {s : NS} {W W' : World} (h : NxN w s W) {row : Option Nat} (hg : W.grownBy W' row) (hr : ∀ r, row = some r → ∃ o : Obj, W.heap[r]? = some o ∧ o.isCells = false) : NxN w s W' :=
  ⟨(grownBy_keeps_cells hg hr h.c rfl).trans h.c, (grownBy_keeps_cells hg hr h.b rfl).trans h.b, (grownBy_keeps_cells hg hr h.o rfl).trans h.o, (grownBy_keeps_cells hg hr h.l rfl).trans h.l⟩
theorem NxN.alloc {w : World} {s : NS} {W : World} (h : NxN w s W) (x : Obj) : NxN w s (W.alloc x) := ⟨alloc_keep h.c x, alloc_keep h.b x, alloc_keep h.o x, alloc_keep h.l x⟩

set_option maxHeartbeats 8000000 in
set_option maxRecDepth 100000 in
theorem next_nil_in {w : World} :
    CallsIn Fence.wide 9 Try.prog 16 #[.pointer none] w fun e W' => e = .returned (.tuple #[.int .u32 0, .bool false]) ∧ Below w.heap.size w W' := by
  refine callsIn_of_wp_marks Try.func16 rfl trivial ?_ rfl
  simp only [Try.ntmps16, List.size_toArray, List.length_cons, List.length_nil, Nat.reduceAdd, Nat.reduceSub, Array.replicate_succ, Array.replicate_zero, List.push_toArray, List.append_toArray, List.nil_append, List.cons_append]
  gi_wp2_with (refine ⟨trivial, ?_⟩; refine callsIn_wide.2 (sorted_ok ?_))
  have hA : NxN w ⟨0, false, 0, 0⟩ (((((w.alloc (.cells #[.pointer none] 23)).alloc (.cells #[.int .u32 0] 27)).alloc (.cells #[.bool false] 4)).alloc (.cells #[.int .i64 0, .int .i64 0] 65)).alloc (.cells #[.pointer none] 23)) := by
    refine ⟨?_, ?_, ?_, ?_⟩
    · exact alloc_keep (alloc_keep (alloc_keep (alloc_keep (heap_alloc_new w _) _) _) _) _
    · have := heap_alloc_new (w.alloc (.cells #[.pointer none] 23)) (.cells #[.int .u32 0] 27)
      simp only [World.size_alloc] at this
      exact alloc_keep (alloc_keep (alloc_keep this _) _) _
    · have := heap_alloc_new ((w.alloc (.cells #[.pointer none] 23)).alloc (.cells #[.int .u32 0] 27)) (.cells #[.bool false] 4)
      simp only [World.size_alloc] at this
      exact alloc_keep (alloc_keep this _) _
    · have := heap_alloc_new (((w.alloc (.cells #[.pointer none] 23)).alloc (.cells #[.int .u32 0] 27)).alloc (.cells #[.bool false] 4)) (.cells #[.int .i64 0, .int .i64 0] 65)
      simp only [World.size_alloc] at this
      exact alloc_keep this _
  have hX : (((((w.alloc (.cells #[.pointer none] 23)).alloc (.cells #[.int .u32 0] 27)).alloc (.cells #[.bool false] 4)).alloc (.cells #[.int .i64 0, .int .i64 0] 65)).alloc (.cells #[.pointer none] 23)).heap[w.heap.size + 1 + 1 + 1 + 1]? = some (.cells #[.pointer none] 23 (0, 0)) := by
    have := heap_alloc_new ((((w.alloc (.cells #[.pointer none] 23)).alloc (.cells #[.int .u32 0] 27)).alloc (.cells #[.bool false] 4)).alloc (.cells #[.int .i64 0, .int .i64 0] 65)) (.cells #[.pointer none] 23)
    simpa only [World.size_alloc] using this
  have hB0 : Below w.heap.size w (((((w.alloc (.cells #[.pointer none] 23)).alloc (.cells #[.int .u32 0] 27)).alloc (.cells #[.bool false] 4)).alloc (.cells #[.int .i64 0, .int .i64 0] 65)).alloc (.cells #[.pointer none] 23)) :=
    ((((((Fr.refl No w).alloc _).alloc _).alloc _).alloc _).alloc _).below
  have hsz : (((((w.alloc (.cells #[.pointer none] 23)).alloc (.cells #[.int .u32 0] 27)).alloc (.cells #[.bool false] 4)).alloc (.cells #[.int .i64 0, .int .i64 0] 65)).alloc (.cells #[.pointer none] 23)).heap.size = w.heap.size + 5 := by simp
  obtain ⟨W0, hW0⟩ : ∃ W0, (((((w.alloc (.cells #[.pointer none] 23)).alloc (.cells #[.int .u32 0] 27)).alloc (.cells #[.bool false] 4)).alloc (.cells #[.int .i64 0, .int .i64 0] 65)).alloc (.cells #[.pointer none] 23)) = W0 := ⟨_, rfl⟩
  rw [hW0] at hA hX hB0 hsz ⊢
  clear hW0
  refine wpIn_rangeFunc_ownH rfl (by decide) (gf := 55) (lb := #[.pointer (some ⟨w.heap.size + 1 + 1 + 1 + 1, 0, none⟩)]) rfl trivial (enters_of Try.func55 (by kernel_rfl) rfl)
    (sorted1_nil (Kp := KpS (NxS w)) 8 (w.heap.size + 1 + 1 + 1 + 1) W0 hX) KpS.trans (fun W l o o' _ h hc hw => KpS.putObj o' h hc hw) (Below.refl _ _) (fun _ => rfl)
    (fun (pre : List UH) W => NxN w ⟨0, false, 0, 0⟩ W ∧ Below w.heap.size w W)
    (fun _ _ _ => False)
    (OwnFrom.and (fun s W W' row hs hg hr => hs.kept hg (fun r e => (hr r e).2)) (ownFrom_below (Nat.le_refl _) (by omega)))
    (fun _ _ _ _ _ hs _ _ => hs)
    ⟨hA, hB0⟩
    (fun x a' W => ∃ Bx, w.heap.size + 1 + 1 + 1 < Bx ∧ W.heap[Bx]? = some (.cells #[.int .i64 x.1.2.1, .bool x.1.2.2] 60 (0, 0)) ∧ a' = { tmps := #[.pointer none, .pointer (some ⟨w.heap.size, 0, none⟩), .pointer (some ⟨w.heap.size + 1, 0, none⟩), .pointer (some ⟨w.heap.size + 1 + 1, 0, none⟩), .pointer (some ⟨w.heap.size + 1 + 1 + 1, 0, none⟩), .int .u32 x.1.1, .pointer (some ⟨Bx, 0, none⟩), undef, .pointer none, .func (.func 55) #[] #[.pointer (some ⟨w.heap.size + 1 + 1 + 1 + 1, 0, none⟩)], .int .u32 x.1.1, encH x.1.2, undef, undef, undef, undef, undef, undef, undef, undef, undef, undef, undef, undef, undef, undef, undef, undef, undef, undef, undef, undef, undef, undef, undef, undef, undef, undef], defers := [] })
    (fun x a' _ X Y row hs hg hr => by obtain ⟨Bx, h1, h2, h3⟩ := hs; exact ⟨Bx, h1, (grownBy_keeps_cells hg (fun r e => (hr r e).2) h2 rfl).trans h2, h3⟩)
    ?assign ?body ?done ?stop
  case assign =>
    rintro l pre ⟨⟨kx, u, d⟩, hwf⟩ W K ⟨hI, hB1⟩ hK
    gi_wp2
    exact hK _ _ ((KeepsOthers.alloc _ _).from _) (KpS.alloc _ _ _) ⟨hI.alloc _, hB1.alloc hB1.size _⟩ ⟨W.heap.size, lt_of_heap hI.l, heap_alloc_new W _, rfl⟩
  case body =>
    rintro l pre x a' W hl hr hI hA hlt
    exact absurd hlt (Nat.not_lt_zero _)
  case done =>
    rintro D zU W hD hz ⟨hI, hB1⟩ hK
    have HI := hid hI
    have HB1 := hid hB1
    have HK := hid hK
    have HD : Hid (w.heap.size + 5 ≤ D) := by rw [← hsz]; exact hD
    clear hI hB1 hK
    gi_wp2
    refine region_heldQ (m := 4) (fun V => V.cell? ⟨w.heap.size + 1, 0, none⟩ = some (.int .u32 0) ∧ V.cell? ⟨w.heap.size + 1 + 1, 0, none⟩ = some (.bool false)) follows (by kernel_rfl) ?_
    have HS : (fun V : World => V.cell? ⟨w.heap.size + 1, 0, none⟩ = some (.int .u32 0) ∧ V.cell? ⟨w.heap.size + 1 + 1, 0, none⟩ = some (.bool false)) W.drew := ⟨cell_at HI.out.b rfl, cell_at HI.out.o rfl⟩
    (refine h_val (v := .int .u32 0) 0 rfl (by kernel_rfl) (by kernel_rfl) (by kernel_rfl) (fun _ _ _ h => h) HS (by kernel_rfl) (fun W hW => run_loadv rfl rfl (var_cell fidU rfl hW.1)) ?_; simp only [Act.put, Act.eval, Array.getD_eq_getD_getElem?, List.setIfInBounds_toArray, List.set_cons_succ, List.set_cons_zero, List.getElem?_toArray, List.getElem?_cons_succ, List.getElem?_cons_zero, Option.getD_some])
    (refine h_val (v := .bool false) 1 rfl (by kernel_rfl) (by kernel_rfl) (by kernel_rfl) (fun _ _ _ h => h) HS (by kernel_rfl) (fun W hW => run_loadv rfl rfl (var_cell boolU rfl hW.2)) ?_; simp only [Act.put, Act.eval, Array.getD_eq_getD_getElem?, List.setIfInBounds_toArray, List.set_cons_succ, List.set_cons_zero, List.getElem?_toArray, List.getElem?_cons_succ, List.getElem?_cons_zero, Option.getD_some])
    have b1 : (W.drew.setRow (w.heap.size + 1) #[.int .u32 0]).heap[w.heap.size + 1]? = some (.cells #[.int .u32 0] 27 (0, 0)) := setRow_heap W.drew _ _ _ _ _ HI.out.b
    have b2 : (W.drew.setRow (w.heap.size + 1) #[.int .u32 0]).heap[w.heap.size + 1 + 1]? = some (.cells #[.bool false] 4 (0, 0)) := setRow_keep (w := W.drew) HI.out.o _ _ (by omega)
    have c1 := setRow_keep b1 (w.heap.size + 1 + 1) #[.bool false] (by omega)
    have c2 := setRow_heap _ (w.heap.size + 1 + 1) _ #[.bool false] _ _ b2
    have d1 : (W.drew.setRow (w.heap.size + 1) #[.int .u32 0]).heap[D]? = some (.deferred (some [])) := setRow_keep (w := W.drew) HK.out _ _ (by have := HD.out; omega)
    have d2 := setRow_keep d1 (w.heap.size + 1 + 1) #[.bool false] (by have := HD.out; omega)
    (refine h_oneU 2 (by kernel_rfl) rfl (by kernel_rfl) (run_stores rfl rfl rfl (run_storeVar_one W.drew _ _ _ _ _ HI.out.b fidS rfl)) (⟨cell_at b1 rfl, cell_at b2 rfl⟩) ?_; simp only [Act.put, Act.eval, Array.getD_eq_getD_getElem?, List.setIfInBounds_toArray, List.set_cons_succ, List.set_cons_zero, List.getElem?_toArray, List.getElem?_cons_succ, List.getElem?_cons_zero, Option.getD_some])
    (refine h_oneU 3 (by kernel_rfl) rfl (by kernel_rfl) (run_stores rfl rfl rfl (run_storeVar_one _ _ _ _ _ _ b2 boolS rfl)) (⟨cell_at c1 rfl, cell_at c2 rfl⟩) ?_; simp only [Act.put, Act.eval, Array.getD_eq_getD_getElem?, List.setIfInBounds_toArray, List.set_cons_succ, List.set_cons_zero, List.getElem?_toArray, List.getElem?_cons_succ, List.getElem?_cons_zero, Option.getD_some])
    refine h_done (by kernel_rfl) ?_
    have F3 : Fr No w ((W.drew.setRow (w.heap.size + 1) #[.int .u32 0]).setRow (w.heap.size + 1 + 1) #[.bool false]) := ((Fr.of_below HB1.out).drew.setRow (.inr (by omega)) _).setRow (.inr (by omega)) _
    obtain ⟨V, hV⟩ : ∃ V, V = (W.drew.setRow (w.heap.size + 1) #[.int .u32 0]).setRow (w.heap.size + 1 + 1) #[.bool false] := ⟨_, rfl⟩
    rw [← hV] at F3 c1 c2 d2 ⊢
    clear hV HS b1 b2 d1
    have HF := hid F3
    have H1 := hid c1
    have H2 := hid c2
    have H3 := hid d2
    clear F3 c1 c2 d2
    dsimp only [Qn]
    gi_wp2
    refine ⟨by simp, .inl ⟨_, _, rfl, run_takeDeferred H3.out, ?_⟩⟩
    have hne : ∀ k, k < w.heap.size + 5 → k ≠ D := fun k hk => by have := HD.out; omega
    refine ⟨_, res_cc (x := .int .u32 0) (y := .bool false) rfl rfl rfl (var_cell fidU rfl (cell_at (o := 0) ((World.putObj_heap_other (hne _ (by omega))).trans H1.out) rfl)) (var_cell boolU rfl (cell_at (o := 0) ((World.putObj_heap_other (hne _ (by omega))).trans H2.out) rfl)), rfl, ?_⟩
    exact HF.out.below.trans (belowK_b (w := w) (Nat.le_refl _) V D _ _ (by have := HD.out; omega) H3.out rfl rfl)
  case stop =>
    rintro D c pre W _ _ h _
    exact h.elim

theorem next_nil {w : World} {R : Ending → World → Prop} (hR : ∀ w', Fr No w w' → R (.returned (.tuple #[.int .u32 0, .bool false])) w') : Calls Try.prog 16 #[.pointer none] w R := by
  refine (callsIn_wide (n := 9)).1 (next_nil_in.mono ?_)
  rintro e W' ⟨rfl, hb⟩
  exact hR W' (Fr.of_below hb)

set_option maxHeartbeats 8000000 in
set_option maxRecDepth 100000 in
theorem list_nil_in {w : World} :
    CallsIn Fence.wide 9 Try.prog 14 #[.pointer none] w fun e W' => e = .returned (.slice none 0 0) ∧ Below w.heap.size w W' := by
  refine callsIn_of_wp_marks Try.func14 rfl trivial ?_ rfl
  simp only [Try.ntmps14, List.size_toArray, List.length_cons, List.length_nil, Nat.reduceAdd, Nat.reduceSub, Array.replicate_succ, Array.replicate_zero, List.push_toArray, List.append_toArray, List.nil_append, List.cons_append]
  gi_wp2_with (refine ⟨trivial, ?_⟩; refine callsIn_wide.2 (sorted_ok ?_))
  have hA : ((w.alloc (.cells #[.slice none 0 0] 25)).alloc (.cells #[.pointer none] 23)).heap[w.heap.size]? = some (.cells #[.slice none 0 0] 25 (0, 0)) := alloc_keep (heap_alloc_new w _) _
  have hX : ((w.alloc (.cells #[.slice none 0 0] 25)).alloc (.cells #[.pointer none] 23)).heap[w.heap.size + 1]? = some (.cells #[.pointer none] 23 (0, 0)) := by
    have := heap_alloc_new (w.alloc (.cells #[.slice none 0 0] 25)) (.cells #[.pointer none] 23)
    simpa only [World.size_alloc] using this
  have hB0 : Below w.heap.size w ((w.alloc (.cells #[.slice none 0 0] 25)).alloc (.cells #[.pointer none] 23)) := (((Fr.refl No w).alloc _).alloc _).below
  have hsz : ((w.alloc (.cells #[.slice none 0 0] 25)).alloc (.cells #[.pointer none] 23)).heap.size = w.heap.size + 2 := by simp
  obtain ⟨W0, hW0⟩ : ∃ W0, ((w.alloc (.cells #[.slice none 0 0] 25)).alloc (.cells #[.pointer none] 23)) = W0 := ⟨_, rfl⟩
  rw [hW0] at hA hX hB0 hsz ⊢
  clear hW0
  refine wpIn_rangeFunc_ownG rfl (by decide) (gf := 55) (lb := #[.pointer (some ⟨w.heap.size + 1, 0, none⟩)]) rfl trivial (enters_of Try.func55 (by kernel_rfl) rfl)
    (sorted1_nil (Kp := KpS (fun _ => False)) 8 (w.heap.size + 1) W0 hX) KpS.trans (fun W l o o' _ h hc hw => KpS.putObj o' h hc hw) (Below.refl _ _) (fun _ => rfl)
    (fun (_ : List UH) W => W.heap[w.heap.size]? = some (.cells #[.slice none 0 0] 25 (0, 0)) ∧ Below w.heap.size w W)
    (fun _ _ _ => False)
    (OwnFrom.and (fun s W W' row hs hg hr => (grownBy_keeps_cells hg (fun r e => (hr r e).2) hs rfl).trans hs) (ownFrom_below (Nat.le_refl _) (by omega)))
    (fun _ _ _ _ _ hs _ _ => hs)
    ⟨hA, hB0⟩
    (fun x => { tmps := #[.pointer none, undef, .slice none 0 0, .pointer (some ⟨w.heap.size, 0, none⟩), .int .u32 x.1.1, .pointer none, .func (.func 55) #[] #[.pointer (some ⟨w.heap.size + 1, 0, none⟩)], .int .u32 x.1.1, encH x.1.2, undef, undef, undef, undef, undef], defers := [] }) ?assign ?body ?done ?stop
  case assign =>
    rintro l ⟨⟨kx, u, d⟩, hwf⟩ W K hK
    gi_wp2
    exact hK
  case body =>
    rintro l pre x W hI hlt
    exact absurd hlt (Nat.not_lt_zero _)
  case done =>
    rintro D zU W hD hz ⟨hI, hB1⟩ hK
    have q0 : W.cell? ⟨w.heap.size, 0, none⟩ = some (.slice none 0 0) := cell_at hI rfl
    gi_wp2
    refine ⟨by simp, .inl ⟨_, _, rfl, run_takeDeferred hK, ?_⟩⟩
    exact ⟨_, results_tmp rfl _ _ _, rfl, hB1.trans (belowK_b (w := w) (Nat.le_refl _) W D _ _ (by omega) hK rfl rfl)⟩
  case stop =>
    rintro D c pre W _ _ h _
    exact h.elim

theorem list_nil {w : World} {R : Ending → World → Prop} (hR : ∀ w', Fr No w w' → R (.returned (.slice none 0 0)) w') : Calls Try.prog 14 #[.pointer none] w R := by
  refine (callsIn_wide (n := 9)).1 (list_nil_in.mono ?_)
  rintro e W' ⟨rfl, hb⟩
  exact hR W' (Fr.of_below hb)

section
variable {w : World} {R : Ending → World → Prop} {f x : Int}

set_option maxHeartbeats 4000000 in
set_option maxRecDepth 100000 in
theorem drop_nil (hR : ∀ w', Fr No w w' → R (.returned (.int .i64 1)) w') : Calls Try.prog 20 #[.pointer none, .int .u32 f] w R := by
  have HR := hid hR
  clear hR
  go_enter Try.func20, Try.ntmps20
  go_wp2_with (first
    | (go_at_call 32; refine get_nil ?_; intro w1 hf; have F1 := hid hf; clear hf)
    | (refine wpList_allocRow rfl rfl (zeroH _) ?_))
  exact HR.out _ (F1.out.alloc _)

set_option maxRecDepth 100000 in
theorem hoard_nil (hR : R (.returned (.int .i64 1)) w) : Calls Try.prog 28 #[.pointer none, .int .u32 f, .int .i64 x] w R := by
  go_enter Try.func28, Try.ntmps28
  go_wp2
  exact hR

set_option maxRecDepth 100000 in
theorem walk_nil (hR : ∀ w', Fr No w w' → R (.returned (.slice none 0 0)) w') : Calls Try.prog 22 #[.pointer none] w R := by
  have HR := hid hR
  clear hR
  go_enter Try.func22, Try.ntmps22
  go_wp2
  exact HR.out _ ((Fr.refl No w).alloc _)

set_option maxRecDepth 100000 in
theorem fork_nil (hR : R (.returned (.pointer none)) w) : Calls Try.prog 18 #[.pointer none] w R := by
  go_enter Try.func18, Try.ntmps18
  go_wp2
  exact hR
end

end Go.Proofs.Ytokhbjllgaaogaa
