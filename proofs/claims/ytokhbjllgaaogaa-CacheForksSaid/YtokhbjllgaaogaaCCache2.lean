/- The cache: get, Has, Dirty, Dear, Mark. No condition beside what each law asks. -/
import Derived.Test.YtokhbjllgaaogaaCCache
namespace Go.Proofs.Ytokhbjllgaaogaa
set_option linter.unusedSimpArgs false
open Go.RowKit Go.Maps
attribute [local irreducible] wpQuiet wpAnyH

theorem res_ct {P : Program} {fn : Func} {p c : Tmp} {ty : TypeId} {tmps : Array Value} {w : World} {g : Addr} {v z : Value} (h : fn.results = #[.cell p ty, .tmp c])
    (hp : tmps.getD p undef = .pointer (some g)) (hl : (loadVar ty g).run P w = .ok v w) (hc : tmps.getD c undef = z) :
    (results fn tmps).run P w = .ok (.tuple #[v, z]) w := by
  have hp' : tmps[p]?.getD undef = .pointer (some g) := by simpa using hp
  subst hc
  simp [results, h, hp', asAddr, hl]

section
variable {w w' : World} {p bh bd : Nat} {n k : Int} {hl : List (Int × (Int × Bool))} {dl : List (Int × Int)} {R : Ending → World → Prop} {f : Int}

set_option maxHeartbeats 4000000 in
set_option maxRecDepth 100000 in
theorem get_nil (hR : ∀ w', Fr No w w' → R (.returned (.tuple #[encH (0, false), .int .i64 1])) w') : Calls Try.prog 32 #[.pointer none, .int .u32 f] w R := by
  have HR := hid hR
  clear hR
  go_enter Try.func32, Try.ntmps32
  go_wp2_with (first
    | (refine wpList_allocRow rfl rfl (zeroH _) ?_))
  exact bodyPost_ret (res_ct rfl rfl (var_held (h := (0, false)) (heap_alloc_new w _)) rfl) rfl (HR.out _ ((Fr.refl No w).alloc _))

set_option maxHeartbeats 4000000 in
set_option maxRecDepth 100000 in
theorem get_no (C : CacheAt w p n k hl dl bh bd) (hwf : (Lit.int .u32 f).wf = true) (hg : aget hl f = none) (hR : ∀ w', Fr No w w' → R (.returned (.tuple #[encH (0, false), .int .i64 5])) w') :
    Calls Try.prog 32 #[.pointer (some ⟨p, 0, none⟩), .int .u32 f] w R := by
  have HR := hid hR
  have HC := hid C
  have HW := hid hwf
  have HG := hid hg
  have HM : Hid (MapAt Try.prog 27 .u32 encH (w.alloc (.cells #[.int .i64 0, .bool false] 60)) bh hl) := C.held.alloc _
  have c2 : (w.alloc (.cells #[.int .i64 0, .bool false] 60)).cell? ⟨p, 2, none⟩ = some (.map (some bh)) := cell_at (alloc_keep C.head _) rfl
  clear hR C hwf hg
  go_enter Try.func32, Try.ntmps32
  go_wp2_with (first
    | (refine wpList_ok rfl (run_look_op rfl rfl rfl (run_look2_none HM.out fidU heldU (zeroH _) HW.out HG.out)) ?_)
    | (refine wpList_allocRow rfl rfl (zeroH _) ?_))
  exact bodyPost_ret (res_ct rfl rfl (var_held (h := (0, false)) (alloc_keep (heap_alloc_new w _) _)) rfl) rfl (HR.out _ (((Fr.refl No w).alloc _).alloc _))
set_option maxHeartbeats 4000000 in
set_option maxRecDepth 100000 in
theorem get_yes {u : Int} {d : Bool} (C : CacheAt w p n k hl dl bh bd) (hwf : (Lit.int .u32 f).wf = true) (hg : aget hl f = some (u, d)) (hR : ∀ w', Fr No w w' → R (.returned (.tuple #[encH (u, d), .int .i64 0])) w') :
    Calls Try.prog 32 #[.pointer (some ⟨p, 0, none⟩), .int .u32 f] w R := by
  have HR := hid hR
  have HC := hid C
  have HW := hid hwf
  have HG := hid hg
  have HM : Hid (MapAt Try.prog 27 .u32 encH (w.alloc (.cells #[.int .i64 0, .bool false] 60)) bh hl) := C.held.alloc _
  have c2 : (w.alloc (.cells #[.int .i64 0, .bool false] 60)).cell? ⟨p, 2, none⟩ = some (.map (some bh)) := cell_at (alloc_keep C.head _) rfl
  clear hR C hwf hg
  go_enter Try.func32, Try.ntmps32
  go_wp2_with (first
    | (refine wpList_ok rfl (run_look_op rfl rfl rfl (run_look2_some HM.out fidU heldU (zeroH _) HW.out HG.out)) ?_)
    | (refine wpList_allocRow rfl rfl (zeroH _) ?_))
  exact bodyPost_ret (res_ct rfl rfl (var_held (h := (u, d)) (alloc_keep (heap_alloc_new w _) _)) rfl) rfl (HR.out _ (((Fr.refl No w).alloc _).alloc _))

theorem dear_nil (hR : R (.returned (.int .i64 0)) w) : Calls Try.prog 21 #[.pointer none, .int .u32 f] w R := by
  go_enter Try.func21, Try.ntmps21
  go_wp2
  exact hR

set_option maxHeartbeats 4000000 in
set_option maxRecDepth 100000 in
theorem dear_ok (C : CacheAt w p n k hl dl bh bd) (hwf : (Lit.int .u32 f).wf = true) (hR : R (.returned (.int .i64 ((aget dl f).getD 0))) w) :
    Calls Try.prog 21 #[.pointer (some ⟨p, 0, none⟩), .int .u32 f] w R := by
  have HR := hid hR
  have HC := hid C
  have HW := hid hwf
  have c3 : w.cell? ⟨p, 3, none⟩ = some (.map (some bd)) := cell_at C.head rfl
  clear hR C hwf
  go_enter Try.func21, Try.ntmps21
  go_wp2_with (refine wpList_ok rfl (run_look_op rfl rfl rfl (run_look HC.out.dear fidU dearU (zeroI _) HW.out)) ?_)
  exact HR.out

set_option maxHeartbeats 4000000 in
set_option maxRecDepth 100000 in
theorem has_nil (hR : ∀ w', Fr No w w' → R (.returned (.bool false)) w') : Calls Try.prog 17 #[.pointer none, .int .u32 f] w R := by
  have HR := hid hR
  clear hR
  go_enter Try.func17, Try.ntmps17
  go_wp2_with (first
    | (go_at_call 32; refine get_nil ?_; intro w1 hf; have F1 := hid hf; clear hf)
    | (refine wpList_allocRow rfl rfl (zeroH _) ?_))
  exact HR.out _ (F1.out.alloc _)

set_option maxHeartbeats 4000000 in
set_option maxRecDepth 100000 in
theorem dirty_nil (hR : ∀ w', Fr No w w' → R (.returned (.bool false)) w') : Calls Try.prog 19 #[.pointer none, .int .u32 f] w R := by
  have HR := hid hR
  clear hR
  go_enter Try.func19, Try.ntmps19
  go_wp2_with (first
    | (go_at_call 32; refine get_nil ?_; intro w1 hf; have F1 := hid hf; clear hf)
    | (refine wpList_allocRow rfl rfl (zeroH _) ?_))
  exact HR.out _ (F1.out.alloc _)

section
variable {u : Int} {d : Bool}

set_option maxHeartbeats 4000000 in
set_option maxRecDepth 100000 in
theorem has_no (C : CacheAt w p n k hl dl bh bd) (hwf : (Lit.int .u32 f).wf = true) (hg : aget hl f = none) (hR : ∀ w', Fr No w w' → R (.returned (.bool false)) w') : Calls Try.prog 17 #[.pointer (some ⟨p, 0, none⟩), .int .u32 f] w R := by
  have HR := hid hR
  clear hR
  go_enter Try.func17, Try.ntmps17
  go_wp2_with (first
    | (go_at_call 32; refine get_no C hwf hg ?_; intro w1 hf; have F1 := hid hf; clear hf)
    | (refine wpList_allocRow rfl rfl (zeroH _) ?_))
  exact HR.out _ (F1.out.alloc _)

set_option maxHeartbeats 4000000 in
set_option maxRecDepth 100000 in
theorem has_yes (C : CacheAt w p n k hl dl bh bd) (hwf : (Lit.int .u32 f).wf = true) (hg : aget hl f = some (u, d)) (hR : ∀ w', Fr No w w' → R (.returned (.bool true)) w') : Calls Try.prog 17 #[.pointer (some ⟨p, 0, none⟩), .int .u32 f] w R := by
  have HR := hid hR
  clear hR
  go_enter Try.func17, Try.ntmps17
  go_wp2_with (first
    | (go_at_call 32; refine get_yes C hwf hg ?_; intro w1 hf; have F1 := hid hf; clear hf)
    | (refine wpList_allocRow rfl rfl (zeroH _) ?_))
  exact HR.out _ (F1.out.alloc _)

theorem has_ok (C : CacheAt w p n k hl dl bh bd) (hwf : (Lit.int .u32 f).wf = true) (hR : ∀ w', Fr No w w' → R (.returned (.bool (aget hl f).isSome)) w') : Calls Try.prog 17 #[.pointer (some ⟨p, 0, none⟩), .int .u32 f] w R := by
  cases hg : aget hl f with
  | none => rw [hg] at hR; exact has_no C hwf hg hR
  | some h => rw [hg] at hR; exact has_yes (u := h.1) (d := h.2) C hwf hg hR

set_option maxHeartbeats 4000000 in
set_option maxRecDepth 100000 in
theorem dirty_no (C : CacheAt w p n k hl dl bh bd) (hwf : (Lit.int .u32 f).wf = true) (hg : aget hl f = none) (hR : ∀ w', Fr No w w' → R (.returned (.bool false)) w') : Calls Try.prog 19 #[.pointer (some ⟨p, 0, none⟩), .int .u32 f] w R := by
  have HR := hid hR
  clear hR
  go_enter Try.func19, Try.ntmps19
  go_wp2_with (first
    | (go_at_call 32; refine get_no C hwf hg ?_; intro w1 hf; have F1 := hid hf; clear hf)
    | (refine wpList_allocRow rfl rfl (zeroH _) ?_))
  exact HR.out _ (F1.out.alloc _)

set_option maxHeartbeats 4000000 in
set_option maxRecDepth 100000 in
theorem dirty_yes (C : CacheAt w p n k hl dl bh bd) (hwf : (Lit.int .u32 f).wf = true) (hg : aget hl f = some (u, d)) (hR : ∀ w', Fr No w w' → R (.returned (.bool d)) w') : Calls Try.prog 19 #[.pointer (some ⟨p, 0, none⟩), .int .u32 f] w R := by
  have HR := hid hR
  clear hR
  go_enter Try.func19, Try.ntmps19
  go_wp2_with (first
    | (go_at_call 32; refine get_yes C hwf hg ?_; intro w1 hf; have F1 := hid hf; clear hf)
    | (refine wpList_allocRow rfl rfl (zeroH _) ?_))
  exact HR.out _ (F1.out.alloc _)

theorem dirty_ok (C : CacheAt w p n k hl dl bh bd) (hwf : (Lit.int .u32 f).wf = true) (hR : ∀ w', Fr No w w' → R (.returned (.bool ((aget hl f).getD (0, false)).2)) w') : Calls Try.prog 19 #[.pointer (some ⟨p, 0, none⟩), .int .u32 f] w R := by
  cases hg : aget hl f with
  | none => rw [hg] at hR; exact dirty_no C hwf hg hR
  | some h => rw [hg] at hR; exact dirty_yes (u := h.1) (d := h.2) C hwf hg hR

/-! ### Mark -/

set_option maxHeartbeats 4000000 in
set_option maxRecDepth 100000 in
theorem mark_nil {x : Bool} (hR : ∀ w', Fr No w w' → R (.returned (.int .i64 1)) w') : Calls Try.prog 27 #[.pointer none, .int .u32 f, .bool x] w R := by
  have HR := hid hR
  clear hR
  go_enter Try.func27, Try.ntmps27
  go_wp2_with (first
    | (go_at_call 32; refine get_nil ?_; intro w1 hf; have F1 := hid hf; clear hf)
    | (refine wpList_allocRow rfl rfl (zeroH _) ?_))
  exact HR.out _ (F1.out.alloc _)

set_option maxHeartbeats 4000000 in
set_option maxRecDepth 100000 in
theorem mark_no {x : Bool} (C : CacheAt w p n k hl dl bh bd) (hwf : (Lit.int .u32 f).wf = true) (hg : aget hl f = none) (hR : ∀ w', Fr No w w' → R (.returned (.int .i64 5)) w') : Calls Try.prog 27 #[.pointer (some ⟨p, 0, none⟩), .int .u32 f, .bool x] w R := by
  have HR := hid hR
  clear hR
  go_enter Try.func27, Try.ntmps27
  go_wp2_with (first
    | (go_at_call 32; refine get_no C hwf hg ?_; intro w1 hf; have F1 := hid hf; clear hf)
    | (refine wpList_allocRow rfl rfl (zeroH _) ?_))
  exact HR.out _ (F1.out.alloc _)

set_option maxHeartbeats 4000000 in
set_option maxRecDepth 100000 in
theorem mark_yes {x : Bool} (C : CacheAt w p n k hl dl bh bd) (hlen : hl.length < 4294967296) (hwf : (Lit.int .u32 f).wf = true) (hg : aget hl f = some (u, d))
    (hR : ∀ w', CacheAt w' p n k (aput hl f (u, x)) dl bh bd → Fr (CacheS p bh bd) w w' → R (.returned (.int .i64 0)) w') : Calls Try.prog 27 #[.pointer (some ⟨p, 0, none⟩), .int .u32 f, .bool x] w R := by
  have HR := hid hR
  have HC := hid C
  have HW := hid hwf
  have HG := hid hg
  have HL := hid hlen
  clear hR C hwf hg hlen
  go_enter Try.func27, Try.ntmps27
  go_wp2_with (first
    | (go_at_call 32; refine get_yes HC.out HW.out HG.out ?_; intro w1 hf; have F1 := hid hf; clear hf)
    | (refine wpList_allocRow rfl rfl (zeroH _) ?_))
  obtain ⟨w2, hw2⟩ : ∃ w2, w2 = w1.alloc (.cells #[.int .i64 u, .bool x] 60) := ⟨_, rfl⟩
  rw [← hw2]
  have F2 : Hid (Fr No w w2) := by rw [hw2]; exact F1.out.alloc _
  have box : w2.heap[w1.heap.size]? = some (.cells #[.int .i64 u, .bool x] 60 (0, 0)) := by rw [hw2]; exact heap_alloc_new w1 _
  have C2 := hid (HC.out.no F2.out)
  have c2 : w2.cell? ⟨p, 2, none⟩ = some (.map (some bh)) := cell_at C2.out.head rfl
  clear hw2
  refine wp_tail 6 follows (by kernel_rfl) ?_
  simp only [List.take_succ_cons, List.take_zero, List.drop_succ_cons, List.drop_zero]
  repeat still_step
  refine wpStill_loadVar rfl rfl rfl (var_held (w := w2.drew) (h := (u, x)) box) ?_
  repeat still_step
  refine wpStill_nil ?_
  refine wpList_aput (d := ((u, x) : Int × Bool)) rfl rfl fidU heldU C2.out.held.drew HL.out rfl rfl HW.out rfl ?_
  intro w3 M F
  go_wp2
  exact HR.out _ ⟨F.keep C2.out.head HC.out.ne_ph, M, C2.out.dear.drew.fr F (fun h => HC.out.ne h.symm), HC.out.ne⟩ ((F2.out.any.drew).trans F (fun b hb => .inl (.inr (.inl hb))))
end
end

end Go.Proofs.Ytokhbjllgaaogaa
