/- The cache: how it lies in memory; New, Touch, get, Has, Dirty, Dear, Mark. No condition beside what each law asks. -/
import Derived.Test.YtokhbjllgaaogaaCSort2
namespace Go.Proofs.Ytokhbjllgaaogaa
set_option linter.unusedSimpArgs false
open Go.RowKit Go.Maps
attribute [local irreducible] wpQuiet wpAnyH

section
variable {α : Type} {P : Program} {kt et t : TypeId} {q : IntKind} {enc : α → Value} {w : World} {b : Nat} {l : List (Int × α)} {o : Oper} {a : Act} {k : Int} {d0 : α} {m x : Operand}

theorem run_look (M : MapAt P kt q enc w b l) (hk : P.underlying kt = some (.int q)) (ht : P.underlying t = some (.map kt et)) (hz : (zeroValue et).run P w = .ok (enc d0) w) (hwf : (Lit.int q k).wf = true) :
    (Instr.lookup t (.map (some b)) (.int q k) false).run P w = .ok (enc ((aget l k).getD d0)) w := by
  obtain ⟨v, ps, hrun, hv⟩ := M.owns.lookup (int_keyed hk) ht hz (zd := .held (enc d0)) (zp := []) rfl (keyOf_int_mk hk hwf)
  rw [hrun]
  rw [toD_at] at hv
  cases hd : aget l k with
  | none => rw [hd] at hv; simp only [heldElem, Option.some.injEq, Prod.mk.injEq, DataW.held.injEq] at hv; rw [hv.1]; rfl
  | some d => rw [hd] at hv; simp only [heldElem, Option.some.injEq, Prod.mk.injEq, DataW.held.injEq] at hv; rw [hv.1]; rfl

theorem run_look2 (M : MapAt P kt q enc w b l) (hk : P.underlying kt = some (.int q)) (ht : P.underlying t = some (.map kt et)) (hz : (zeroValue et).run P w = .ok (enc d0) w) (hwf : (Lit.int q k).wf = true) :
    (Instr.lookup t (.map (some b)) (.int q k) true).run P w = .ok (.tuple #[enc ((aget l k).getD d0), .bool (aget l k).isSome]) w := by
  obtain ⟨v, ps, hrun, hv⟩ := M.owns.look_ok (int_keyed hk) ht hz (zd := .held (enc d0)) (zp := []) rfl (keyOf_int_mk hk hwf)
  rw [hrun, toD_has]
  rw [toD_at] at hv
  cases hd : aget l k with
  | none => rw [hd] at hv; simp only [heldElem, Option.some.injEq, Prod.mk.injEq, DataW.held.injEq] at hv; rw [hv.1]; rfl
  | some d => rw [hd] at hv; simp only [heldElem, Option.some.injEq, Prod.mk.injEq, DataW.held.injEq] at hv; rw [hv.1]; rfl

theorem run_look2_some {d : α} (M : MapAt P kt q enc w b l) (hk : P.underlying kt = some (.int q)) (ht : P.underlying t = some (.map kt et)) (hz : (zeroValue et).run P w = .ok (enc d0) w) (hwf : (Lit.int q k).wf = true) (hd : aget l k = some d) :
    (Instr.lookup t (.map (some b)) (.int q k) true).run P w = .ok (.tuple #[enc d, .bool true]) w := by
  rw [run_look2 M hk ht hz hwf, hd]; rfl
theorem run_look2_none (M : MapAt P kt q enc w b l) (hk : P.underlying kt = some (.int q)) (ht : P.underlying t = some (.map kt et)) (hz : (zeroValue et).run P w = .ok (enc d0) w) (hwf : (Lit.int q k).wf = true) (hd : aget l k = none) :
    (Instr.lookup t (.map (some b)) (.int q k) true).run P w = .ok (.tuple #[enc d0, .bool false]) w := by
  rw [run_look2 M hk ht hz hwf, hd]; rfl

theorem run_look_op {bb : Bool} {v : Value} (ho : o.op = .lookup t m x bb) (hm : a.eval m = .map (some b)) (hx : a.eval x = .int q k) (h : (Instr.lookup t (.map (some b)) (.int q k) bb).run P w = .ok v w) : (execOp a.eval o).run P w = .ok (.value v) w := by
  unfold execOp
  simp only [ho, hm, hx, Sem.run_bind, h, Result.andThen_ok, Sem.run_pure]
end

/-- How one is at hand, as a value: when it was used; is it dirty? -/
abbrev encH (h : Int × Bool) : Value := .agg #[.int .i64 h.1, .bool h.2]
abbrev encD (n : Int) : Value := .int .i64 n

theorem dearU : Try.prog.underlying 56 = some (.map 27 3) := by kernel_rfl
theorem boolU : Try.prog.underlying 4 = some .bool := by kernel_rfl
theorem zeroH (w : World) : (zeroValue 60).run Try.prog w = .ok (encH (0, false)) w := by kernel_rfl
theorem zeroI (w : World) : (zeroValue 3).run Try.prog w = .ok (encD 0) w := by kernel_rfl
theorem heldI : (Try.prog.info? 60).map (·.size) = some 2 := by kernel_rfl
theorem heldR : (Try.prog.underlying 60).map (·.isRow) = some true := by kernel_rfl

/-- A variable of two cells is read at once. -/
theorem var_held {w : World} {b : Nat} {t : TypeId} {fr : Nat × Nat} {h : Int × Bool} (hb : w.heap[b]? = some (.cells #[.int .i64 h.1, .bool h.2] t fr)) : (loadVar 60 ⟨b, 0, none⟩).run Try.prog w = .ok (encH h) w := by
  cases hu : Try.prog.underlying 60 with
  | none => have := heldR; simp [hu] at this
  | some d =>
    have h2 := heldR
    simp only [hu, Option.map_some, Option.some.injEq] at h2
    refine run_loadVar_row w b t _ _ fr d hb hu ?_ (by rw [heldI]; rfl)
    cases d <;> first | rfl | cases h2

structure CacheAt (w : World) (p : Nat) (n k : Int) (hl : List (Int × (Int × Bool))) (dl : List (Int × Int)) (bh bd : Nat) : Prop where
  head : w.heap[p]? = some (.cells #[.int .i64 n, .int .i64 k, .map (some bh), .map (some bd)] 58 (0, 0))
  held : MapAt Try.prog 27 .u32 encH w bh hl
  dear : MapAt Try.prog 27 .u32 encD w bd dl
  ne : bh ≠ bd

/-- The cache's own blocks. -/
def CacheS (p bh bd b : Nat) : Prop := b = p ∨ b = bh ∨ b = bd

section
variable {w w' : World} {p bh bd : Nat} {n k : Int} {hl : List (Int × (Int × Bool))} {dl : List (Int × Int)} {R : Ending → World → Prop} {f : Int}

theorem CacheAt.fr (C : CacheAt w p n k hl dl bh bd) {S : Nat → Prop} (hf : Fr S w w') (hS : ∀ b, CacheS p bh bd b → ¬ S b) : CacheAt w' p n k hl dl bh bd :=
  ⟨hf.keep C.head (hS _ (.inl rfl)), C.held.fr hf (hS _ (.inr (.inl rfl))), C.dear.fr hf (hS _ (.inr (.inr rfl))), C.ne⟩
theorem CacheAt.no (C : CacheAt w p n k hl dl bh bd) (hf : Fr No w w') : CacheAt w' p n k hl dl bh bd := C.fr hf (fun _ _ h => h)
theorem CacheAt.ne_ph (C : CacheAt w p n k hl dl bh bd) : p ≠ bh := fun h => C.held.not_cells C.head h
theorem CacheAt.ne_pd (C : CacheAt w p n k hl dl bh bd) : p ≠ bd := fun h => C.dear.not_cells C.head h
theorem CacheAt.lt (C : CacheAt w p n k hl dl bh bd) : ∀ b, CacheS p bh bd b → b < w.heap.size := by
  rintro b (rfl | rfl | rfl)
  · exact lt_of_heap C.head
  · exact C.held.lt
  · exact C.dear.lt

theorem new_no (h : n < 1 ∨ 40 < n) (hR : R (.returned (.pointer none)) w) : Calls Try.prog 11 #[.int .i64 n] w R := by
  by_cases h1 : n < 1
  · clear h
    go_enter Try.func11, Try.ntmps11
    go_wp2
    exact hR
  · have h2 : 40 < n := by omega
    clear h
    go_enter Try.func11, Try.ntmps11
    go_wp2
    exact hR

set_option maxHeartbeats 4000000 in
set_option maxRecDepth 100000 in
theorem new_ok (h1 : 1 ≤ n) (h2 : n ≤ 40) (hR : ∀ w' p bh bd, CacheAt w' p n 0 [] [] bh bd → w.heap.size ≤ p → w.heap.size ≤ bh → w.heap.size ≤ bd → Fr No w w' → R (.returned (.pointer (some ⟨p, 0, none⟩))) w') :
    Calls Try.prog 11 #[.int .i64 n] w R := by
  have HR := hid hR
  clear hR
  have h3 : ¬ n < 1 := by omega
  have h4 : ¬ 40 < n := by omega
  go_enter Try.func11, Try.ntmps11
  have hmm := @run_makeMap Try.prog
  go_wp2
  have M1 : MapAt Try.prog 27 .u32 encH (w.alloc (.map #[] 0)) w.heap.size [] := MapAt.made _ _ _ _ w
  have M2 : MapAt Try.prog 27 .u32 encD ((w.alloc (.map #[] 0)).alloc (.map #[] 0)) (w.heap.size + 1) [] := by
    have := MapAt.made Try.prog 27 .u32 encD (w.alloc (.map #[] 0))
    rwa [World.size_alloc] at this
  refine HR.out _ (w.heap.size + 1 + 1) w.heap.size (w.heap.size + 1) ⟨?_, (M1.alloc _).alloc _, M2.alloc _, by omega⟩ (by omega) (Nat.le_refl _) (by omega) ((((Fr.refl No w).alloc _).alloc _).alloc _)
  have := heap_alloc_new ((w.alloc (.map #[] 0)).alloc (.map #[] 0)) (.cells #[.int .i64 n, .int .i64 0, .map (some w.heap.size), .map (some (w.heap.size + 1))] 58)
  simpa using this

/-- A block behind the store into one of its cells. -/
theorem heap_setAt {W : World} {g o : Nat} {cs cs' : Array Value} {t : TypeId} {fr : Nat × Nat} (h : W.heap[g]? = some (.cells cs t fr)) (v : Value) (e : cs.setIfInBounds o v = cs') : (W.setCell ⟨g, o, none⟩ v).heap[g]? = some (.cells cs' t fr) := by
  subst e
  simp [World.setCell, Array.getElem?_modify, h]

/-! ### Touch -/

theorem touch_nil (hR : R (.returned (.bool false)) w) : Calls Try.prog 26 #[.pointer none, .int .u32 f] w R := by
  go_enter Try.func26, Try.ntmps26
  go_wp2
  exact hR

set_option maxHeartbeats 4000000 in
set_option maxRecDepth 100000 in
theorem touch_no (C : CacheAt w p n k hl dl bh bd) (hwf : (Lit.int .u32 f).wf = true) (hg : aget hl f = none) (hR : ∀ w', Fr No w w' → R (.returned (.bool false)) w') :
    Calls Try.prog 26 #[.pointer (some ⟨p, 0, none⟩), .int .u32 f] w R := by
  have HR := hid hR
  have HC := hid C
  have HW := hid hwf
  have HG := hid hg
  have c2 : w.cell? ⟨p, 2, none⟩ = some (.map (some bh)) := cell_at C.head rfl
  clear hR C hwf hg
  go_enter Try.func26, Try.ntmps26
  go_wp2_with (first
    | (refine wpList_ok rfl (run_look_op rfl rfl rfl (run_look2_none HC.out.held fidU heldU (zeroH _) HW.out HG.out)) ?_)
    | (refine wpList_allocRow rfl rfl (zeroH _) ?_)
    | (refine wpList_storeNew (x := .tmp 5) rfl rfl rfl rfl (heap_alloc_new _ _) (by rw [heldI]; rfl) rfl rfl (World.setRow_alloc_new _ _ _ _) ?_))
  exact HR.out _ ((Fr.refl No w).alloc _)

set_option maxHeartbeats 4000000 in
set_option maxRecDepth 100000 in
theorem touch_yes {u : Int} {d : Bool} (C : CacheAt w p n k hl dl bh bd) (hk0 : 0 ≤ k) (hk1 : k < 4611686018427387904) (hlen : hl.length < 4294967296) (hwf : (Lit.int .u32 f).wf = true) (hg : aget hl f = some (u, d))
    (hR : ∀ w', CacheAt w' p n (k + 1) (aput hl f (k + 1, d)) dl bh bd → Fr (CacheS p bh bd) w w' → R (.returned (.bool true)) w') :
    Calls Try.prog 26 #[.pointer (some ⟨p, 0, none⟩), .int .u32 f] w R := by
  have HR := hid hR
  have HC := hid C
  have HW := hid hwf
  have HG := hid hg
  have HL := hid hlen
  have c2 : w.cell? ⟨p, 2, none⟩ = some (.map (some bh)) := cell_at C.head rfl
  have q0 : (w.alloc (.cells #[.int .i64 u, .bool d] 60)).heap[p]? = some (.cells #[.int .i64 n, .int .i64 k, .map (some bh), .map (some bd)] 58 (0, 0)) := alloc_keep C.head _
  have q1 : (w.alloc (.cells #[.int .i64 u, .bool d] 60)).cell? ⟨p, 1, none⟩ = some (.int .i64 k) := cell_at q0 rfl
  have q2 : (w.alloc (.cells #[.int .i64 u, .bool d] 60)).frozen? ⟨p, 1, none⟩ = false := by simp [World.frozen?, q0]
  have hk2 : k + 1 < 9223372036854775808 := by omega
  have hk3 : -9223372036854775808 ≤ k + 1 := by omega
  clear hR C hwf hg hlen q0
  go_enter Try.func26, Try.ntmps26
  go_wp2_with (first
    | (refine wpList_ok rfl (run_look_op rfl rfl rfl (run_look2_some HC.out.held fidU heldU (zeroH _) HW.out HG.out)) ?_)
    | (refine wpList_allocRow rfl rfl (zeroH _) ?_)
    | (refine wpList_storeNew (x := .tmp 5) rfl rfl rfl rfl (heap_alloc_new _ _) (by rw [heldI]; rfl) rfl rfl (World.setRow_alloc_new _ _ _ _) ?_))
  obtain ⟨w1, hw1⟩ : ∃ w1, w1 = ((w.alloc (.cells #[.int .i64 u, .bool d] 60)).setCell ⟨p, 1, none⟩ (.int .i64 (k + 1))).setCell ⟨w.heap.size, 0, none⟩ (.int .i64 (k + 1)) := ⟨_, rfl⟩
  have hpw : p < w.heap.size := lt_of_heap HC.out.head
  have F1 : Hid (Fr (fun b => b = p) w w1) := by
    rw [hw1]
    exact (((Fr.refl (fun b => b = p) w).alloc _).setCell (p := ⟨p, 1, none⟩) (.inl rfl) _).setCell (p := ⟨w.heap.size, 0, none⟩) (.inr (Nat.le_refl _)) _
  have head1 : w1.heap[p]? = some (.cells #[.int .i64 n, .int .i64 (k + 1), .map (some bh), .map (some bd)] 58 (0, 0)) := by
    rw [hw1]
    refine setCell_keep (heap_setAt (alloc_keep HC.out.head _) _ rfl) _ _ (by show p ≠ w.heap.size; omega)
  have box1 : w1.heap[w.heap.size]? = some (.cells #[.int .i64 (k + 1), .bool d] 60 (0, 0)) := by
    rw [hw1]
    exact heap_setAt (setCell_keep (heap_alloc_new w _) _ _ (by show w.heap.size ≠ p; omega)) _ rfl
  have M1 : Hid (MapAt Try.prog 27 .u32 encH w1 bh hl) := HC.out.held.fr F1.out (fun h => HC.out.ne_ph h.symm)
  have D1 : Hid (MapAt Try.prog 27 .u32 encD w1 bd dl) := HC.out.dear.fr F1.out (fun h => HC.out.ne_pd h.symm)
  have H1 := hid head1
  rw [← hw1]
  clear hw1 c2 q1 q2
  have c2 : w1.cell? ⟨p, 2, none⟩ = some (.map (some bh)) := cell_at head1 rfl
  clear head1
  refine wp_tail 6 follows (by kernel_rfl) ?_
  simp only [List.take_succ_cons, List.take_zero, List.drop_succ_cons, List.drop_zero]
  repeat still_step
  refine wpStill_loadVar rfl rfl rfl (var_held (w := w1.drew) (h := (k + 1, d)) box1) ?_
  repeat still_step
  refine wpStill_nil ?_
  refine wpList_aput (d := ((k + 1, d) : Int × Bool)) rfl rfl fidU heldU M1.out.drew HL.out rfl rfl HW.out rfl ?_
  intro w2 M F
  go_wp2
  have F2 : Fr (CacheS p bh bd) w w2 := ((F1.out.mono (fun b hb => .inl hb)).drew).trans F (fun b hb => .inl (.inr (.inl hb)))
  exact HR.out _ ⟨F.keep H1.out HC.out.ne_ph, M, D1.out.drew.fr F (fun h => HC.out.ne h.symm), HC.out.ne⟩ F2
end

end Go.Proofs.Ytokhbjllgaaogaa
