/- The cache's Next. No condition beside that it lies there. -/
import Derived.Test.YtokhbjllgaaogaaCRound
import Derived.Great.BuildSlice
import Derived.Test.YtokhbjllgaaogaaHeld
namespace Go.Proofs.Ytokhbjllgaaogaa
set_option linter.unusedSimpArgs false
open Go.RowKit Go.Maps Go.Shelf
attribute [local go_sem] Oper.semAt_some
attribute [local irreducible] wpQuiet wpAnyH

theorem cacheU : Try.prog.underlying 23 = some (.pointer 58) := by kernel_rfl
theorem fieldC3 (b : Nat) (W : World) : (Instr.fieldAt 58 (.pointer (some ⟨b, 0, none⟩)) 3).run Try.prog W = .ok (.pointer (some ⟨b, 3, none⟩)) W := by kernel_rfl
theorem fieldH0 (b : Nat) (W : World) : (Instr.fieldAt 60 (.pointer (some ⟨b, 0, none⟩)) 0).run Try.prog W = .ok (.pointer (some ⟨b, 0, none⟩)) W := by kernel_rfl
theorem fieldH1 (b : Nat) (W : World) : (Instr.fieldAt 60 (.pointer (some ⟨b, 0, none⟩)) 1).run Try.prog W = .ok (.pointer (some ⟨b, 1, none⟩)) W := by kernel_rfl
theorem boolS : (Try.prog.info? 4).map (·.size) = some 1 := by kernel_rfl
theorem pairI : (Try.prog.info? 65).map (·.size) = some 2 := by kernel_rfl

structure NS where
  best : Int
  ok : Bool
  l0 : Int
  l1 : Int

/-- One that is at hand is looked at. -/
def nxStep (dl : List (Int × Int)) (s : NS) (x : Int × (Int × Bool)) : NS :=
  if x.2.2 = false ∧ (s.ok = false ∨ ((aget dl x.1).getD 0 < s.l0 ∨ ((aget dl x.1).getD 0 = s.l0 ∧ x.2.1 < s.l1))) then ⟨x.1, true, (aget dl x.1).getD 0, x.2.1⟩ else s
def nx (dl : List (Int × Int)) (hl : List (Int × (Int × Bool))) : NS := hl.foldl (nxStep dl) ⟨0, false, 0, 0⟩

theorem pairU : Try.prog.underlying 65 = some (.array 2 3) := by kernel_rfl
theorem zeroP (w : World) : (zeroValue 65).run Try.prog w = .ok (.agg #[.int .i64 0, .int .i64 0]) w := by kernel_rfl

section
variable {P : Program} {o : Oper} {a : Act} {W W' : World} {ty : TypeId} {x y : Operand}
theorem KeepsOthers.setRow {W : World} {g : Nat} {cs old : Array Value} {t : TypeId} {fr : Nat × Nat} (h : W.heap[g]? = some (.cells old t fr)) : KeepsOthers W (W.setRow g cs) :=
  ⟨by simp [World.setRow], fun k o hk ho => by
    by_cases e : k = g
    · subst e; rw [h] at hk; cases hk; cases ho
    · exact setRow_keep hk g cs e⟩
theorem KpS.setRow {S : Nat → Prop} {W : World} {g : Nat} (cs : Array Value) (hg : S g) : KpS S W (W.setRow g cs) :=
  ⟨by simp [World.setRow], fun b o hb _ hs => setRow_keep hb g cs (fun e => hs (e ▸ hg))⟩

theorem res_cc {P : Program} {fn : Func} {p q : Tmp} {t t' : TypeId} {tmps : Array Value} {w : World} {g g' : Addr} {x y : Value} (h : fn.results = #[.cell p t, .cell q t'])
    (hp : tmps.getD p undef = .pointer (some g)) (hq : tmps.getD q undef = .pointer (some g')) (hl : (loadVar t g).run P w = .ok x w) (hl' : (loadVar t' g').run P w = .ok y w) :
    (results fn tmps).run P w = .ok (.tuple #[x, y]) w := by
  have hp' : tmps[p]?.getD undef = .pointer (some g) := by simpa using hp
  have hq' : tmps[q]?.getD undef = .pointer (some g') := by simpa using hq
  simp [results, h, hp', hq', asAddr, hl, hl']

theorem run_allocr {z : Array Value} (ho : o.op = .alloc ty) (hz : (zeroValue ty).run P W = .ok (.agg z) W) : (execOp a.eval o).run P W = .ok (.value (.pointer (some ⟨W.heap.size, 0, none⟩))) (W.alloc (.cells z ty)) := by
  unfold execOp
  simp only [ho, Instr.alloc, newVar, newRow, newObj, Value.cells]
  simp [Sem.run_bind, hz, Sem.run]
theorem run_stores {ad : Addr} {v : Value} (ho : o.op = .store ty x y) (hx : a.eval x = .pointer (some ad)) (hy : a.eval y = v) (hv : (storeVar ty ad v).run P W = .ok () W') : (execOp a.eval o).run P W = .ok .skip W' := by
  unfold execOp
  simp only [ho, hx, hy, Instr.storeAt, Instr.sureAddr, Sem.run_bind, Sem.run_pure, Result.andThen_ok, hv]
end

/-- Next's own variables, and the box of its receiver. -/
structure NxI (w : World) (p : Nat) (s : NS) (W : World) : Prop where
  c : W.heap[w.heap.size]? = some (.cells #[.pointer (some ⟨p, 0, none⟩)] 23 (0, 0))
  b : W.heap[w.heap.size + 1]? = some (.cells #[.int .u32 s.best] 27 (0, 0))
  o : W.heap[w.heap.size + 1 + 1]? = some (.cells #[.bool s.ok] 4 (0, 0))
  l : W.heap[w.heap.size + 1 + 1 + 1]? = some (.cells #[.int .i64 s.l0, .int .i64 s.l1] 65 (0, 0))

def NxS (w : World) (b : Nat) : Prop := b = w.heap.size + 1 ∨ b = w.heap.size + 1 + 1 ∨ b = w.heap.size + 1 + 1 + 1

theorem NxI.kept {w : World} {p : Nat} {s : NS} {W W' : World} (h : NxI w p s W) {row : Option Nat} (hg : W.grownBy W' row) (hr : ∀ r, row = some r → ∃ o : Obj, W.heap[r]? = some o ∧ o.isCells = false) : NxI w p s W' :=
  ⟨(grownBy_keeps_cells hg hr h.c rfl).trans h.c, (grownBy_keeps_cells hg hr h.b rfl).trans h.b, (grownBy_keeps_cells hg hr h.o rfl).trans h.o, (grownBy_keeps_cells hg hr h.l rfl).trans h.l⟩
theorem NxI.alloc {w : World} {p : Nat} {s : NS} {W : World} (h : NxI w p s W) (x : Obj) : NxI w p s (W.alloc x) := ⟨alloc_keep h.c x, alloc_keep h.b x, alloc_keep h.o x, alloc_keep h.l x⟩

theorem KpS.alloc (S : Nat → Prop) (W : World) (o : Obj) : KpS S W (W.alloc o) := ⟨by simp, fun b _ hb _ _ => alloc_keep hb o⟩
theorem KpS.putObj {S : Nat → Prop} {W : World} {l : Nat} {o : Obj} (o' : Obj) (h : W.heap[l]? = some o) (hc : o.isCells = false) (hw : o.isWalk = false) : KpS S W (W.putObj l o') :=
  ⟨by simp, fun b x hb hx _ => by
    by_cases e : b = l
    · subst e; rw [h] at hb; cases hb; rw [hc, hw] at hx; simp at hx
    · exact (World.putObj_heap_other e).trans hb⟩

/-- What the round's end says. -/
theorem nx_out {w W W1 : World} {p B : Nat} {s s' : NS} {Q : Prop} (hk : KeepsOthers W W1) (hp : KpS (NxS w) W W1) (hf : Fr No w W1) (hi : NxI w p s W1) (e : s' = s) (h : KeepsFrom B W W1 ∧ KpS (NxS w) W W1 ∧ (NxI w p s' W1 ∧ Below w.heap.size w W1) → Q) : Q :=
  h ⟨hk.from _, hp, e ▸ hi, hf.below⟩

set_option maxHeartbeats 8000000 in
set_option maxRecDepth 100000 in
theorem next_in {w : World} {p bh bd : Nat} {m k : Int} {hl : List (Int × (Int × Bool))} {dl : List (Int × Int)} (hlen : hl.length ≤ 12) (C : CacheAt w p m k hl dl bh bd) :
    CallsIn Fence.wide 9 Try.prog 16 #[.pointer (some ⟨p, 0, none⟩)] w fun e W' => e = .returned (.tuple #[.int .u32 (nx dl hl).best, .bool (nx dl hl).ok]) ∧ Below w.heap.size w W' := by
  obtain ⟨hU, hUe⟩ := uh_of C.held.wf
  have HC := hid C
  clear C
  refine callsIn_of_wp_marks Try.func16 rfl trivial ?_ rfl
  simp only [Try.ntmps16, List.size_toArray, List.length_cons, List.length_nil, Nat.reduceAdd, Nat.reduceSub, Array.replicate_succ, Array.replicate_zero, List.push_toArray, List.append_toArray, List.nil_append, List.cons_append]
  gi_wp2_with (refine ⟨trivial, ?_⟩; refine callsIn_wide.2 (sorted_ok ?_))
  have hA : NxI w p ⟨0, false, 0, 0⟩ (((((w.alloc (.cells #[.pointer (some ⟨p, 0, none⟩)] 23)).alloc (.cells #[.int .u32 0] 27)).alloc (.cells #[.bool false] 4)).alloc (.cells #[.int .i64 0, .int .i64 0] 65)).alloc (.cells #[.pointer (some ⟨p, 0, none⟩)] 23)) := by
    refine ⟨?_, ?_, ?_, ?_⟩
    · exact alloc_keep (alloc_keep (alloc_keep (alloc_keep (heap_alloc_new w _) _) _) _) _
    · have := heap_alloc_new (w.alloc (.cells #[.pointer (some ⟨p, 0, none⟩)] 23)) (.cells #[.int .u32 0] 27)
      simp only [World.size_alloc] at this
      exact alloc_keep (alloc_keep (alloc_keep this _) _) _
    · have := heap_alloc_new ((w.alloc (.cells #[.pointer (some ⟨p, 0, none⟩)] 23)).alloc (.cells #[.int .u32 0] 27)) (.cells #[.bool false] 4)
      simp only [World.size_alloc] at this
      exact alloc_keep (alloc_keep this _) _
    · have := heap_alloc_new (((w.alloc (.cells #[.pointer (some ⟨p, 0, none⟩)] 23)).alloc (.cells #[.int .u32 0] 27)).alloc (.cells #[.bool false] 4)) (.cells #[.int .i64 0, .int .i64 0] 65)
      simp only [World.size_alloc] at this
      exact alloc_keep this _
  have hX : (((((w.alloc (.cells #[.pointer (some ⟨p, 0, none⟩)] 23)).alloc (.cells #[.int .u32 0] 27)).alloc (.cells #[.bool false] 4)).alloc (.cells #[.int .i64 0, .int .i64 0] 65)).alloc (.cells #[.pointer (some ⟨p, 0, none⟩)] 23)).heap[w.heap.size + 1 + 1 + 1 + 1]? = some (.cells #[.pointer (some ⟨p, 0, none⟩)] 23 (0, 0)) := by
    have := heap_alloc_new ((((w.alloc (.cells #[.pointer (some ⟨p, 0, none⟩)] 23)).alloc (.cells #[.int .u32 0] 27)).alloc (.cells #[.bool false] 4)).alloc (.cells #[.int .i64 0, .int .i64 0] 65)) (.cells #[.pointer (some ⟨p, 0, none⟩)] 23)
    simpa only [World.size_alloc] using this
  have hB0 : Below w.heap.size w (((((w.alloc (.cells #[.pointer (some ⟨p, 0, none⟩)] 23)).alloc (.cells #[.int .u32 0] 27)).alloc (.cells #[.bool false] 4)).alloc (.cells #[.int .i64 0, .int .i64 0] 65)).alloc (.cells #[.pointer (some ⟨p, 0, none⟩)] 23)) :=
    ((((((Fr.refl No w).alloc _).alloc _).alloc _).alloc _).alloc _).below
  have hsz : (((((w.alloc (.cells #[.pointer (some ⟨p, 0, none⟩)] 23)).alloc (.cells #[.int .u32 0] 27)).alloc (.cells #[.bool false] 4)).alloc (.cells #[.int .i64 0, .int .i64 0] 65)).alloc (.cells #[.pointer (some ⟨p, 0, none⟩)] 23)).heap.size = w.heap.size + 5 := by simp
  obtain ⟨W0, hW0⟩ : ∃ W0, (((((w.alloc (.cells #[.pointer (some ⟨p, 0, none⟩)] 23)).alloc (.cells #[.int .u32 0] 27)).alloc (.cells #[.bool false] 4)).alloc (.cells #[.int .i64 0, .int .i64 0] 65)).alloc (.cells #[.pointer (some ⟨p, 0, none⟩)] 23)) = W0 := ⟨_, rfl⟩
  rw [hW0] at hA hX hB0 hsz ⊢
  clear hW0
  have C0 := hid (HC.out.no (Fr.of_below hB0))
  have hlt0 := HC.out.lt
  have hsC : ∀ b, CacheS p bh bd b → ¬ NxS w b := fun b hb hs => by
    have := hlt0 b hb
    rcases hs with h | h | h <;> omega
  refine wpIn_rangeFunc_ownH rfl (by decide) (gf := 55) (lb := #[.pointer (some ⟨w.heap.size + 1 + 1 + 1 + 1, 0, none⟩)]) rfl trivial (enters_of Try.func55 (by kernel_rfl) rfl)
    (sorted1_stops (S := NxS w) 8 (by decide) (w.heap.size + 1 + 1 + 1 + 1) p hlen hUe W0 (fun b hb => by rcases hb with h | h | h <;> omega) hX (fun hs => by rcases hs with h | h | h <;> omega) C0.out hsC) KpS.trans (fun W l o o' _ h hc hw => KpS.putObj o' h hc hw) (Below.refl _ _) (fun _ => rfl)
    (fun (pre : List UH) W => NxI w p (nx dl (pre.map Subtype.val)) W ∧ Below w.heap.size w W)
    (fun _ _ _ => False)
    (OwnFrom.and (fun s W W' row hs hg hr => hs.kept hg (fun r e => (hr r e).2)) (ownFrom_below (Nat.le_refl _) (by omega)))
    (fun _ _ _ _ _ hs _ _ => hs)
    ⟨hA, hB0⟩
    (fun x a' W => ∃ Bx, w.heap.size + 1 + 1 + 1 < Bx ∧ W.heap[Bx]? = some (.cells #[.int .i64 x.1.2.1, .bool x.1.2.2] 60 (0, 0)) ∧ a' = { tmps := #[.pointer (some ⟨p, 0, none⟩), .pointer (some ⟨w.heap.size, 0, none⟩), .pointer (some ⟨w.heap.size + 1, 0, none⟩), .pointer (some ⟨w.heap.size + 1 + 1, 0, none⟩), .pointer (some ⟨w.heap.size + 1 + 1 + 1, 0, none⟩), .int .u32 x.1.1, .pointer (some ⟨Bx, 0, none⟩), undef, .pointer (some ⟨p, 0, none⟩), .func (.func 55) #[] #[.pointer (some ⟨w.heap.size + 1 + 1 + 1 + 1, 0, none⟩)], .int .u32 x.1.1, encH x.1.2, undef, undef, undef, undef, undef, undef, undef, undef, undef, undef, undef, undef, undef, undef, undef, undef, undef, undef, undef, undef, undef, undef, undef, undef, undef, undef], defers := [] })
    (fun x a' _ X Y row hs hg hr => by obtain ⟨Bx, h1, h2, h3⟩ := hs; exact ⟨Bx, h1, (grownBy_keeps_cells hg (fun r e => (hr r e).2) h2 rfl).trans h2, h3⟩)
    ?assign ?body ?done ?stop
  case assign =>
    rintro l pre ⟨⟨kx, u, d⟩, hwf⟩ W K ⟨hI, hB1⟩ hK
    gi_wp2
    exact hK _ _ ((KeepsOthers.alloc _ _).from _) (KpS.alloc _ _ _) ⟨hI.alloc _, hB1.alloc hB1.size _⟩ ⟨W.heap.size, lt_of_heap hI.l, heap_alloc_new W _, rfl⟩
  case body =>
    rintro l pre ⟨⟨kx, u, d⟩, hwf⟩ a' W hl ⟨r, hr⟩ ⟨hI, hB1⟩ ⟨Bx, hBx, bX, rfl⟩ hlt
    have hmx : Try.prog.follows .mixedOrders = true := follows
    have HI := hid hI
    have HB1 := hid hB1
    have HBX := hid bX
    have HDM : Hid (MapAt Try.prog 27 .u32 encD W bd dl) := HC.out.dear.heap (hB1.block bd (HC.out.dear.lt))
    have q0 : W.cell? ⟨w.heap.size, 0, none⟩ = some (.pointer (some ⟨p, 0, none⟩)) := cell_at hI.c rfl
    have q1 : W.cell? ⟨p, 3, none⟩ = some (.map (some bd)) := cell_at ((hB1.block p (lt_of_heap HC.out.head)).trans HC.out.head) rfl
    have q2 : W.cell? ⟨Bx, 0, none⟩ = some (.int .i64 u) := cell_at bX rfl
    have q3 : W.cell? ⟨Bx, 1, none⟩ = some (.bool d) := cell_at bX rfl
    have hwf : (Lit.int .u32 kx).wf = true := hwf
    have hlk : (Instr.lookup 56 (.map (some bd)) (.int .u32 kx) false).run Try.prog W.drew = .ok (encD ((aget dl kx).getD 0)) W.drew := run_look HDM.out.drew fidU dearU (zeroI _) hwf
    clear hI hB1 bX
    gi_wp2
    refine region_heldIn (m := 11) (fun V => V.cell? ⟨w.heap.size, 0, none⟩ = some (.pointer (some ⟨p, 0, none⟩)) ∧ V.cell? ⟨p, 3, none⟩ = some (.map (some bd)) ∧ V.cell? ⟨Bx, 0, none⟩ = some (.int .i64 u) ∧ MapAt Try.prog 27 .u32 encD V bd dl) follows (by kernel_rfl) (by kernel_rfl) ?_
    have HS : (fun V : World => V.cell? ⟨w.heap.size, 0, none⟩ = some (.pointer (some ⟨p, 0, none⟩)) ∧ V.cell? ⟨p, 3, none⟩ = some (.map (some bd)) ∧ V.cell? ⟨Bx, 0, none⟩ = some (.int .i64 u) ∧ MapAt Try.prog 27 .u32 encD V bd dl) W.drew := ⟨q0, q1, q2, HDM.out.drew⟩
    (refine h_val (v := .pointer (some ⟨p, 0, none⟩)) 0 rfl (by kernel_rfl) (by kernel_rfl) (by kernel_rfl) (fun _ _ _ h => h) HS (by kernel_rfl) (fun W hW => run_loadv rfl rfl (var_cell cacheU rfl hW.1)) ?_; simp only [Act.put, Act.eval, Array.getD_eq_getD_getElem?, List.setIfInBounds_toArray, List.set_cons_succ, List.set_cons_zero, List.getElem?_toArray, List.getElem?_cons_succ, List.getElem?_cons_zero, Option.getD_some])
    (refine h_val 1 rfl (by kernel_rfl) (by kernel_rfl) (by kernel_rfl) (fun _ _ _ h => h) HS (by kernel_rfl) (fun W _ => run_nilCheck rfl rfl W) ?_; simp only [Act.put, Act.eval, Array.getD_eq_getD_getElem?, List.setIfInBounds_toArray, List.set_cons_succ, List.set_cons_zero, List.getElem?_toArray, List.getElem?_cons_succ, List.getElem?_cons_zero, Option.getD_some])
    (refine h_val 2 rfl (by kernel_rfl) (by kernel_rfl) (by kernel_rfl) (fun _ _ _ h => h) HS (by kernel_rfl) (fun W _ => run_field rfl rfl (fieldC3 p) W) ?_; simp only [Act.put, Act.eval, Array.getD_eq_getD_getElem?, List.setIfInBounds_toArray, List.set_cons_succ, List.set_cons_zero, List.getElem?_toArray, List.getElem?_cons_succ, List.getElem?_cons_zero, Option.getD_some])
    (refine h_val (v := .map (some bd)) 3 rfl (by kernel_rfl) (by kernel_rfl) (by kernel_rfl) (fun _ _ _ h => h) HS (by kernel_rfl) (fun W hW => run_loadv rfl rfl (var_cell dearU rfl hW.2.1)) ?_; simp only [Act.put, Act.eval, Array.getD_eq_getD_getElem?, List.setIfInBounds_toArray, List.set_cons_succ, List.set_cons_zero, List.getElem?_toArray, List.getElem?_cons_succ, List.getElem?_cons_zero, Option.getD_some])
    (refine h_val 4 rfl (by kernel_rfl) (by kernel_rfl) (by kernel_rfl) (fun _ _ _ h => h) HS (by kernel_rfl) (fun W _ => run_move rfl rfl W) ?_; simp only [Act.put, Act.eval, Array.getD_eq_getD_getElem?, List.setIfInBounds_toArray, List.set_cons_succ, List.set_cons_zero, List.getElem?_toArray, List.getElem?_cons_succ, List.getElem?_cons_zero, Option.getD_some])
    (refine h_val (v := .int .i64 ((aget dl kx).getD 0)) 5 rfl (by kernel_rfl) (by kernel_rfl) (by kernel_rfl) (fun _ _ _ h => h) HS (by kernel_rfl) (fun W hW => run_look_op rfl rfl rfl (run_look hW.2.2.2 fidU dearU (zeroI _) hwf)) ?_; simp only [Act.put, Act.eval, Array.getD_eq_getD_getElem?, List.setIfInBounds_toArray, List.set_cons_succ, List.set_cons_zero, List.getElem?_toArray, List.getElem?_cons_succ, List.getElem?_cons_zero, Option.getD_some])
    (refine h_val 6 rfl (by kernel_rfl) (by kernel_rfl) (by kernel_rfl) (fun _ _ _ h => h) HS (by kernel_rfl) (fun W _ => run_field rfl rfl (fieldH0 Bx) W) ?_; simp only [Act.put, Act.eval, Array.getD_eq_getD_getElem?, List.setIfInBounds_toArray, List.set_cons_succ, List.set_cons_zero, List.getElem?_toArray, List.getElem?_cons_succ, List.getElem?_cons_zero, Option.getD_some])
    (refine h_val (v := .int .i64 u) 7 rfl (by kernel_rfl) (by kernel_rfl) (by kernel_rfl) (fun _ _ _ h => h) HS (by kernel_rfl) (fun W hW => run_loadv rfl rfl (var_cell intU rfl hW.2.2.1)) ?_; simp only [Act.put, Act.eval, Array.getD_eq_getD_getElem?, List.setIfInBounds_toArray, List.set_cons_succ, List.set_cons_zero, List.getElem?_toArray, List.getElem?_cons_succ, List.getElem?_cons_zero, Option.getD_some])
    (refine h_val (v := .agg #[.int .i64 ((aget dl kx).getD 0), .int .i64 u]) 8 rfl (by kernel_rfl) (by kernel_rfl) (by kernel_rfl) (fun _ _ _ h => h) HS (by kernel_rfl) (fun W _ => by kernel_rfl) ?_; simp only [Act.put, Act.eval, Array.getD_eq_getD_getElem?, List.setIfInBounds_toArray, List.set_cons_succ, List.set_cons_zero, List.getElem?_toArray, List.getElem?_cons_succ, List.getElem?_cons_zero, Option.getD_some])
    have HS9 := And.intro (cell_alloc HS.1 (.cells #[.int .i64 0, .int .i64 0] 65)) (And.intro (cell_alloc HS.2.1 (.cells #[.int .i64 0, .int .i64 0] 65)) (And.intro (cell_alloc HS.2.2.1 (.cells #[.int .i64 0, .int .i64 0] 65)) (HS.2.2.2.alloc (.cells #[.int .i64 0, .int .i64 0] 65))))
    have HS10 := And.intro (cell_alloc HS.1 (.cells #[.int .i64 ((aget dl kx).getD 0), .int .i64 u] 65)) (And.intro (cell_alloc HS.2.1 (.cells #[.int .i64 ((aget dl kx).getD 0), .int .i64 u] 65)) (And.intro (cell_alloc HS.2.2.1 (.cells #[.int .i64 ((aget dl kx).getD 0), .int .i64 u] 65)) (HS.2.2.2.alloc (.cells #[.int .i64 ((aget dl kx).getD 0), .int .i64 u] 65))))
    (refine h_one 9 (by kernel_rfl) rfl (by kernel_rfl) (run_allocr rfl (zeroP _)) (HS9) ?_; simp only [Act.put, Act.eval, Array.getD_eq_getD_getElem?, List.setIfInBounds_toArray, List.set_cons_succ, List.set_cons_zero, List.getElem?_toArray, List.getElem?_cons_succ, List.getElem?_cons_zero, Option.getD_some])
    (refine h_oneU 10 (by kernel_rfl) rfl (by kernel_rfl) (run_stores rfl rfl rfl (run_storeVar_new W.drew _ _ #[.int .i64 ((aget dl kx).getD 0), .int .i64 u] (by rw [pairI]; rfl) rfl (by simp [Value.oneCell']))) (HS10) ?_; simp only [Act.put, Act.eval, Array.getD_eq_getD_getElem?, List.setIfInBounds_toArray, List.set_cons_succ, List.set_cons_zero, List.getElem?_toArray, List.getElem?_cons_succ, List.getElem?_cons_zero, Option.getD_some])
    refine h_done (by kernel_rfl) ?_
    obtain ⟨s, hs⟩ : ∃ s, nx dl (pre.map Subtype.val) = s := ⟨_, rfl⟩
    have HNX : Hid (nx dl ((pre ++ [(⟨(kx, u, d), hwf⟩ : UH)]).map Subtype.val) = nxStep dl s (kx, u, d)) := by show _ = _; rw [← hs]; simp [nx]
    have HI1 : Hid (NxI w p s (W.drew.alloc (.cells #[.int .i64 ((aget dl kx).getD 0), .int .i64 u] 65))) := by show NxI _ _ _ _; rw [← hs]; exact (show NxI w p (nx dl (pre.map Subtype.val)) W.drew from ⟨HI.out.c, HI.out.b, HI.out.o, HI.out.l⟩).alloc _
    have HX1 : Hid ((W.drew.alloc (.cells #[.int .i64 ((aget dl kx).getD 0), .int .i64 u] 65)).heap[Bx]? = some (.cells #[.int .i64 u, .bool d] 60 (0, 0))) := alloc_keep (w := W.drew) HBX.out _
    have H71 : Hid ((W.drew.alloc (.cells #[.int .i64 ((aget dl kx).getD 0), .int .i64 u] 65)).heap[W.heap.size]? = some (.cells #[.int .i64 ((aget dl kx).getD 0), .int .i64 u] 65 (0, 0))) := heap_alloc_new W.drew _
    obtain ⟨c, hc⟩ : ∃ c, (aget dl kx).getD 0 = c := ⟨_, rfl⟩
    have HCC := hid hc
    have NE7 : Hid (w.heap.size + 1 + 1 + 1 < W.heap.size) := lt_of_heap HI.out.l
    clear HS HS9 HS10 hs q0 q1 q2 q3 HI
    rw [hc] at HI1 HX1 H71 ⊢
    clear hc
    obtain ⟨W1, hW1⟩ : ∃ W1, W1 = W.drew.alloc (.cells #[.int .i64 c, .int .i64 u] 65) := ⟨_, rfl⟩
    have HK1 : Hid (KeepsOthers W W1) := by rw [hW1]; exact ⟨by simp, fun k o hk _ => alloc_keep (w := W.drew) hk _⟩
    have HF1 : Hid (Fr No w W1) := by rw [hW1]; exact ((Fr.of_below HB1.out).drew).alloc _
    have HP1 : Hid (KpS (NxS w) W W1) := by rw [hW1]; exact ⟨by simp, fun k o hk _ _ => alloc_keep (w := W.drew) hk _⟩
    rw [← hW1] at HI1 HX1 H71 ⊢
    clear hW1
    dsimp only [Qn]
    gi_wp2
    obtain ⟨sb, so, s0, s1⟩ := s
    cases d with
    | true =>
      refine region_heldIn (m := 13) (fun V => V.cell? ⟨Bx, 1, none⟩ = some (.bool true)) follows (by kernel_rfl) (by kernel_rfl) ?_
      have HS : (fun V : World => V.cell? ⟨Bx, 1, none⟩ = some (.bool true)) W1.drew := cell_at HX1.out rfl
      (refine h_val 0 rfl (by kernel_rfl) (by kernel_rfl) (by kernel_rfl) (fun _ _ _ h => h) HS (by kernel_rfl) (fun W _ => run_field rfl rfl (fieldH1 Bx) W) ?_; simp only [Act.put, Act.eval, Array.getD_eq_getD_getElem?, List.setIfInBounds_toArray, List.set_cons_succ, List.set_cons_zero, List.getElem?_toArray, List.getElem?_cons_succ, List.getElem?_cons_zero, Option.getD_some])
      (refine h_val (v := .bool true) 1 rfl (by kernel_rfl) (by kernel_rfl) (by kernel_rfl) (fun _ _ _ h => h) HS (by kernel_rfl) (fun W hW => run_loadv rfl rfl (var_cell boolU rfl hW)) ?_; simp only [Act.put, Act.eval, Array.getD_eq_getD_getElem?, List.setIfInBounds_toArray, List.set_cons_succ, List.set_cons_zero, List.getElem?_toArray, List.getElem?_cons_succ, List.getElem?_cons_zero, Option.getD_some])
      (refine h_val (v := .bool false) 2 rfl (by kernel_rfl) (by kernel_rfl) (by kernel_rfl) (fun _ _ _ h => h) HS (by kernel_rfl) (fun W _ => by kernel_rfl) ?_; simp only [Act.put, Act.eval, Array.getD_eq_getD_getElem?, List.setIfInBounds_toArray, List.set_cons_succ, List.set_cons_zero, List.getElem?_toArray, List.getElem?_cons_succ, List.getElem?_cons_zero, Option.getD_some])
      (refine h_val 3 rfl (by kernel_rfl) (by kernel_rfl) (by kernel_rfl) (fun _ _ _ h => h) HS (by kernel_rfl) (fun W _ => run_move rfl rfl W) ?_; simp only [Act.put, Act.eval, Array.getD_eq_getD_getElem?, List.setIfInBounds_toArray, List.set_cons_succ, List.set_cons_zero, List.getElem?_toArray, List.getElem?_cons_succ, List.getElem?_cons_zero, Option.getD_some])
      (refine h_skip 4 rfl (by kernel_rfl) (by kernel_rfl) (by kernel_rfl) (fun _ _ _ h => h) HS (by kernel_rfl) ?_; simp only [Act.put, Act.eval, Array.getD_eq_getD_getElem?, List.setIfInBounds_toArray, List.set_cons_succ, List.set_cons_zero, List.getElem?_toArray, List.getElem?_cons_succ, List.getElem?_cons_zero, Option.getD_some])
      (refine h_skip 5 rfl (by kernel_rfl) (by kernel_rfl) (by kernel_rfl) (fun _ _ _ h => h) HS (by kernel_rfl) ?_; simp only [Act.put, Act.eval, Array.getD_eq_getD_getElem?, List.setIfInBounds_toArray, List.set_cons_succ, List.set_cons_zero, List.getElem?_toArray, List.getElem?_cons_succ, List.getElem?_cons_zero, Option.getD_some])
      (refine h_skip 6 rfl (by kernel_rfl) (by kernel_rfl) (by kernel_rfl) (fun _ _ _ h => h) HS (by kernel_rfl) ?_; simp only [Act.put, Act.eval, Array.getD_eq_getD_getElem?, List.setIfInBounds_toArray, List.set_cons_succ, List.set_cons_zero, List.getElem?_toArray, List.getElem?_cons_succ, List.getElem?_cons_zero, Option.getD_some])
      (refine h_skip 7 rfl (by kernel_rfl) (by kernel_rfl) (by kernel_rfl) (fun _ _ _ h => h) HS (by kernel_rfl) ?_; simp only [Act.put, Act.eval, Array.getD_eq_getD_getElem?, List.setIfInBounds_toArray, List.set_cons_succ, List.set_cons_zero, List.getElem?_toArray, List.getElem?_cons_succ, List.getElem?_cons_zero, Option.getD_some])
      (refine h_skip 8 rfl (by kernel_rfl) (by kernel_rfl) (by kernel_rfl) (fun _ _ _ h => h) HS (by kernel_rfl) ?_; simp only [Act.put, Act.eval, Array.getD_eq_getD_getElem?, List.setIfInBounds_toArray, List.set_cons_succ, List.set_cons_zero, List.getElem?_toArray, List.getElem?_cons_succ, List.getElem?_cons_zero, Option.getD_some])
      (refine h_skip 9 rfl (by kernel_rfl) (by kernel_rfl) (by kernel_rfl) (fun _ _ _ h => h) HS (by kernel_rfl) ?_; simp only [Act.put, Act.eval, Array.getD_eq_getD_getElem?, List.setIfInBounds_toArray, List.set_cons_succ, List.set_cons_zero, List.getElem?_toArray, List.getElem?_cons_succ, List.getElem?_cons_zero, Option.getD_some])
      (refine h_skip 10 rfl (by kernel_rfl) (by kernel_rfl) (by kernel_rfl) (fun _ _ _ h => h) HS (by kernel_rfl) ?_; simp only [Act.put, Act.eval, Array.getD_eq_getD_getElem?, List.setIfInBounds_toArray, List.set_cons_succ, List.set_cons_zero, List.getElem?_toArray, List.getElem?_cons_succ, List.getElem?_cons_zero, Option.getD_some])
      (refine h_skip 11 rfl (by kernel_rfl) (by kernel_rfl) (by kernel_rfl) (fun _ _ _ h => h) HS (by kernel_rfl) ?_; simp only [Act.put, Act.eval, Array.getD_eq_getD_getElem?, List.setIfInBounds_toArray, List.set_cons_succ, List.set_cons_zero, List.getElem?_toArray, List.getElem?_cons_succ, List.getElem?_cons_zero, Option.getD_some])
      (refine h_val 12 rfl (by kernel_rfl) (by kernel_rfl) (by kernel_rfl) (fun _ _ _ h => h) HS (by kernel_rfl) (fun W _ => run_pickF rfl rfl rfl W) ?_; simp only [Act.put, Act.eval, Array.getD_eq_getD_getElem?, List.setIfInBounds_toArray, List.set_cons_succ, List.set_cons_zero, List.getElem?_toArray, List.getElem?_cons_succ, List.getElem?_cons_zero, Option.getD_some])
      refine h_done (by kernel_rfl) ?_
      clear HS
      dsimp only [Qn]
      gi_wp2
      refine nx_out (W1 := W1.drew) (HK1.out.trans (KeepsOthers.drew _)) (HP1.out.trans ⟨Nat.le_refl _, fun _ _ h _ _ => h⟩) HF1.out.drew ⟨HI1.out.c, HI1.out.b, HI1.out.o, HI1.out.l⟩ ?_ (fun h => h)
      rw [HNX.out]
      simp [nxStep]
    | false =>
      cases so with
      | false =>
        refine region_heldIn (m := 13) (fun V => V.cell? ⟨Bx, 1, none⟩ = some (.bool false) ∧ V.cell? ⟨w.heap.size + 1 + 1, 0, none⟩ = some (.bool false)) follows (by kernel_rfl) (by kernel_rfl) ?_
        have HS : (fun V : World => V.cell? ⟨Bx, 1, none⟩ = some (.bool false) ∧ V.cell? ⟨w.heap.size + 1 + 1, 0, none⟩ = some (.bool false)) W1.drew := ⟨cell_at HX1.out rfl, cell_at HI1.out.o rfl⟩
        (refine h_val 0 rfl (by kernel_rfl) (by kernel_rfl) (by kernel_rfl) (fun _ _ _ h => h) HS (by kernel_rfl) (fun W _ => run_field rfl rfl (fieldH1 Bx) W) ?_; simp only [Act.put, Act.eval, Array.getD_eq_getD_getElem?, List.setIfInBounds_toArray, List.set_cons_succ, List.set_cons_zero, List.getElem?_toArray, List.getElem?_cons_succ, List.getElem?_cons_zero, Option.getD_some])
        (refine h_val (v := .bool false) 1 rfl (by kernel_rfl) (by kernel_rfl) (by kernel_rfl) (fun _ _ _ h => h) HS (by kernel_rfl) (fun W hW => run_loadv rfl rfl (var_cell boolU rfl hW.1)) ?_; simp only [Act.put, Act.eval, Array.getD_eq_getD_getElem?, List.setIfInBounds_toArray, List.set_cons_succ, List.set_cons_zero, List.getElem?_toArray, List.getElem?_cons_succ, List.getElem?_cons_zero, Option.getD_some])
        (refine h_val (v := .bool true) 2 rfl (by kernel_rfl) (by kernel_rfl) (by kernel_rfl) (fun _ _ _ h => h) HS (by kernel_rfl) (fun W _ => by kernel_rfl) ?_; simp only [Act.put, Act.eval, Array.getD_eq_getD_getElem?, List.setIfInBounds_toArray, List.set_cons_succ, List.set_cons_zero, List.getElem?_toArray, List.getElem?_cons_succ, List.getElem?_cons_zero, Option.getD_some])
        (refine h_val 3 rfl (by kernel_rfl) (by kernel_rfl) (by kernel_rfl) (fun _ _ _ h => h) HS (by kernel_rfl) (fun W _ => run_move rfl rfl W) ?_; simp only [Act.put, Act.eval, Array.getD_eq_getD_getElem?, List.setIfInBounds_toArray, List.set_cons_succ, List.set_cons_zero, List.getElem?_toArray, List.getElem?_cons_succ, List.getElem?_cons_zero, Option.getD_some])
        (refine h_val (v := .bool false) 4 rfl (by kernel_rfl) (by kernel_rfl) (by kernel_rfl) (fun _ _ _ h => h) HS (by kernel_rfl) (fun W hW => run_loadv rfl rfl (var_cell boolU rfl hW.2)) ?_; simp only [Act.put, Act.eval, Array.getD_eq_getD_getElem?, List.setIfInBounds_toArray, List.set_cons_succ, List.set_cons_zero, List.getElem?_toArray, List.getElem?_cons_succ, List.getElem?_cons_zero, Option.getD_some])
        (refine h_val (v := .bool true) 5 rfl (by kernel_rfl) (by kernel_rfl) (by kernel_rfl) (fun _ _ _ h => h) HS (by kernel_rfl) (fun W _ => by kernel_rfl) ?_; simp only [Act.put, Act.eval, Array.getD_eq_getD_getElem?, List.setIfInBounds_toArray, List.set_cons_succ, List.set_cons_zero, List.getElem?_toArray, List.getElem?_cons_succ, List.getElem?_cons_zero, Option.getD_some])
        (refine h_val 6 rfl (by kernel_rfl) (by kernel_rfl) (by kernel_rfl) (fun _ _ _ h => h) HS (by kernel_rfl) (fun W _ => run_move rfl rfl W) ?_; simp only [Act.put, Act.eval, Array.getD_eq_getD_getElem?, List.setIfInBounds_toArray, List.set_cons_succ, List.set_cons_zero, List.getElem?_toArray, List.getElem?_cons_succ, List.getElem?_cons_zero, Option.getD_some])
        (refine h_skip 7 rfl (by kernel_rfl) (by kernel_rfl) (by kernel_rfl) (fun _ _ _ h => h) HS (by kernel_rfl) ?_; simp only [Act.put, Act.eval, Array.getD_eq_getD_getElem?, List.setIfInBounds_toArray, List.set_cons_succ, List.set_cons_zero, List.getElem?_toArray, List.getElem?_cons_succ, List.getElem?_cons_zero, Option.getD_some])
        (refine h_skip 8 rfl (by kernel_rfl) (by kernel_rfl) (by kernel_rfl) (fun _ _ _ h => h) HS (by kernel_rfl) ?_; simp only [Act.put, Act.eval, Array.getD_eq_getD_getElem?, List.setIfInBounds_toArray, List.set_cons_succ, List.set_cons_zero, List.getElem?_toArray, List.getElem?_cons_succ, List.getElem?_cons_zero, Option.getD_some])
        (refine h_skip 9 rfl (by kernel_rfl) (by kernel_rfl) (by kernel_rfl) (fun _ _ _ h => h) HS (by kernel_rfl) ?_; simp only [Act.put, Act.eval, Array.getD_eq_getD_getElem?, List.setIfInBounds_toArray, List.set_cons_succ, List.set_cons_zero, List.getElem?_toArray, List.getElem?_cons_succ, List.getElem?_cons_zero, Option.getD_some])
        (refine h_skip 10 rfl (by kernel_rfl) (by kernel_rfl) (by kernel_rfl) (fun _ _ _ h => h) HS (by kernel_rfl) ?_; simp only [Act.put, Act.eval, Array.getD_eq_getD_getElem?, List.setIfInBounds_toArray, List.set_cons_succ, List.set_cons_zero, List.getElem?_toArray, List.getElem?_cons_succ, List.getElem?_cons_zero, Option.getD_some])
        (refine h_val 11 rfl (by kernel_rfl) (by kernel_rfl) (by kernel_rfl) (fun _ _ _ h => h) HS (by kernel_rfl) (fun W _ => run_pickT rfl rfl rfl W) ?_; simp only [Act.put, Act.eval, Array.getD_eq_getD_getElem?, List.setIfInBounds_toArray, List.set_cons_succ, List.set_cons_zero, List.getElem?_toArray, List.getElem?_cons_succ, List.getElem?_cons_zero, Option.getD_some])
        (refine h_val 12 rfl (by kernel_rfl) (by kernel_rfl) (by kernel_rfl) (fun _ _ _ h => h) HS (by kernel_rfl) (fun W _ => run_pickT rfl rfl rfl W) ?_; simp only [Act.put, Act.eval, Array.getD_eq_getD_getElem?, List.setIfInBounds_toArray, List.set_cons_succ, List.set_cons_zero, List.getElem?_toArray, List.getElem?_cons_succ, List.getElem?_cons_zero, Option.getD_some])
        refine h_done (by kernel_rfl) ?_
        clear HS
        dsimp only [Qn]
        gi_wp2
        refine region_heldIn (m := 5) (fun V => V.heap[W.heap.size]? = some (.cells #[.int .i64 c, .int .i64 u] 65 (0, 0))) follows (by kernel_rfl) (by kernel_rfl) ?_
        have HS : (fun V : World => V.heap[W.heap.size]? = some (.cells #[.int .i64 c, .int .i64 u] 65 (0, 0))) W1.drew.drew := H71.out
        (refine h_val 0 rfl (by kernel_rfl) (by kernel_rfl) (by kernel_rfl) (fun _ _ _ h => h) HS (by kernel_rfl) (fun W _ => run_move rfl rfl W) ?_; simp only [Act.put, Act.eval, Array.getD_eq_getD_getElem?, List.setIfInBounds_toArray, List.set_cons_succ, List.set_cons_zero, List.getElem?_toArray, List.getElem?_cons_succ, List.getElem?_cons_zero, Option.getD_some])
        (refine h_val (v := .agg #[.int .i64 c, .int .i64 u]) 1 rfl (by kernel_rfl) (by kernel_rfl) (by kernel_rfl) (fun _ _ _ h => h) HS (by kernel_rfl) (fun W hW => run_loadv rfl rfl (var_row hW pairU (by rw [pairI]; rfl))) ?_; simp only [Act.put, Act.eval, Array.getD_eq_getD_getElem?, List.setIfInBounds_toArray, List.set_cons_succ, List.set_cons_zero, List.getElem?_toArray, List.getElem?_cons_succ, List.getElem?_cons_zero, Option.getD_some])
        have b1 : W1.drew.drew.heap[w.heap.size + 1]? = some (.cells #[.int .u32 sb] 27 (0, 0)) := HI1.out.b
        have S1 := setRow_keep HS (w.heap.size + 1) #[.int .u32 kx] (by have := NE7.out; omega)
        (refine h_oneU 2 (by kernel_rfl) rfl (by kernel_rfl) (run_stores rfl rfl rfl (run_storeVar_one W1.drew.drew _ _ _ _ _ b1 fidS rfl)) (S1) ?_; simp only [Act.put, Act.eval, Array.getD_eq_getD_getElem?, List.setIfInBounds_toArray, List.set_cons_succ, List.set_cons_zero, List.getElem?_toArray, List.getElem?_cons_succ, List.getElem?_cons_zero, Option.getD_some])
        have b2 : (W1.drew.drew.setRow (w.heap.size + 1) #[.int .u32 kx]).heap[w.heap.size + 1 + 1 + 1]? = some (.cells #[.int .i64 s0, .int .i64 s1] 65 (0, 0)) := setRow_keep HI1.out.l _ _ (by omega)
        have S2 := setRow_keep S1 (w.heap.size + 1 + 1 + 1) #[.int .i64 c, .int .i64 u] (by have := NE7.out; omega)
        (refine h_oneU 3 (by kernel_rfl) rfl (by kernel_rfl) (run_stores rfl rfl rfl (run_storeVar_row _ _ _ _ _ #[.int .i64 c, .int .i64 u] b2 (by rw [pairI]; rfl) rfl (by simp [Value.oneCell']))) (S2) ?_; simp only [Act.put, Act.eval, Array.getD_eq_getD_getElem?, List.setIfInBounds_toArray, List.set_cons_succ, List.set_cons_zero, List.getElem?_toArray, List.getElem?_cons_succ, List.getElem?_cons_zero, Option.getD_some])
        have b3 : ((W1.drew.drew.setRow (w.heap.size + 1) #[.int .u32 kx]).setRow (w.heap.size + 1 + 1 + 1) #[.int .i64 c, .int .i64 u]).heap[w.heap.size + 1 + 1]? = some (.cells #[.bool false] 4 (0, 0)) := setRow_keep (setRow_keep HI1.out.o _ _ (by omega)) _ _ (by omega)
        have S3 := setRow_keep S2 (w.heap.size + 1 + 1) #[.bool true] (by have := NE7.out; omega)
        (refine h_oneU 4 (by kernel_rfl) rfl (by kernel_rfl) (run_stores rfl rfl rfl (run_storeVar_one _ _ _ _ _ _ b3 boolS rfl)) (S3) ?_; simp only [Act.put, Act.eval, Array.getD_eq_getD_getElem?, List.setIfInBounds_toArray, List.set_cons_succ, List.set_cons_zero, List.getElem?_toArray, List.getElem?_cons_succ, List.getElem?_cons_zero, Option.getD_some])
        refine h_done (by kernel_rfl) ?_
        dsimp only [Qn]
        obtain ⟨V, hV⟩ : ∃ V, V = ((W1.drew.drew.setRow (w.heap.size + 1) #[.int .u32 kx]).setRow (w.heap.size + 1 + 1 + 1) #[.int .i64 c, .int .i64 u]).setRow (w.heap.size + 1 + 1) #[.bool true] := ⟨_, rfl⟩
        have K3 : KeepsOthers W V := by rw [hV]; exact (((HK1.out.trans (KeepsOthers.drew _)).trans (KeepsOthers.drew _)).trans (KeepsOthers.setRow b1)).trans (KeepsOthers.setRow b2) |>.trans (KeepsOthers.setRow b3)
        have P3 : KpS (NxS w) W V := by rw [hV]; exact ((HP1.out.trans ⟨Nat.le_refl _, fun _ _ h _ _ => h⟩).trans (KpS.setRow (W := W1.drew.drew) _ (.inl rfl))).trans (KpS.setRow _ (.inr (.inr rfl))) |>.trans (KpS.setRow _ (.inr (.inl rfl)))
        have F3 : Fr No w V := by rw [hV]; exact ((HF1.out.drew.drew.setRow (.inr (by omega)) _).setRow (.inr (by omega)) _).setRow (.inr (by omega)) _
        have I3 : NxI w p ⟨kx, true, c, u⟩ V := by
          rw [hV]
          refine ⟨?_, ?_, ?_, ?_⟩
          · exact setRow_keep (setRow_keep (setRow_keep HI1.out.c _ _ (by omega)) _ _ (by omega)) _ _ (by omega)
          · exact setRow_keep (setRow_keep (setRow_heap W1.drew.drew _ _ _ _ _ b1) _ _ (by omega)) _ _ (by omega)
          · exact setRow_heap _ _ _ _ _ _ b3
          · exact setRow_keep (setRow_heap _ _ _ _ _ _ b2) _ _ (by omega)
        rw [← hV]
        clear hV S1 S2 S3 b1 b2 b3 HS
        have HFIN := hid (And.intro K3 (And.intro P3 (And.intro F3 I3)))
        clear K3 P3 F3 I3
        gi_wp2
        refine nx_out HFIN.out.1 HFIN.out.2.1 HFIN.out.2.2.1 HFIN.out.2.2.2 ?_ (fun h => h)
        rw [HNX.out]
        simp [nxStep, HCC.out]
      | true =>
        refine region_heldIn (m := 13) (fun V => V.cell? ⟨Bx, 1, none⟩ = some (.bool false) ∧ V.cell? ⟨w.heap.size + 1 + 1, 0, none⟩ = some (.bool true) ∧ (V.cell? ⟨W.heap.size, 0, none⟩ = some (.int .i64 c) ∧ V.cell? ⟨W.heap.size, 1, none⟩ = some (.int .i64 u)) ∧ (V.cell? ⟨w.heap.size + 1 + 1 + 1, 0, none⟩ = some (.int .i64 s0) ∧ V.cell? ⟨w.heap.size + 1 + 1 + 1, 1, none⟩ = some (.int .i64 s1))) follows (by kernel_rfl) (by kernel_rfl) ?_
        have HS : (fun V : World => V.cell? ⟨Bx, 1, none⟩ = some (.bool false) ∧ V.cell? ⟨w.heap.size + 1 + 1, 0, none⟩ = some (.bool true) ∧ (V.cell? ⟨W.heap.size, 0, none⟩ = some (.int .i64 c) ∧ V.cell? ⟨W.heap.size, 1, none⟩ = some (.int .i64 u)) ∧ (V.cell? ⟨w.heap.size + 1 + 1 + 1, 0, none⟩ = some (.int .i64 s0) ∧ V.cell? ⟨w.heap.size + 1 + 1 + 1, 1, none⟩ = some (.int .i64 s1))) W1.drew := ⟨cell_at HX1.out rfl, cell_at HI1.out.o rfl, ⟨cell_at H71.out rfl, cell_at H71.out rfl⟩, ⟨cell_at HI1.out.l rfl, cell_at HI1.out.l rfl⟩⟩
        (refine h_val 0 rfl (by kernel_rfl) (by kernel_rfl) (by kernel_rfl) (fun _ _ _ h => h) HS (by kernel_rfl) (fun W _ => run_field rfl rfl (fieldH1 Bx) W) ?_; simp only [Act.put, Act.eval, Array.getD_eq_getD_getElem?, List.setIfInBounds_toArray, List.set_cons_succ, List.set_cons_zero, List.getElem?_toArray, List.getElem?_cons_succ, List.getElem?_cons_zero, Option.getD_some])
        (refine h_val (v := .bool false) 1 rfl (by kernel_rfl) (by kernel_rfl) (by kernel_rfl) (fun _ _ _ h => h) HS (by kernel_rfl) (fun W hW => run_loadv rfl rfl (var_cell boolU rfl hW.1)) ?_; simp only [Act.put, Act.eval, Array.getD_eq_getD_getElem?, List.setIfInBounds_toArray, List.set_cons_succ, List.set_cons_zero, List.getElem?_toArray, List.getElem?_cons_succ, List.getElem?_cons_zero, Option.getD_some])
        (refine h_val (v := .bool true) 2 rfl (by kernel_rfl) (by kernel_rfl) (by kernel_rfl) (fun _ _ _ h => h) HS (by kernel_rfl) (fun W _ => by kernel_rfl) ?_; simp only [Act.put, Act.eval, Array.getD_eq_getD_getElem?, List.setIfInBounds_toArray, List.set_cons_succ, List.set_cons_zero, List.getElem?_toArray, List.getElem?_cons_succ, List.getElem?_cons_zero, Option.getD_some])
        (refine h_val 3 rfl (by kernel_rfl) (by kernel_rfl) (by kernel_rfl) (fun _ _ _ h => h) HS (by kernel_rfl) (fun W _ => run_move rfl rfl W) ?_; simp only [Act.put, Act.eval, Array.getD_eq_getD_getElem?, List.setIfInBounds_toArray, List.set_cons_succ, List.set_cons_zero, List.getElem?_toArray, List.getElem?_cons_succ, List.getElem?_cons_zero, Option.getD_some])
        (refine h_val (v := .bool true) 4 rfl (by kernel_rfl) (by kernel_rfl) (by kernel_rfl) (fun _ _ _ h => h) HS (by kernel_rfl) (fun W hW => run_loadv rfl rfl (var_cell boolU rfl hW.2.1)) ?_; simp only [Act.put, Act.eval, Array.getD_eq_getD_getElem?, List.setIfInBounds_toArray, List.set_cons_succ, List.set_cons_zero, List.getElem?_toArray, List.getElem?_cons_succ, List.getElem?_cons_zero, Option.getD_some])
        (refine h_val (v := .bool false) 5 rfl (by kernel_rfl) (by kernel_rfl) (by kernel_rfl) (fun _ _ _ h => h) HS (by kernel_rfl) (fun W _ => by kernel_rfl) ?_; simp only [Act.put, Act.eval, Array.getD_eq_getD_getElem?, List.setIfInBounds_toArray, List.set_cons_succ, List.set_cons_zero, List.getElem?_toArray, List.getElem?_cons_succ, List.getElem?_cons_zero, Option.getD_some])
        (refine h_val 6 rfl (by kernel_rfl) (by kernel_rfl) (by kernel_rfl) (fun _ _ _ h => h) HS (by kernel_rfl) (fun W _ => run_move rfl rfl W) ?_; simp only [Act.put, Act.eval, Array.getD_eq_getD_getElem?, List.setIfInBounds_toArray, List.set_cons_succ, List.set_cons_zero, List.getElem?_toArray, List.getElem?_cons_succ, List.getElem?_cons_zero, Option.getD_some])
        (refine h_val (v := .slice (some ⟨W.heap.size, 0, none⟩) 2 2) 7 rfl (by kernel_rfl) (by kernel_rfl) (by kernel_rfl) (fun _ _ _ h => h) HS (by kernel_rfl) (fun V _ => by kernel_rfl) ?_; simp only [Act.put, Act.eval, Array.getD_eq_getD_getElem?, List.setIfInBounds_toArray, List.set_cons_succ, List.set_cons_zero, List.getElem?_toArray, List.getElem?_cons_succ, List.getElem?_cons_zero, Option.getD_some])
        (refine h_val (v := .slice (some ⟨w.heap.size + 1 + 1 + 1, 0, none⟩) 2 2) 8 rfl (by kernel_rfl) (by kernel_rfl) (by kernel_rfl) (fun _ _ _ h => h) HS (by kernel_rfl) (fun V _ => by kernel_rfl) ?_; simp only [Act.put, Act.eval, Array.getD_eq_getD_getElem?, List.setIfInBounds_toArray, List.set_cons_succ, List.set_cons_zero, List.getElem?_toArray, List.getElem?_cons_succ, List.getElem?_cons_zero, Option.getD_some])
        refine h_call (args := #[.slice (some ⟨W.heap.size, 0, none⟩) 2 2, .slice (some ⟨w.heap.size + 1 + 1 + 1, 0, none⟩) 2 2]) 9 (by kernel_rfl) rfl (by kernel_rfl) (run_callf2 (g := 31) (v := .slice (some ⟨W.heap.size, 0, none⟩) 2 2) (z := .slice (some ⟨w.heap.size + 1 + 1 + 1, 0, none⟩) 2 2) (fun _ _ => by kernel_rfl) rfl rfl rfl _) ?_
        refine compare2_ok HS.2.2.1.1 HS.2.2.1.2 HS.2.2.2.1 HS.2.2.2.2 ?_
        refine ⟨HS, ?_⟩
        simp only [Act.put, Act.eval, Array.getD_eq_getD_getElem?, List.setIfInBounds_toArray, List.set_cons_succ, List.set_cons_zero, List.getElem?_toArray, List.getElem?_cons_succ, List.getElem?_cons_zero, Option.getD_some]
        (refine h_val (v := .bool (decide (cmp2 c u s0 s1 < 0))) 10 rfl (by kernel_rfl) (by kernel_rfl) (by kernel_rfl) (fun _ _ _ h => h) HS (by kernel_rfl) (fun W _ => run_bin rfl rfl rfl ((by kernel_rfl))) ?_; simp only [Act.put, Act.eval, Array.getD_eq_getD_getElem?, List.setIfInBounds_toArray, List.set_cons_succ, List.set_cons_zero, List.getElem?_toArray, List.getElem?_cons_succ, List.getElem?_cons_zero, Option.getD_some])
        (refine h_val 11 rfl (by kernel_rfl) (by kernel_rfl) (by kernel_rfl) (fun _ _ _ h => h) HS (by kernel_rfl) (fun W _ => run_pickF rfl rfl rfl W) ?_; simp only [Act.put, Act.eval, Array.getD_eq_getD_getElem?, List.setIfInBounds_toArray, List.set_cons_succ, List.set_cons_zero, List.getElem?_toArray, List.getElem?_cons_succ, List.getElem?_cons_zero, Option.getD_some])
        (refine h_val 12 rfl (by kernel_rfl) (by kernel_rfl) (by kernel_rfl) (fun _ _ _ h => h) HS (by kernel_rfl) (fun W _ => run_pickT rfl rfl rfl W) ?_; simp only [Act.put, Act.eval, Array.getD_eq_getD_getElem?, List.setIfInBounds_toArray, List.set_cons_succ, List.set_cons_zero, List.getElem?_toArray, List.getElem?_cons_succ, List.getElem?_cons_zero, Option.getD_some])
        refine h_done (by kernel_rfl) ?_
        clear HS
        dsimp only [Qn]
        by_cases hlt2 : cmp2 c u s0 s1 < 0
        · rw [decide_eq_true hlt2]
          have HLT := hid (cmp2_neg.1 hlt2)
          clear hlt2
          gi_wp2
          refine region_heldIn (m := 5) (fun V => V.heap[W.heap.size]? = some (.cells #[.int .i64 c, .int .i64 u] 65 (0, 0))) follows (by kernel_rfl) (by kernel_rfl) ?_
          have HS : (fun V : World => V.heap[W.heap.size]? = some (.cells #[.int .i64 c, .int .i64 u] 65 (0, 0))) W1.drew.drew := H71.out
          (refine h_val 0 rfl (by kernel_rfl) (by kernel_rfl) (by kernel_rfl) (fun _ _ _ h => h) HS (by kernel_rfl) (fun W _ => run_move rfl rfl W) ?_; simp only [Act.put, Act.eval, Array.getD_eq_getD_getElem?, List.setIfInBounds_toArray, List.set_cons_succ, List.set_cons_zero, List.getElem?_toArray, List.getElem?_cons_succ, List.getElem?_cons_zero, Option.getD_some])
          (refine h_val (v := .agg #[.int .i64 c, .int .i64 u]) 1 rfl (by kernel_rfl) (by kernel_rfl) (by kernel_rfl) (fun _ _ _ h => h) HS (by kernel_rfl) (fun W hW => run_loadv rfl rfl (var_row hW pairU (by rw [pairI]; rfl))) ?_; simp only [Act.put, Act.eval, Array.getD_eq_getD_getElem?, List.setIfInBounds_toArray, List.set_cons_succ, List.set_cons_zero, List.getElem?_toArray, List.getElem?_cons_succ, List.getElem?_cons_zero, Option.getD_some])
          have b1 : W1.drew.drew.heap[w.heap.size + 1]? = some (.cells #[.int .u32 sb] 27 (0, 0)) := HI1.out.b
          have S1 := setRow_keep HS (w.heap.size + 1) #[.int .u32 kx] (by have := NE7.out; omega)
          (refine h_oneU 2 (by kernel_rfl) rfl (by kernel_rfl) (run_stores rfl rfl rfl (run_storeVar_one W1.drew.drew _ _ _ _ _ b1 fidS rfl)) (S1) ?_; simp only [Act.put, Act.eval, Array.getD_eq_getD_getElem?, List.setIfInBounds_toArray, List.set_cons_succ, List.set_cons_zero, List.getElem?_toArray, List.getElem?_cons_succ, List.getElem?_cons_zero, Option.getD_some])
          have b2 : (W1.drew.drew.setRow (w.heap.size + 1) #[.int .u32 kx]).heap[w.heap.size + 1 + 1 + 1]? = some (.cells #[.int .i64 s0, .int .i64 s1] 65 (0, 0)) := setRow_keep HI1.out.l _ _ (by omega)
          have S2 := setRow_keep S1 (w.heap.size + 1 + 1 + 1) #[.int .i64 c, .int .i64 u] (by have := NE7.out; omega)
          (refine h_oneU 3 (by kernel_rfl) rfl (by kernel_rfl) (run_stores rfl rfl rfl (run_storeVar_row _ _ _ _ _ #[.int .i64 c, .int .i64 u] b2 (by rw [pairI]; rfl) rfl (by simp [Value.oneCell']))) (S2) ?_; simp only [Act.put, Act.eval, Array.getD_eq_getD_getElem?, List.setIfInBounds_toArray, List.set_cons_succ, List.set_cons_zero, List.getElem?_toArray, List.getElem?_cons_succ, List.getElem?_cons_zero, Option.getD_some])
          have b3 : ((W1.drew.drew.setRow (w.heap.size + 1) #[.int .u32 kx]).setRow (w.heap.size + 1 + 1 + 1) #[.int .i64 c, .int .i64 u]).heap[w.heap.size + 1 + 1]? = some (.cells #[.bool true] 4 (0, 0)) := setRow_keep (setRow_keep HI1.out.o _ _ (by omega)) _ _ (by omega)
          have S3 := setRow_keep S2 (w.heap.size + 1 + 1) #[.bool true] (by have := NE7.out; omega)
          (refine h_oneU 4 (by kernel_rfl) rfl (by kernel_rfl) (run_stores rfl rfl rfl (run_storeVar_one _ _ _ _ _ _ b3 boolS rfl)) (S3) ?_; simp only [Act.put, Act.eval, Array.getD_eq_getD_getElem?, List.setIfInBounds_toArray, List.set_cons_succ, List.set_cons_zero, List.getElem?_toArray, List.getElem?_cons_succ, List.getElem?_cons_zero, Option.getD_some])
          refine h_done (by kernel_rfl) ?_
          dsimp only [Qn]
          obtain ⟨V, hV⟩ : ∃ V, V = ((W1.drew.drew.setRow (w.heap.size + 1) #[.int .u32 kx]).setRow (w.heap.size + 1 + 1 + 1) #[.int .i64 c, .int .i64 u]).setRow (w.heap.size + 1 + 1) #[.bool true] := ⟨_, rfl⟩
          have K3 : KeepsOthers W V := by rw [hV]; exact (((HK1.out.trans (KeepsOthers.drew _)).trans (KeepsOthers.drew _)).trans (KeepsOthers.setRow b1)).trans (KeepsOthers.setRow b2) |>.trans (KeepsOthers.setRow b3)
          have P3 : KpS (NxS w) W V := by rw [hV]; exact ((HP1.out.trans ⟨Nat.le_refl _, fun _ _ h _ _ => h⟩).trans (KpS.setRow (W := W1.drew.drew) _ (.inl rfl))).trans (KpS.setRow _ (.inr (.inr rfl))) |>.trans (KpS.setRow _ (.inr (.inl rfl)))
          have F3 : Fr No w V := by rw [hV]; exact ((HF1.out.drew.drew.setRow (.inr (by omega)) _).setRow (.inr (by omega)) _).setRow (.inr (by omega)) _
          have I3 : NxI w p ⟨kx, true, c, u⟩ V := by
            rw [hV]
            refine ⟨?_, ?_, ?_, ?_⟩
            · exact setRow_keep (setRow_keep (setRow_keep HI1.out.c _ _ (by omega)) _ _ (by omega)) _ _ (by omega)
            · exact setRow_keep (setRow_keep (setRow_heap W1.drew.drew _ _ _ _ _ b1) _ _ (by omega)) _ _ (by omega)
            · exact setRow_heap _ _ _ _ _ _ b3
            · exact setRow_keep (setRow_heap _ _ _ _ _ _ b2) _ _ (by omega)
          rw [← hV]
          clear hV S1 S2 S3 b1 b2 b3 HS
          have HFIN := hid (And.intro K3 (And.intro P3 (And.intro F3 I3)))
          clear K3 P3 F3 I3
          gi_wp2
          refine nx_out HFIN.out.1 HFIN.out.2.1 HFIN.out.2.2.1 HFIN.out.2.2.2 ?_ (fun h => h)
          rw [HNX.out]
          simp only [nxStep, HCC.out]
          have HLT2 := HLT.out
          simp [HLT2]
        · rw [decide_eq_false hlt2]
          have HLT := hid (fun h => hlt2 (cmp2_neg.2 h))
          clear hlt2
          gi_wp2
          refine nx_out (W1 := W1.drew) (HK1.out.trans (KeepsOthers.drew _)) (HP1.out.trans ⟨Nat.le_refl _, fun _ _ h _ _ => h⟩) HF1.out.drew ⟨HI1.out.c, HI1.out.b, HI1.out.o, HI1.out.l⟩ ?_ (fun h => h)
          rw [HNX.out]
          unfold nxStep
          refine if_neg ?_
          rintro ⟨_, h | h⟩
          · cases h
          · have e := HCC.out
            simp only at h e
            rw [e] at h
            exact HLT.out h
  case done =>
    rintro D zU W hD rfl ⟨hI, hB1⟩ hK
    rw [hUe] at hI
    have HI := hid hI
    have HB1 := hid hB1
    have HK := hid hK
    have HD : Hid (w.heap.size + 5 ≤ D) := by rw [← hsz]; exact hD
    clear hI hB1 hK
    gi_wp2
    refine region_heldQ (m := 4) (fun V => V.cell? ⟨w.heap.size + 1, 0, none⟩ = some (.int .u32 (nx dl hl).best) ∧ V.cell? ⟨w.heap.size + 1 + 1, 0, none⟩ = some (.bool (nx dl hl).ok)) follows (by kernel_rfl) ?_
    have HS : (fun V : World => V.cell? ⟨w.heap.size + 1, 0, none⟩ = some (.int .u32 (nx dl hl).best) ∧ V.cell? ⟨w.heap.size + 1 + 1, 0, none⟩ = some (.bool (nx dl hl).ok)) W.drew := ⟨cell_at HI.out.b rfl, cell_at HI.out.o rfl⟩
    (refine h_val (v := .int .u32 (nx dl hl).best) 0 rfl (by kernel_rfl) (by kernel_rfl) (by kernel_rfl) (fun _ _ _ h => h) HS (by kernel_rfl) (fun W hW => run_loadv rfl rfl (var_cell fidU rfl hW.1)) ?_; simp only [Act.put, Act.eval, Array.getD_eq_getD_getElem?, List.setIfInBounds_toArray, List.set_cons_succ, List.set_cons_zero, List.getElem?_toArray, List.getElem?_cons_succ, List.getElem?_cons_zero, Option.getD_some])
    (refine h_val (v := .bool (nx dl hl).ok) 1 rfl (by kernel_rfl) (by kernel_rfl) (by kernel_rfl) (fun _ _ _ h => h) HS (by kernel_rfl) (fun W hW => run_loadv rfl rfl (var_cell boolU rfl hW.2)) ?_; simp only [Act.put, Act.eval, Array.getD_eq_getD_getElem?, List.setIfInBounds_toArray, List.set_cons_succ, List.set_cons_zero, List.getElem?_toArray, List.getElem?_cons_succ, List.getElem?_cons_zero, Option.getD_some])
    have b1 : (W.drew.setRow (w.heap.size + 1) #[.int .u32 (nx dl hl).best]).heap[w.heap.size + 1]? = some (.cells #[.int .u32 (nx dl hl).best] 27 (0, 0)) := setRow_heap W.drew _ _ _ _ _ HI.out.b
    have b2 : (W.drew.setRow (w.heap.size + 1) #[.int .u32 (nx dl hl).best]).heap[w.heap.size + 1 + 1]? = some (.cells #[.bool (nx dl hl).ok] 4 (0, 0)) := setRow_keep (w := W.drew) HI.out.o _ _ (by omega)
    have c1 := setRow_keep b1 (w.heap.size + 1 + 1) #[.bool (nx dl hl).ok] (by omega)
    have c2 := setRow_heap _ (w.heap.size + 1 + 1) _ #[.bool (nx dl hl).ok] _ _ b2
    have d1 : (W.drew.setRow (w.heap.size + 1) #[.int .u32 (nx dl hl).best]).heap[D]? = some (.deferred (some [])) := setRow_keep (w := W.drew) HK.out _ _ (by have := HD.out; omega)
    have d2 := setRow_keep d1 (w.heap.size + 1 + 1) #[.bool (nx dl hl).ok] (by have := HD.out; omega)
    (refine h_oneU 2 (by kernel_rfl) rfl (by kernel_rfl) (run_stores rfl rfl rfl (run_storeVar_one W.drew _ _ _ _ _ HI.out.b fidS rfl)) (⟨cell_at b1 rfl, cell_at b2 rfl⟩) ?_; simp only [Act.put, Act.eval, Array.getD_eq_getD_getElem?, List.setIfInBounds_toArray, List.set_cons_succ, List.set_cons_zero, List.getElem?_toArray, List.getElem?_cons_succ, List.getElem?_cons_zero, Option.getD_some])
    (refine h_oneU 3 (by kernel_rfl) rfl (by kernel_rfl) (run_stores rfl rfl rfl (run_storeVar_one _ _ _ _ _ _ b2 boolS rfl)) (⟨cell_at c1 rfl, cell_at c2 rfl⟩) ?_; simp only [Act.put, Act.eval, Array.getD_eq_getD_getElem?, List.setIfInBounds_toArray, List.set_cons_succ, List.set_cons_zero, List.getElem?_toArray, List.getElem?_cons_succ, List.getElem?_cons_zero, Option.getD_some])
    refine h_done (by kernel_rfl) ?_
    have F3 : Fr No w ((W.drew.setRow (w.heap.size + 1) #[.int .u32 (nx dl hl).best]).setRow (w.heap.size + 1 + 1) #[.bool (nx dl hl).ok]) := ((Fr.of_below HB1.out).drew.setRow (.inr (by omega)) _).setRow (.inr (by omega)) _
    obtain ⟨V, hV⟩ : ∃ V, V = (W.drew.setRow (w.heap.size + 1) #[.int .u32 (nx dl hl).best]).setRow (w.heap.size + 1 + 1) #[.bool (nx dl hl).ok] := ⟨_, rfl⟩
    rw [← hV] at F3 c1 c2 d2 ⊢
    clear hV HS b1 b2 d1
    have HF := hid F3
    have H1 := hid c1
    have H2 := hid c2
    have H3 := hid d2
    clear F3 c1 c2 d2
    dsimp only [Qn]
    gi_wp2
    refine ⟨by simp, .inl ⟨_, _, rfl, run_takeDeferred H3.out, ?_⟩⟩
    have hne : ∀ k, k < w.heap.size + 5 → k ≠ D := fun k hk => by have := HD.out; omega
    refine ⟨_, res_cc (x := .int .u32 (nx dl hl).best) (y := .bool (nx dl hl).ok) rfl rfl rfl (var_cell fidU rfl (cell_at (o := 0) ((World.putObj_heap_other (hne _ (by omega))).trans H1.out) rfl)) (var_cell boolU rfl (cell_at (o := 0) ((World.putObj_heap_other (hne _ (by omega))).trans H2.out) rfl)), rfl, ?_⟩
    exact HF.out.below.trans (belowK_b (w := w) (Nat.le_refl _) V D _ _ (by have := HD.out; omega) H3.out rfl rfl)
  case stop =>
    rintro D c pre W _ _ h _
    exact h.elim

/-- Next: the one that would go. -/
theorem next_ok {w : World} {p bh bd : Nat} {m k : Int} {hl : List (Int × (Int × Bool))} {dl : List (Int × Int)} {R : Ending → World → Prop} (hlen : hl.length ≤ 12) (C : CacheAt w p m k hl dl bh bd)
    (hR : ∀ w', Fr No w w' → R (.returned (.tuple #[.int .u32 (nx dl hl).best, .bool (nx dl hl).ok])) w') : Calls Try.prog 16 #[.pointer (some ⟨p, 0, none⟩)] w R := by
  refine (callsIn_wide (n := 9)).1 ((next_in hlen C).mono ?_)
  rintro e W' ⟨rfl, hb⟩
  exact hR W' (Fr.of_below hb)

end Go.Proofs.Ytokhbjllgaaogaa
