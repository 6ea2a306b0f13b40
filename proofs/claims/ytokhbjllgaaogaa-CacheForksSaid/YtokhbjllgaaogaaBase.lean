/- What a call changes in the world, said block by block; blocks that are known whole; maps whose elements are values as they stand. No condition: these are laws of the model alone. -/
import Derived.WalkKit
import Derived.WalkSpells
import Derived.WalkLawsBesides
import Derived.Deep.QuietTactic
import Derived.BigQuiet
import Derived.StillTailTactics
import Derived.Deep.MidRow
import Derived.Deep.WholeRow
import Derived.Laws.CopyRow
import Derived.Maps.OwnSet
import Derived.Maps.OwnOps
import Derived.Maps.RangeWalk
namespace Go.Proofs.Ytokhbjllgaaogaa
set_option linter.unusedSimpArgs false
open Go.RowKit Go.Maps

/-- w' is w but for the blocks of S, and new blocks. -/
structure Fr (S : Nat → Prop) (w w' : World) : Prop where
  os : w'.os = w.os
  tape : w'.tape = w.tape
  output : w'.output = w.output
  size : w.heap.size ≤ w'.heap.size
  blk : ∀ b, b < w.heap.size → ¬ S b → w'.heap[b]? = w.heap[b]?

theorem hid {p : Prop} (h : p) : Hid p := h

/-- No block. -/
abbrev No : Nat → Prop := fun _ => False

theorem Fr.refl (S : Nat → Prop) (w : World) : Fr S w w := ⟨rfl, rfl, rfl, Nat.le_refl _, fun _ _ _ => rfl⟩

theorem Fr.mono {S T : Nat → Prop} {w w' : World} (h : Fr S w w') (hs : ∀ b, S b → T b) : Fr T w w' :=
  ⟨h.os, h.tape, h.output, h.size, fun b hb hT => h.blk b hb (fun hS => hT (hs b hS))⟩

theorem Fr.trans {S T : Nat → Prop} {a b c : World} (h : Fr S a b) (k : Fr T b c) (hs : ∀ x, T x → S x ∨ a.heap.size ≤ x) : Fr S a c :=
  ⟨k.os.trans h.os, k.tape.trans h.tape, k.output.trans h.output, Nat.le_trans h.size k.size, fun x hx hS =>
    (k.blk x (Nat.lt_of_lt_of_le hx h.size) (fun hT => by rcases hs x hT with h1 | h1 <;> first | exact hS h1 | omega)).trans (h.blk x hx hS)⟩

theorem Fr.no {S : Nat → Prop} {a b c : World} (h : Fr S a b) (k : Fr No b c) : Fr S a c := h.trans k (fun _ h => h.elim)
theorem Fr.any {S : Nat → Prop} {a b : World} (h : Fr No a b) : Fr S a b := h.mono (fun _ h => h.elim)

theorem Fr.drew {S : Nat → Prop} {a w : World} (h : Fr S a w) : Fr S a w.drew := ⟨h.os, h.tape, h.output, h.size, h.blk⟩
theorem Fr.drewN {S : Nat → Prop} {a w : World} (h : Fr S a w) (n : Nat) : Fr S a (w.drewN n) := ⟨h.os, h.tape, h.output, h.size, h.blk⟩

theorem Fr.alloc {S : Nat → Prop} {a w : World} (h : Fr S a w) (o : Obj) : Fr S a (w.alloc o) :=
  ⟨h.os, h.tape, h.output, by have := h.size; simp; omega, fun b hb hS => by
    have := h.size
    rw [Below.heap_alloc w o b (by omega)]; exact h.blk b hb hS⟩

theorem Fr.setCell {S : Nat → Prop} {a w : World} (h : Fr S a w) {p : Addr} (hp : S p.block ∨ a.heap.size ≤ p.block) (v : Value) : Fr S a (w.setCell p v) :=
  ⟨h.os, h.tape, h.output, by have := h.size; simp; omega, fun b hb hS => by
    have := h.size
    rw [heap_setCell_other w p b v (fun e => by subst e; rcases hp with h1 | h1 <;> first | exact hS h1 | omega)]; exact h.blk b hb hS⟩

theorem Fr.setRow {S : Nat → Prop} {a w : World} (h : Fr S a w) {g : Nat} (hp : S g ∨ a.heap.size ≤ g) (cs : Array Value) : Fr S a (w.setRow g cs) :=
  ⟨h.os, h.tape, h.output, by have := h.size; simp; omega, fun b hb hS => by
    have := h.size
    rw [setRow_other w g b cs (fun e => by subst e; rcases hp with h1 | h1 <;> first | exact hS h1 | omega)]; exact h.blk b hb hS⟩

theorem Fr.grown {S : Nat → Prop} {a w w' : World} {row : Option Nat} (h : Fr S a w) (hg : w.grownBy w' row) (hr : ∀ k, row = some k → S k ∨ a.heap.size ≤ k) : Fr S a w' :=
  ⟨hg.os.trans h.os, hg.tape.trans h.tape, hg.output.trans h.output, Nat.le_trans h.size hg.size, fun b hb hS =>
    (hg.block b (Nat.lt_of_lt_of_le hb h.size) (fun e => by rcases hr b e.symm with h1 | h1 <;> first | exact hS h1 | omega)).trans (h.blk b hb hS)⟩

theorem Fr.of_below {w w' : World} (h : Below w.heap.size w w') : Fr No w w' :=
  ⟨h.os, h.tape, h.output, h.size, fun b hb _ => h.block b hb⟩

theorem Fr.below {w w' : World} (h : Fr No w w') : Below w.heap.size w w' :=
  ⟨h.os, h.tape, h.output, h.size, fun b hb => h.blk b hb (fun h => h)⟩

/-- A block that stood, and is none of S, stands. -/
theorem Fr.keep {S : Nat → Prop} {w w' : World} (h : Fr S w w') {b : Nat} {o : Obj} (hb : w.heap[b]? = some o) (hS : ¬ S b) : w'.heap[b]? = some o := by
  have hlt : b < w.heap.size := by
    rcases Nat.lt_or_ge b w.heap.size with h1 | h1
    · exact h1
    · rw [Array.getElem?_eq_none h1] at hb; cases hb
  rw [h.blk b hlt hS]; exact hb

theorem lt_of_heap {w : World} {b : Nat} {o : Obj} (hb : w.heap[b]? = some o) : b < w.heap.size := by
  rcases Nat.lt_or_ge b w.heap.size with h1 | h1
  · exact h1
  · rw [Array.getElem?_eq_none h1] at hb; cases hb

theorem heap_at {w : World} {b : Nat} {o : Obj} (h : b = w.heap.size) : (w.alloc o).heap[b]? = some o := by
  subst h; exact heap_alloc_new w o

theorem alloc_keep {w : World} {b : Nat} {o : Obj} (hb : w.heap[b]? = some o) (o' : Obj) : (w.alloc o').heap[b]? = some o := by
  rw [Below.heap_alloc w o' b (lt_of_heap hb)]; exact hb

theorem setCell_keep {w : World} {b : Nat} {o : Obj} (hb : w.heap[b]? = some o) (p : Addr) (v : Value) (hne : b ≠ p.block) : (w.setCell p v).heap[b]? = some o := by
  rw [heap_setCell_other w p b v hne]; exact hb

theorem setRow_keep {w : World} {b : Nat} {o : Obj} (hb : w.heap[b]? = some o) (g : Nat) (cs : Array Value) (hne : b ≠ g) : (w.setRow g cs).heap[b]? = some o := by
  rw [setRow_other w g b cs hne]; exact hb

/-! ### Cells of a block that is known whole -/

theorem cell_at {w : World} {b o : Nat} {cs : Array Value} {t : TypeId} {fr : Nat × Nat} {v : Value} (hb : w.heap[b]? = some (.cells cs t fr)) (hv : cs[o]? = some v) : w.cell? ⟨b, o, none⟩ = some v := by
  rw [cell_of_row w b o cs t fr hb]; exact hv

theorem cell_alloc {w : World} {a : Addr} {v : Value} (h : w.cell? a = some v) (o : Obj) : (w.alloc o).cell? a = some v := by
  rw [World.cell?_alloc_lt _ _ _ (World.block_lt_of_cell? w a h)]; exact h

theorem var_row {P : Program} {w : World} {b : Nat} {cs : Array Value} {t ty n e : TypeId} {fr : Nat × Nat} (hb : w.heap[b]? = some (.cells cs t fr)) (hu : P.underlying ty = some (.array n e)) (hi : (P.info? ty).map (·.size) = some cs.size) :
    (loadVar ty ⟨b, 0, none⟩).run P w = .ok (.agg cs) w := run_loadVar_row w b t ty cs fr _ hb hu rfl hi

theorem var_mid {P : Program} {w : World} {b k m : Nat} {cs : Array Value} {t ty n e : TypeId} {fr : Nat × Nat} (hb : w.heap[b]? = some (.cells cs t fr)) (hu : P.underlying ty = some (.array n e)) (hi : (P.info? ty).map (·.size) = some m) (hk : k + m ≤ cs.size) :
    (loadVar ty ⟨b, k, none⟩).run P w = .ok (.agg (cs.extract k (k + m))) w := by
  have hl : (cs.extract k (k + m)).toList.length = m := by simp; omega
  have := run_loadVar_mid (P := P) w b k ty (cs.extract k (k + m)).toList _ (fun j v hv => by
    refine cell_at hb ?_
    have hj : j < m := by have := (List.getElem?_eq_some_iff.1 hv).1; omega
    rw [← hv, Array.getElem?_toList, Array.getElem?_extract, if_pos (by omega)]) hu rfl (by rw [hl]; exact hi)
  rwa [Array.toArray_toList] at this

theorem load_row {P : Program} {w : World} {b : Nat} {cs : Array Value} {t ty n e : TypeId} {fr : Nat × Nat} (hb : w.heap[b]? = some (.cells cs t fr)) (hu : P.underlying ty = some (.array n e)) (hi : (P.info? ty).map (·.size) = some cs.size) :
    (Instr.loadAt ty (.pointer (some ⟨b, 0, none⟩))).run P w = .ok (.agg cs) w := by
  simp only [Instr.loadAt, Instr.sureAddr, Sem.run_bind, Sem.run_pure, Result.andThen_ok, run_loadVar_row w b t ty cs fr _ hb hu rfl hi]

/-! ### A region that draws its order: reads first, then the rest in the text's order -/

theorem wp_tail {P : Program} {id : Nat} {Q : Exit → Act → World → Prop} {a : Act} {w : World} {l : List Oper} (n : Nat) (hm : P.follows .mixedOrders = true) (hB : Region.lexTailB .any l.toArray n = true)
    (h : wpStill P l.toArray w.drew (fun a' => wpList P l.toArray Q (l.drop n) a' w.drew) (l.take n) a) : (Code.region id l.toArray true).wp P Q a w :=
  wp_region_still_tail n hm hB h

/-! ### A variable of many cells is read, or written, at once -/

theorem wp_loadVar {P : Program} {o : Oper} {a : Act} {w : World} {K : Act → World → Prop} {Q : Exit → Act → World → Prop} {ty : TypeId} {x : Operand} {ad : Addr} {v : Value} (ho : o.op = .load ty x)
    (hx : a.eval x = .pointer (some ad)) (hv : (loadVar ty ad).run P w = .ok v w) (h : K (a.put o.dst v) w) : o.wp P a w K Q := by
  unfold Oper.wp execOp
  simp only [ho, hx, Instr.loadAt, Instr.sureAddr, Sem.run_bind, Sem.run_pure, Result.andThen_ok, hv]
  exact h

theorem wpList_loadVar {P : Program} {ops : Array Oper} {rest : List Oper} {o : Oper} {a : Act} {w : World} {Q : Exit → Act → World → Prop} {ty : TypeId} {x : Operand} {ad : Addr} {v : Value} (hg : o.guard = none) (ho : o.op = .load ty x)
    (hx : a.eval x = .pointer (some ad)) (hv : (loadVar ty ad).run P w = .ok v w) (h : wpList P ops Q rest (a.put o.dst v) w) : wpList P ops Q (o :: rest) a w :=
  wpList_plain hg fun _ hK => wp_loadVar ho hx hv (hK _ _ h)

theorem wpStill_loadVar {P : Program} {ops : Array Oper} {rest : List Oper} {o : Oper} {a : Act} {w : World} {Q : Act → Prop} {ty : TypeId} {x : Operand} {ad : Addr} {v : Value} (hg : o.guard = none) (ho : o.op = .load ty x)
    (hx : a.eval x = .pointer (some ad)) (hv : (loadVar ty ad).run P w = .ok v w) (h : wpStill P ops w Q rest (a.put o.dst v)) : wpStill P ops w Q (o :: rest) a := by
  refine wpStill_step fun K hK => ?_
  rw [if_pos (by simp [Region.wanted, hg])]
  unfold Oper.still execOp
  simp only [ho, hx, Instr.loadAt, Instr.sureAddr, Sem.run_bind, Sem.run_pure, Result.andThen_ok, hv]
  exact ⟨rfl, hK _ h⟩

theorem wpQuiet_loadVar {P : Program} {ops : Array Oper} {rest : List Oper} {o : Oper} {a : Act} {C : World → Prop} {Q : Act → Prop} {ty : TypeId} {x : Operand} {ad : Addr} {v : Value} (hg : o.guard = none) (ho : o.op = .load ty x)
    (hx : a.eval x = .pointer (some ad)) (hv : ∀ w, C w → (loadVar ty ad).run P w = .ok v w) (h : wpQuiet P ops C Q rest (a.put o.dst v)) : wpQuiet P ops C Q (o :: rest) a := by
  refine wpQuiet_step fun K hK => ?_
  rw [if_pos (by simp [Region.wanted, hg])]
  refine ⟨v, fun w hw => ?_, hK _ h⟩
  unfold Oper.quietAt execOp
  simp only [ho, hx, Instr.loadAt, Instr.sureAddr, Sem.run_bind, Sem.run_pure, Result.andThen_ok, hv w hw]
  exact ⟨rfl, rfl⟩

theorem wp_storeVar {P : Program} {o : Oper} {a : Act} {w w' : World} {K : Act → World → Prop} {Q : Exit → Act → World → Prop} {ty : TypeId} {x y : Operand} {ad : Addr} {v : Value} (ho : o.op = .store ty x y)
    (hx : a.eval x = .pointer (some ad)) (hy : a.eval y = v) (hv : (storeVar ty ad v).run P w = .ok () w') (h : K (a.put o.dst undef) w') : o.wp P a w K Q := by
  unfold Oper.wp execOp
  simp only [ho, hx, hy, Instr.storeAt, Instr.sureAddr, Sem.run_bind, Sem.run_pure, Result.andThen_ok, hv]
  exact h

theorem wpList_storeVar {P : Program} {ops : Array Oper} {rest : List Oper} {o : Oper} {a : Act} {w w' : World} {Q : Exit → Act → World → Prop} {ty : TypeId} {x y : Operand} {ad : Addr} {v : Value} (hg : o.guard = none) (ho : o.op = .store ty x y)
    (hx : a.eval x = .pointer (some ad)) (hy : a.eval y = v) (hv : (storeVar ty ad v).run P w = .ok () w') (h : wpList P ops Q rest (a.put o.dst undef) w') : wpList P ops Q (o :: rest) a w :=
  wpList_plain hg fun _ hK => wp_storeVar ho hx hy hv (hK _ _ h)

/-! ### A new variable of many cells; a value of many cells; a result that lies in memory -/

theorem wpList_ok {P : Program} {ops : Array Oper} {rest : List Oper} {o : Oper} {a : Act} {w w' : World} {Q : Exit → Act → World → Prop} {v : Value} (hg : o.guard = none) (hrun : (execOp a.eval o).run P w = .ok (.value v) w')
    (h : wpList P ops Q rest (a.put o.dst v) w') : wpList P ops Q (o :: rest) a w :=
  wpList_plain hg fun _ hK => by
    unfold Oper.wp
    rw [hrun]
    exact hK _ _ h

theorem wpList_allocRow {P : Program} {ops : Array Oper} {rest : List Oper} {o : Oper} {a : Act} {w : World} {Q : Exit → Act → World → Prop} {ty : TypeId} {z : Array Value} (hg : o.guard = none) (ho : o.op = .alloc ty) (hz : (zeroValue ty).run P w = .ok (.agg z) w)
    (h : wpList P ops Q rest (a.put o.dst (.pointer (some ⟨w.heap.size, 0, none⟩))) (w.alloc (.cells z ty))) : wpList P ops Q (o :: rest) a w :=
  wpList_ok hg (by
    unfold execOp
    simp only [ho, Instr.alloc, newVar, newRow, newObj, Value.cells]
    simp [Sem.run_bind, hz, Sem.run]) h

theorem wpList_build0 {P : Program} {ops : Array Oper} {rest : List Oper} {o : Oper} {a : Act} {w : World} {Q : Exit → Act → World → Prop} {ty n e : TypeId} {z : Array Value} (hg : o.guard = none) (ho : o.op = .build ty #[]) (hz : (zeroValue ty).run P w = .ok (.agg z) w)
    (hu : P.underlying ty = some (.array n e)) (he : ∃ k, (sizeOf e).run P w = .ok k w) (h : wpList P ops Q rest (a.put o.dst (.agg z)) w) : wpList P ops Q (o :: rest) a w :=
  wpList_ok hg (by
    obtain ⟨k, hk⟩ := he
    unfold execOp
    simp [ho, Instr.build, Sem.run_bind, hz, run_underlying hu w, hk, Instr.fill, Value.cells]) h

theorem results_cell_tmp {P : Program} {fn : Func} {p t : Tmp} {ty : TypeId} {tmps : Array Value} {w : World} {g : Nat} {e : TypeId} {cs : Array Value} {fr : Nat × Nat} {n e' : TypeId} {v2 : Value} (h : fn.results = #[.cell p ty, .tmp t])
    (hp : tmps.getD p undef = .pointer (some ⟨g, 0, none⟩)) (ht : tmps.getD t undef = v2) (hg : w.heap[g]? = some (.cells cs e fr)) (hu : P.underlying ty = some (.array n e')) (hi : (P.info? ty).map (·.size) = some cs.size) :
    (results fn tmps).run P w = .ok (.tuple #[.agg cs, v2]) w := by
  subst ht
  have hp' : tmps[p]?.getD undef = .pointer (some ⟨g, 0, none⟩) := by simpa using hp
  simp [results, h, hp', asAddr, run_loadVar_row w g e ty cs fr _ hg hu rfl hi]

theorem wpList_storeNew {P : Program} {ops : Array Oper} {rest : List Oper} {o : Oper} {a : Act} {w w' : World} {Q : Exit → Act → World → Prop} {ty : TypeId} {x y : Operand} {b : Nat} {c c' : Array Value} {e : TypeId} (hg : o.guard = none) (ho : o.op = .store ty x y)
    (hx : a.eval x = .pointer (some ⟨b, 0, none⟩)) (hy : a.eval y = .agg c') (hb : w.heap[b]? = some (.cells c e (0, 0))) (hi : (P.info? ty).map (·.size) = some c'.size) (hs : c.size = c'.size) (h1 : c'.all (·.oneCell') = true) (hw : w.setRow b c' = w')
    (h : wpList P ops Q rest (a.put o.dst undef) w') : wpList P ops Q (o :: rest) a w :=
  wpList_storeVar hg ho hx hy (by rw [run_storeVar_row w b e ty c c' hb hi hs h1, hw]) h

/-! ### Cells in the middle of a block are written at once -/

/-- cs with c from place k on. -/
def mput (cs : Array Value) (k : Nat) (c : Array Value) : Array Value := (cs.toList.take k ++ c.toList ++ cs.toList.drop (k + c.size)).toArray

theorem mput_size {cs c : Array Value} {k : Nat} (h : k + c.size ≤ cs.size) : (mput cs k c).size = cs.size := by
  simp [mput]; omega

theorem mput_mem {cs c : Array Value} {k : Nat} {v : Value} (h : v ∈ mput cs k c) : v ∈ cs ∨ v ∈ c := by
  simp only [mput, List.mem_toArray, List.mem_append] at h
  rcases h with (h | h) | h
  · exact .inl (Array.mem_toList_iff.1 (List.mem_of_mem_take h))
  · exact .inr (Array.mem_toList_iff.1 h)
  · exact .inl (Array.mem_toList_iff.1 (List.mem_of_mem_drop h))

theorem mput_get {cs c : Array Value} {k : Nat} (h : k + c.size ≤ cs.size) (j : Nat) : (mput cs k c)[j]? = if k ≤ j ∧ j < k + c.size then c[j - k]? else cs[j]? := by
  simp only [mput, List.getElem?_toArray]
  have h1 : (cs.toList.take k).length = k := by simp; omega
  have h2 : c.toList.length = c.size := by simp
  by_cases a : j < k
  · rw [List.getElem?_append_left (by simp; omega), List.getElem?_append_left (by omega), List.getElem?_take, if_pos a, if_neg (by omega)]
    simp
  · by_cases b : j < k + c.size
    · rw [List.getElem?_append_left (by simp; omega), List.getElem?_append_right (by omega), h1, if_pos (by omega)]
      simp
    · rw [List.getElem?_append_right (by simp; omega), if_neg (by omega), List.getElem?_drop]
      rw [show k + c.size + (j - (cs.toList.take k ++ c.toList).length) = j by simp; omega]
      simp

theorem mput_extract_same {cs c : Array Value} {k : Nat} (h : k + c.size ≤ cs.size) : (mput cs k c).extract k (k + c.size) = c := by
  refine Array.ext_getElem? fun j => ?_
  rw [Array.getElem?_extract, mput_size h, mput_get h]
  by_cases a : j < c.size
  · rw [if_pos (by omega), if_pos (by omega)]; simp
  · rw [if_neg (by omega), Array.getElem?_eq_none (by omega)]

theorem mput_extract_other {cs c : Array Value} {k i m : Nat} (h : k + c.size ≤ cs.size) (hne : i + m ≤ k ∨ k + c.size ≤ i) : (mput cs k c).extract i (i + m) = cs.extract i (i + m) := by
  refine Array.ext_getElem? fun j => ?_
  rw [Array.getElem?_extract, Array.getElem?_extract, mput_size h, mput_get h]
  by_cases a : j < min (i + m) cs.size - i
  · rw [if_pos a, if_pos a, if_neg (by omega)]
  · rw [if_neg a, if_neg a]

theorem run_mput {P : Program} {w : World} {b k : Nat} {cs c : Array Value} {e ty : TypeId} (hb : w.heap[b]? = some (.cells cs e (0, 0))) (hk : k + c.size ≤ cs.size) (hi : (P.info? ty).map (·.size) = some c.size) (h1 : c.all (·.oneCell') = true) :
    (storeVar ty ⟨b, k, none⟩ (.agg c)).run P w = .ok () (w.setRow b (mput cs k c)) := by
  have := run_storeCells_at (P := P) b k e c.toList 0 cs w hb (by simp; omega) (fun v hv => (Array.all_eq_true_iff_forall_mem.1 h1) v (by simpa using hv))
  simp only [Nat.add_zero, Array.length_toList] at this
  cases hq : P.info? ty with
  | none => simp [hq] at hi
  | some i =>
    have hs : c.size = i.size := by simp [hq] at hi; omega
    simp [storeVar, sizeOf, typeInfo, hq, Value.cells, hs, Sem.run_bind, this, mput]

/-! ### Maps: the elements are the values as they stand -/

/-- An element is told as it stands. -/
def heldElem (v : Value) : Option (DataW Value × List MemPlace) := some (.held v, [])

/-- What stands at a key. -/
def look (D : DataW Value) (k : Lit) : Option Value := match D.atKey k .nil with | .held v => some v | _ => none

theorem ownsMap_tight {P : Program} {k : TypeId} {w : World} {b n : Nat} {D : DataW Value} (h : w.ownsMap P k heldElem b n D) : w.ownsMap P k heldElem b (Maps.size D) D := by
  obtain ⟨es, clock, hb, F, hs, rfl⟩ := h
  refine ⟨es, clock, hb, F, ?_, rfl⟩
  rw [Maps.size_eq, length_read]
  exact Nat.le_refl _

theorem ownsMap_fr {P : Program} {k : TypeId} {S : Nat → Prop} {w w' : World} {b n : Nat} {D : DataW Value} (h : w.ownsMap P k heldElem b n D) (hf : Fr S w w') (hS : ¬ S b) : w'.ownsMap P k heldElem b n D := by
  obtain ⟨es, clock, hb, F, hs, hD⟩ := h
  exact ⟨es, clock, hf.keep hb hS, F, hs, hD⟩

theorem ownsMap_heap {P : Program} {k : TypeId} {w w' : World} {b n : Nat} {D : DataW Value} (h : w.ownsMap P k heldElem b n D) (hb : w'.heap[b]? = w.heap[b]?) : w'.ownsMap P k heldElem b n D := by
  obtain ⟨es, clock, hb', F, hs, hD⟩ := h
  exact ⟨es, clock, by rw [hb]; exact hb', F, hs, hD⟩

end Go.Proofs.Ytokhbjllgaaogaa
