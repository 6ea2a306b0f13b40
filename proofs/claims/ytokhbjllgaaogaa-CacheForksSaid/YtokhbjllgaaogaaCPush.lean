/- append(s, x): one entry behind a row of the call's own, of any element; a row that holds what another holds; slices that are only read. No condition: these are laws of the model alone. -/
import Derived.Test.YtokhbjllgaaogaaCHoard
import Derived.Test.YtokhbjllgaaogaaCFids
import Derived.Great.BuildSlice
import Derived.Laws.OwnMore
import Derived.Deep.Upon
namespace Go.Proofs.Ytokhbjllgaaogaa
set_option linter.unusedSimpArgs false
open Go.RowKit Go.Maps

/-- v is a slice of n elements of sz cells each; its cells are cs; they lie in a block that is none of S. -/
def RowsAt (S : Nat → Prop) (w : World) (v : Value) (n sz : Nat) (cs : List Value) : Prop :=
  cs.length = n * sz ∧ ∃ a cap, v = .slice a n cap ∧ (n = 0 ∨ ∃ b off, a = some ⟨b, off, none⟩ ∧ ¬ S b ∧ b < w.heap.size ∧ ∀ j x, cs[j]? = some x → w.cell? ⟨b, off + j, none⟩ = some x)

theorem Fr.cell {S : Nat → Prop} {w w' : World} (h : Fr S w w') {b o : Nat} (hb : b < w.heap.size) (hS : ¬ S b) : w'.cell? ⟨b, o, none⟩ = w.cell? ⟨b, o, none⟩ :=
  World.cell?_of_block (a := ⟨b, o, none⟩) (h.blk b hb hS)

theorem RowsAt.fr {S T : Nat → Prop} {w w' : World} {v : Value} {n sz : Nat} {cs : List Value} (h : RowsAt S w v n sz cs) (hf : Fr T w w') (hT : ∀ b, T b → S b) : RowsAt S w' v n sz cs := by
  obtain ⟨hl, a, cap, hv, hr⟩ := h
  refine ⟨hl, a, cap, hv, hr.imp id ?_⟩
  rintro ⟨b, off, ha, hS, hb, hc⟩
  exact ⟨b, off, ha, hS, Nat.lt_of_lt_of_le hb hf.size, fun j x hx => by rw [hf.cell hb (fun h => hS (hT b h))]; exact hc j x hx⟩

theorem RowsAt.no {S : Nat → Prop} {w w' : World} {v : Value} {n sz : Nat} {cs : List Value} (h : RowsAt S w v n sz cs) (hf : Fr No w w') : RowsAt S w' v n sz cs := h.fr hf (fun _ h => h.elim)

theorem RowsAt.mono {S T : Nat → Prop} {w : World} {v : Value} {n sz : Nat} {cs : List Value} (h : RowsAt S w v n sz cs) (hT : ∀ b, b < w.heap.size → T b → S b) : RowsAt T w v n sz cs := by
  obtain ⟨hl, a, cap, hv, hr⟩ := h
  refine ⟨hl, a, cap, hv, hr.imp id ?_⟩
  rintro ⟨b, off, ha, hS, hb, hc⟩
  exact ⟨b, off, ha, fun h => hS (hT b hb h), hb, hc⟩

/-- A row of the call's own is a slice that is read. -/
theorem RowsAt.of_owns {w : World} {base : Nat} {e : TypeId} {sz : Nat} {v : Value} {n : Nat} {cs : List Value} (h : w.ownsRow base e sz v n cs) {S : Nat → Prop} (hS : ∀ b, base ≤ b → ¬ S b) : RowsAt S w v n sz cs := by
  obtain ⟨hl, h⟩ := h
  refine ⟨hl, ?_⟩
  rcases h with ⟨rfl, rfl⟩ | ⟨g, cap, cur, rfl, hg, hh, _, _, _, ht⟩
  · exact ⟨none, 0, rfl, .inl rfl⟩
  · refine ⟨some ⟨g, 0, none⟩, cap, rfl, .inr ⟨g, 0, rfl, hS g hg, lt_of_heap hh, fun j x hx => ?_⟩⟩
    refine cell_at hh ?_
    rw [← ht] at hx
    have hj : j < n * sz := by
      have := (List.getElem?_eq_some_iff.1 hx).1
      simp at this; omega
    rw [List.getElem?_take, if_pos hj] at hx
    simpa using hx


/-- What is asked of an element type: its slice type, its size in cells, its bytes. -/
def ElemT (P : Program) (T e : TypeId) (sz bytes : Nat) : Prop :=
  P.underlying T = some (.slice e) ∧ (P.info? e).map (fun i => (i.size, i.bytes, i.zero.map (·.cells.size))) = some (sz, bytes, some sz)

theorem ElemT.get {P : Program} {T e : TypeId} {sz bytes : Nat} (h : ElemT P T e sz bytes) : ∃ i z, P.underlying T = some (.slice e) ∧ P.info? e = some i ∧ i.zero = some z ∧ i.size = sz ∧ i.bytes = bytes ∧ z.cells.size = sz := by
  obtain ⟨h1, h2⟩ := h
  cases hi : P.info? e with
  | none => simp [hi] at h2
  | some i =>
    cases hz : i.zero with
    | none => simp [hi, hz] at h2
    | some z => simp [hi, hz] at h2; exact ⟨i, z, h1, rfl, hz, h2.1, h2.2.1, h2.2.2⟩

theorem Fr.of_grown {base : Nat} {e : TypeId} {sz : Nat} {v : Value} {n : Nat} {xs : List Value} {w0 w w' : World} (hf : Fr No w0 w) (h0 : w0.heap.size ≤ base) (hown : w.ownsRow base e sz v n xs) (hg : w.grownBy w' v.ownBlock) : Fr No w0 w' :=
  hf.grown hg (fun k hk => .inr (Nat.le_trans h0 (hown.lt k hk).1))

set_option maxHeartbeats 1000000 in
theorem wpList_push {P : Program} {ops : Array Oper} {rest : List Oper} {o1 o2 : Oper} {a : Act} {w : World} {Q : Exit → Act → World → Prop} (T e : TypeId) (sz bytes : Nat) (hT : Hid (ElemT P T e sz bytes)) (hsz : 0 < sz) (hsmall : sz ≤ 16777216)
    (hg1 : o1.guard = none) (x : Operand) (ho1 : o1.op = .buildSlice T 1 #[(0, x)]) (d1 : Tmp) (hd1 : o1.dst = some d1)
    (hg2 : o2.guard = none) (s : Operand) (ho2 : o2.op = .call { callee := .builtin .append, args := #[s, .tmp d1], argTypes := #[T, T] })
    (nv : Value) (hx : a.eval x = nv) (hnv : nv.cells.size = sz) (h1 : Hid (∀ u ∈ nv.cells.toList, u.oneCell' = true))
    (v : Value) (hs : ∀ u, (a.put (some d1) u).eval s = v) (hd : ∀ u, (a.put (some d1) u).eval (.tmp d1) = u)
    (w0 : World) (base : Nat) (hb : Hid (base = w0.heap.size)) (hf : Hid (Fr No w0 w)) (n : Nat) (xs : List Value) (hown : Hid (w.ownsRow base e sz v n xs)) (h63 : n + 1 ≤ maxLen) (hbytes : (n + 1) * bytes ≤ 140737488355328)
    (h : ∀ v' w', Hid (w'.ownsRow base e sz v' (n + 1) (xs ++ nv.cells.toList)) → Hid (Fr No w0 w') → Hid (v' ≠ .slice none 0 0) →
      wpList P ops Q rest ((a.put (some d1) (.slice (some ⟨w.heap.size, 0, none⟩) 1 1)).put o2.dst v') w') : wpList P ops Q (o1 :: o2 :: rest) a w := by
  obtain ⟨i, z, hu, hi, hz, hsize, hby, hzs⟩ := hT.out.get
  have hbase : base ≤ w.heap.size := by rw [hb.out]; exact hf.out.size
  subst hsize
  refine wpList_buildSlice hg1 T e 1 #[(0, x)] ho1 nv.cells i z hu hi hz (by omega) (by omega) ?_ ?_
  · have := Great.fill_whole hsz [nv] ((Array.range (1 * i.size)).map (z.cells[· % z.cells.size]!)) (by intro v hv; simp at hv; subst hv; exact hnv) (by simp)
    simp only [List.map_toArray, List.map_cons, List.map_nil, hx]
    simpa using this
  · rw [hd1]
    have hb2 : base ≤ (w.alloc (.cells nv.cells e)).heap.size := by
      have : (w.alloc (.cells nv.cells e)).heap.size = w.heap.size + 1 := by simp
      omega
    refine wpList_append_own _ hg2 s (.tmp d1) T ho2 base e i z i.size bytes hu hi hz rfl hby hzs hsz v n xs (hs _) (hown.out.alloc _) ⟨w.heap.size, 0, none⟩ 1 1 nv.cells.toList (hd _) (by simpa using hnv) (fun j u hu => ?_) h1.out h63 hbytes hb2 (fun v' w' h1 h2 h3 => h v' w' h1 ?_ ?_)
    · have : (w.alloc (.cells nv.cells e)).cell? ⟨w.heap.size, j, none⟩ = some u := cell_at (heap_alloc_new w _) (by simpa using hu)
      rw [show (⟨w.heap.size, 0, none⟩ : Addr).add j = ⟨w.heap.size, j, none⟩ by simp only [Addr.add]; split <;> simp_all]
      exact this
    · exact Fr.of_grown (hf.out.alloc _) (Nat.le_of_eq hb.out.symm) (hown.out.alloc _) h2
    · show _ ≠ _; intro hc; have := h3.1 hc; omega

/-- make of a row that is empty, not nil; what is behind it. -/
theorem run_built0 {P : Program} {w : World} {T e : TypeId} {sz bytes : Nat} (hT : ElemT P T e sz bytes) : ∃ w' v, (Instr.buildSlice T 0 #[]).run P w = .ok v w' ∧ w'.ownsRow w.heap.size e sz v 0 [] ∧ w.grownBy w' none ∧ v ≠ .slice none 0 0 := by
  obtain ⟨i, z, hu, hi, hz, hsize, hby, hzs⟩ := hT.get
  refine ⟨w.alloc (.cells #[] e), .slice (some ⟨w.heap.size, 0, none⟩) 0 0, ?_, World.ownsRow_made w #[] 0 (Nat.le_refl _) (Nat.zero_le _) (by simp), World.grownBy_alloc w _ none, by simp⟩
  simp [Instr.buildSlice, run_underlying hu, sizeOf, typeInfo, hi, Instr.fill, newRow]
  congr 2
  exact Array.eq_empty_of_size_eq_zero (by simp)


theorem wpList_built0 {P : Program} {ops : Array Oper} {rest : List Oper} {o : Oper} {a : Act} {w : World} {Q : Exit → Act → World → Prop} (T e : TypeId) (sz bytes : Nat) (hT : Hid (ElemT P T e sz bytes)) (hg : o.guard = none) (ho : o.op = .buildSlice T 0 #[])
    (h : ∀ v w', Hid (w'.ownsRow w.heap.size e sz v 0 []) → Hid (Fr No w w') → Hid (v ≠ .slice none 0 0) → wpList P ops Q rest (a.put o.dst v) w') : wpList P ops Q (o :: rest) a w := by
  obtain ⟨w', v, hr, h1, h2, h3⟩ := run_built0 (w := w) hT.out
  refine wpList_ok hg ?_ (h v w' h1 ((Fr.refl No w).grown h2 (fun k hk => by cases hk)) h3)
  unfold execOp
  simp only [ho, List.map_toArray, List.map_nil, Sem.run_bind, hr, Result.andThen_ok]
  rfl

/-- Its cells. -/
theorem owns_cells {w : World} {base : Nat} {e : TypeId} {sz : Nat} {v : Value} {n : Nat} {xs : List Value} (h : w.ownsRow base e sz v n xs) (hv : v ≠ .slice none 0 0) :
    ∃ g cap cur, v = .slice (some ⟨g, 0, none⟩) n cap ∧ base ≤ g ∧ w.heap[g]? = some (.cells cur e (0, 0)) ∧ n * sz ≤ cur.size ∧ ∀ j, j < n * sz → cur[j]? = xs[j]? := by
  rcases h.2 with ⟨rfl, _⟩ | ⟨g, cap, cur, rfl, hb, hg, hn, _, hs, ht⟩
  · exact absurd rfl hv
  · refine ⟨g, cap, cur, rfl, hb, hg, by rw [hs]; exact Nat.mul_le_mul_right _ hn, fun j hj => ?_⟩
    rw [← ht, List.getElem?_take, if_pos hj, Array.getElem?_toList]

theorem wpList_copyRow {P : Program} {ops : Array Oper} {rest : List Oper} {o : Oper} {a : Act} {w : World} {Q : Exit → Act → World → Prop} (T e : TypeId) (sz bytes : Nat) (hT : Hid (ElemT P T e sz bytes)) (hsz : 0 < sz)
    (hg : o.guard = none) (s x : Operand) (ho : o.op = .call { callee := .builtin .append, args := #[s, x], argTypes := #[T, T] })
    (v : Value) (hs : a.eval s = v) (b n cap : Nat) (hx : a.eval x = .slice (some ⟨b, 0, none⟩) n cap)
    (cs : Array Value) (t : TypeId) (hb : w.heap[b]? = some (.cells cs t (0, 0))) (hn : Hid (n * sz ≤ cs.size)) (h1 : Hid (∀ j u, j < n * sz → cs[j]? = some u → u.oneCell' = true))
    (w0 : World) (base : Nat) (hb0 : Hid (base = w0.heap.size)) (hf : Hid (Fr No w0 w)) (hown : Hid (w.ownsRow base e sz v 0 [])) (hv : Hid (v ≠ .slice none 0 0)) (h63 : n ≤ maxLen) (hbytes : n * bytes ≤ 140737488355328)
    (h : ∀ g cap' cur w', Hid (w0.heap.size ≤ g) → Hid (w'.heap[g]? = some (.cells cur e (0, 0))) → Hid (n * sz ≤ cur.size) → Hid (∀ j, j < n * sz → cur[j]? = cs[j]?) → Hid (Fr No w0 w') → wpList P ops Q rest (a.put o.dst (.slice (some ⟨g, 0, none⟩) n cap')) w') : wpList P ops Q (o :: rest) a w := by
  obtain ⟨i, z, hu, hi, hz, hsize, hby, hzs⟩ := hT.out.get
  have hbase : base ≤ w.heap.size := by rw [hb0.out]; exact hf.out.size
  have hlen : (cs.toList.take (n * sz)).length = n * sz := by have := hn.out; simp; omega
  refine wpList_append_own _ hg s x T ho base e i z sz bytes hu hi hz hsize hby hzs hsz v 0 [] hs hown.out ⟨b, 0, none⟩ n cap (cs.toList.take (n * sz)) hx hlen (fun j u hu => ?_) (fun u hu => ?_) (by omega) (by rw [Nat.zero_add]; exact hbytes) hbase (fun v' w' h1 h2 h3 => ?_)
  · rw [List.getElem?_take] at hu
    split at hu
    · rw [show (⟨b, 0, none⟩ : Addr).add j = ⟨b, j, none⟩ by simp only [Addr.add]; split <;> simp_all]
      exact cell_at hb (by simpa using hu)
    · cases hu
  · obtain ⟨j, hj⟩ := List.mem_iff_getElem?.1 hu
    rw [List.getElem?_take] at hj
    split at hj
    · rename_i hlt; exact h1.out j u hlt (by simpa using hj)
    · cases hj
  · have hne : v' ≠ .slice none 0 0 := fun e => hv.out (h3.1 e).1
    rw [Nat.zero_add, List.nil_append] at h1
    obtain ⟨g, cap', cur, rfl, hbg, hhg, hsg, hcg⟩ := owns_cells h1 hne
    refine h g cap' cur w' (by show _ ≤ _; rw [← hb0.out]; exact hbg) hhg hsg (fun j hj => ?_) (Fr.of_grown hf.out (Nat.le_of_eq hb0.out.symm) hown.out h2)
    rw [hcg j hj, List.getElem?_take, if_pos hj, Array.getElem?_toList]

theorem RowsAt.of_owns_lt {w : World} {base : Nat} {e : TypeId} {sz : Nat} {v : Value} {n : Nat} {cs : List Value} (h : w.ownsRow base e sz v n cs) {S : Nat → Prop} (hS : ∀ b, base ≤ b → b < w.heap.size → ¬ S b) : RowsAt S w v n sz cs := by
  have := RowsAt.of_owns (S := fun b => S b ∧ b < w.heap.size ∧ base ≤ b) h (fun b hb hs => hS b hb hs.2.1 hs.1)
  obtain ⟨hl, a, cap, hv, hr⟩ := this
  refine ⟨hl, a, cap, hv, hr.imp id ?_⟩
  rintro ⟨b, off, rfl, hS', hb, hc⟩
  refine ⟨b, off, rfl, fun hs => ?_, hb, hc⟩
  rcases h.2 with ⟨rfl, _⟩ | ⟨g, cap', cur, rfl, hg, _⟩
  · simp at hv
  · simp at hv
    exact hS' ⟨hs, hb, by rw [← hv.1.1]; exact hg⟩

theorem owns_ne {w : World} {b1 b2 : Nat} {e1 e2 : TypeId} {s1 s2 : Nat} {v1 v2 : Value} {n1 n2 : Nat} {c1 c2 : List Value} (h1 : w.ownsRow b1 e1 s1 v1 n1 c1) (h2 : w.ownsRow b2 e2 s2 v2 n2 c2) (he : e1 ≠ e2) (hv : v1 ≠ .slice none 0 0) : v1.ownBlock ≠ v2.ownBlock := by
  rcases h1.2 with ⟨rfl, _⟩ | ⟨g, cap, cur, rfl, _, hg, _⟩
  · exact absurd rfl hv
  · rcases h2.2 with ⟨rfl, _⟩ | ⟨g', cap', cur', rfl, _, hg', _⟩
    · simp [Value.ownBlock]
    · simp only [Value.ownBlock, ne_eq, Option.some.injEq]
      rintro rfl
      rw [hg] at hg'
      simp at hg'
      exact he hg'.2

theorem run_op_built0 {P : Program} {o : Oper} {a : Act} {w : World} {T e : TypeId} {sz bytes : Nat} (hT : ElemT P T e sz bytes) (ho : o.op = .buildSlice T 0 #[]) :
    ∃ v w', (execOp a.eval o).run P w = .ok (.value v) w' ∧ w'.ownsRow w.heap.size e sz v 0 [] ∧ w.grownBy w' none ∧ v ≠ .slice none 0 0 := by
  obtain ⟨w', v, hr, h1, h2, h3⟩ := run_built0 (w := w) hT
  refine ⟨v, w', ?_, h1, h2, h3⟩
  unfold execOp
  simp only [ho, List.map_toArray, List.map_nil, Sem.run_bind, hr, Result.andThen_ok]
  rfl

/-- append(v, x...), v a row of the call's own that holds nothing. -/
theorem run_copy {P : Program} {o : Oper} {a : Act} {w : World} {T e : TypeId} {sz bytes : Nat} (hT : ElemT P T e sz bytes) (hsz : 0 < sz) {s x : Operand} (ho : o.op = .call { callee := .builtin .append, args := #[s, x], argTypes := #[T, T] })
    {v xv : Value} (hs : a.eval s = v) (hx : a.eval x = xv) {n : Nat} {xs : List Value} {S : Nat → Prop} (hrow : RowsAt S w xv n sz xs) (h1 : ∀ u ∈ xs, u.oneCell' = true) {base : Nat} (hown : w.ownsRow base e sz v 0 []) (hv : v ≠ .slice none 0 0) (hbase : base ≤ w.heap.size) (h63 : n ≤ maxLen) (hbytes : n * bytes ≤ 140737488355328) :
    ∃ v' w', (execOp a.eval o).run P w = .ok (.value v') w' ∧ w'.ownsRow base e sz v' n xs ∧ w.grownBy w' v.ownBlock ∧ v' ≠ .slice none 0 0 := by
  obtain ⟨i, z, hu, hi, hz, hsize, hby, hzs⟩ := hT.get
  obtain ⟨hl, xa, cap, rfl, hr⟩ := hrow
  have key : ∃ v' w', (Builtin.append_ #[T, T] o.type #[v, .slice xa n cap]).run P w = .ok v' w' ∧ w'.ownsRow base e sz v' n xs ∧ w.grownBy w' v.ownBlock ∧ v' ≠ .slice none 0 0 := by
    cases xa with
    | none =>
      obtain rfl : n = 0 := by
        rcases hr with h | ⟨b, off, h, _⟩
        · exact h
        · cases h
      obtain rfl : xs = [] := List.eq_nil_of_length_eq_zero (by simpa using hl)
      rcases id hown.2 with ⟨rfl, _⟩ | ⟨g, cap', cur, rfl, hg⟩
      · exact absurd rfl hv
      · exact ⟨_, w, run_append_nothing w T T o.type e i hu hi _ 0 cap' (Nat.zero_le _) _ (Src.ofNil _ hu cap), hown, ⟨rfl, rfl, rfl, Nat.le_refl _, fun _ _ _ => rfl⟩, hv⟩
    | some ad =>
      have hcells : ∀ j u, xs[j]? = some u → w.cell? (ad.add j) = some u := by
        intro j u hj
        rcases hr with h | ⟨b, off, h, _, _, hc⟩
        · subst h
          have : xs = [] := List.eq_nil_of_length_eq_zero (by simpa using hl)
          subst this; simp at hj
        · simp only [Option.some.injEq] at h
          subst h
          rw [Addr.add_mid]
          exact hc j u hj
      obtain ⟨v', w', h1, h2, h3, h4⟩ := run_append_own (P := P) w base T o.type e i z sz bytes hu hi hz hsize hby hzs hsz v 0 [] hown ad n cap xs hl hcells h1 (by omega) (by rw [Nat.zero_add]; exact hbytes) hbase
      rw [Nat.zero_add, List.nil_append] at h2
      exact ⟨v', w', h1, h2, h3, fun e => hv (h4.1 e).1⟩
  obtain ⟨v', w', hk, h⟩ := key
  refine ⟨v', w', ?_, h⟩
  unfold execOp
  simp only [ho, resolve, invoke, builtin, Sem.run_bind, Sem.run_pure, Result.andThen_ok, List.map_toArray, List.map_cons, List.map_nil, hs, hx, hk]

end Go.Proofs.Ytokhbjllgaaogaa
