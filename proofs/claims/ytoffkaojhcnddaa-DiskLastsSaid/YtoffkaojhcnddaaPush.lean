/- append(s, x): one entry behind a row of the call's own; an array literal of one entry. -/
import Derived.Test.YtoffkaojhcnddaaLoose
import Derived.Great.BuildSlice
import Derived.Laws.OwnMore
namespace Go.Proofs.Ytoffkaojhcnddaa
set_option linter.unusedSimpArgs false
open Go.RowKit Go.Maps

/-- What is asked of an element type: its slice type, its size in cells, its bytes. -/
def ElemT (P : Program) (T e : TypeId) (sz bytes : Nat) : Prop :=
  P.underlying T = some (.slice e) ∧ (P.info? e).map (fun i => (i.size, i.bytes, i.zero.map (·.cells.size))) = some (sz, bytes, some sz)

theorem ElemT.get {P : Program} {T e : TypeId} {sz bytes : Nat} (h : ElemT P T e sz bytes) : ∃ i z, P.underlying T = some (.slice e) ∧ P.info? e = some i ∧ i.zero = some z ∧ i.size = sz ∧ i.bytes = bytes ∧ z.cells.size = sz := by
  obtain ⟨h1, h2⟩ := h
  cases hi : P.info? e with
  | none => simp [hi] at h2
  | some i =>
    cases hz : i.zero with
    | none => simp [hi, hz] at h2
    | some z => simp [hi, hz] at h2; exact ⟨i, z, h1, rfl, hz, h2.1, h2.2.1, h2.2.2⟩

theorem Fr.of_grown {base : Nat} {e : TypeId} {sz : Nat} {v : Value} {n : Nat} {xs : List Value} {w0 w w' : World} (hf : Fr No w0 w) (h0 : w0.heap.size ≤ base) (hown : w.ownsRow base e sz v n xs) (hg : w.grownBy w' v.ownBlock) : Fr No w0 w' :=
  hf.grown hg (fun k hk => .inr (Nat.le_trans h0 (hown.lt k hk).1))

set_option maxHeartbeats 1000000 in
theorem wpList_push {P : Program} {ops : Array Oper} {rest : List Oper} {o1 o2 : Oper} {a : Act} {w : World} {Q : Exit → Act → World → Prop} (T e : TypeId) (sz bytes : Nat) (hT : Hid (ElemT P T e sz bytes)) (hsz : 0 < sz) (hsmall : sz ≤ 16777216)
    (hg1 : o1.guard = none) (x : Operand) (ho1 : o1.op = .buildSlice T 1 #[(0, x)]) (d1 : Tmp) (hd1 : o1.dst = some d1)
    (hg2 : o2.guard = none) (s : Operand) (ho2 : o2.op = .call { callee := .builtin .append, args := #[s, .tmp d1], argTypes := #[T, T] })
    (nv : Value) (hx : a.eval x = nv) (hnv : nv.cells.size = sz) (h1 : Hid (∀ u ∈ nv.cells.toList, u.oneCell' = true))
    (v : Value) (hs : ∀ u, (a.put (some d1) u).eval s = v) (hd : ∀ u, (a.put (some d1) u).eval (.tmp d1) = u)
    (w0 : World) (base : Nat) (hb : Hid (base = w0.heap.size)) (hf : Hid (Fr No w0 w)) (n : Nat) (xs : List Value) (hown : Hid (w.ownsRow base e sz v n xs)) (h63 : n + 1 ≤ maxLen) (hbytes : (n + 1) * bytes ≤ 140737488355328)
    (h : ∀ v' w', Hid (w'.ownsRow base e sz v' (n + 1) (xs ++ nv.cells.toList)) → Hid (Fr No w0 w') → Hid (v' ≠ .slice none 0 0) →
      wpList P ops Q rest ((a.put (some d1) (.slice (some ⟨w.heap.size, 0, none⟩) 1 1)).put o2.dst v') w') : wpList P ops Q (o1 :: o2 :: rest) a w := by
  obtain ⟨i, z, hu, hi, hz, hsize, hby, hzs⟩ := hT.out.get
  have hbase : base ≤ w.heap.size := by rw [hb.out]; exact hf.out.size
  subst hsize
  refine wpList_buildSlice hg1 T e 1 #[(0, x)] ho1 nv.cells i z hu hi hz (by omega) (by omega) ?_ ?_
  · have := Great.fill_whole hsz [nv] ((Array.range (1 * i.size)).map (z.cells[· % z.cells.size]!)) (by intro v hv; simp at hv; subst hv; exact hnv) (by simp)
    simp only [List.map_toArray, List.map_cons, List.map_nil, hx]
    simpa using this
  · rw [hd1]
    have hb2 : base ≤ (w.alloc (.cells nv.cells e)).heap.size := by
      have : (w.alloc (.cells nv.cells e)).heap.size = w.heap.size + 1 := by simp
      omega
    refine wpList_append_own _ hg2 s (.tmp d1) T ho2 base e i z i.size bytes hu hi hz rfl hby hzs hsz v n xs (hs _) (hown.out.alloc _) ⟨w.heap.size, 0, none⟩ 1 1 nv.cells.toList (hd _) (by simpa using hnv) (fun j u hu => ?_) h1.out h63 hbytes hb2 (fun v' w' h1 h2 h3 => h v' w' h1 ?_ ?_)
    · have : (w.alloc (.cells nv.cells e)).cell? ⟨w.heap.size, j, none⟩ = some u := cell_at (heap_alloc_new w _) (by simpa using hu)
      rw [show (⟨w.heap.size, 0, none⟩ : Addr).add j = ⟨w.heap.size, j, none⟩ by simp only [Addr.add]; split <;> simp_all]
      exact this
    · exact Fr.of_grown (hf.out.alloc _) (Nat.le_of_eq hb.out.symm) (hown.out.alloc _) h2
    · show _ ≠ _; intro hc; have := h3.1 hc; omega

/-- make of a row that is empty, not nil; what is behind it. -/
theorem run_built0 {P : Program} {w : World} {T e : TypeId} {sz bytes : Nat} (hT : ElemT P T e sz bytes) : ∃ w' v, (Instr.buildSlice T 0 #[]).run P w = .ok v w' ∧ w'.ownsRow w.heap.size e sz v 0 [] ∧ w.grownBy w' none ∧ v ≠ .slice none 0 0 := by
  obtain ⟨i, z, hu, hi, hz, hsize, hby, hzs⟩ := hT.get
  refine ⟨w.alloc (.cells #[] e), .slice (some ⟨w.heap.size, 0, none⟩) 0 0, ?_, World.ownsRow_made w #[] 0 (Nat.le_refl _) (Nat.zero_le _) (by simp), World.grownBy_alloc w _ none, by simp⟩
  simp [Instr.buildSlice, run_underlying hu, sizeOf, typeInfo, hi, Instr.fill, newRow]
  congr 2
  exact Array.eq_empty_of_size_eq_zero (by simp)

end Go.Proofs.Ytoffkaojhcnddaa
