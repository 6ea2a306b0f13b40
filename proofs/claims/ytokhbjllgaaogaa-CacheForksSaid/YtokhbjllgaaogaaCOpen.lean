/- The arguments of the cache's laws: what the row says of them is what the walks ask. No condition. -/
import Derived.Test.YtokhbjllgaaogaaCPlay
import Derived.ProofKit
import Derived.Deep.Slices
import Derived.ChangeSlices
import Derived.Lib.SmallJoins
namespace Go.Proofs.Ytokhbjllgaaogaa
set_option linter.unusedSimpArgs false
open Go.RowKit Go.Maps

section
variable {H : Type} {enc : TypeId × Value → H} {W : World} {base : Nat} {spare : Nat → Bool} {held : Bool}

theorem own9 : ownKnob Try.prog.godebug = none := by kernel_rfl
theorem laidOut9 : laidOutB Try.prog = true := by kernel_rfl
theorem byteU9 : Try.prog.underlying 5 = some (.int .u8) := by kernel_rfl

theorem cell_plain9 {w : World} {a : Addr} {v : Value} (h : w.cell? a = some v) : a = ⟨a.block, a.off, none⟩ ∧ a.block < w.heap.size := by
  unfold World.cell? at h
  cases hb : w.heap[a.block]? with
  | none => simp [hb] at h
  | some o =>
    refine ⟨?_, lt_of_heap hb⟩
    cases o with
    | cells c t fr =>
      simp only [hb] at h
      obtain ⟨b, off, spot⟩ := a
      cases spot with
      | none => rfl
      | some s => simp at h
    | _ => simp [hb] at h

theorem len63 {n : Nat} (h : n ≤ maxLen) : n < 9223372036854775808 := by
  simp only [maxLen] at h; omega

def fieldsOf (P : Program) (t : TypeId) : Option (Array (TypeId × Nat)) := match P.underlying t with | some (.struct fs) => some (fs.map fun f => (f.type, f.offset)) | _ => none
theorem d9F : fieldsOf Try.prog 50 = some #[(3, 0), (27, 1), (4, 2), (3, 3)] := by kernel_rfl
theorem d9sU : Try.prog.underlying 34 = some (.slice 50) := by kernel_rfl
theorem d9C : Try.prog.cellsOf 50 = 4 := by kernel_rfl
theorem intC9 : Try.prog.cellsOf 3 = 1 := by kernel_rfl
theorem fidC9 : Try.prog.cellsOf 27 = 1 := by kernel_rfl
theorem boolC9 : Try.prog.cellsOf 4 = 1 := by kernel_rfl

theorem u8_wf9 {n : Int} (h : (Lit.int .u8 n).wf = true) : 0 ≤ n ∧ n < 256 := by
  simp [Lit.wf, IntKind.min, IntKind.max] at h
  have h1 := h.1
  have h2 := h.2
  simp [IntKind.signed, IntKind.bits] at h1 h2
  omega

/-- One deed's cells. -/
theorem d9_of {fuel : Nat} {cs : List Value} {x : DataW H × List MemPlace} (hl : cs.length = 4) (h : DataW.trod enc Try.prog W base spare held fuel 50 cs = some x) :
    ∃ d : D9, cs = d.cells.toList ∧ (Lit.int .u32 d.f).wf = true := by
  have hF := d9F
  unfold fieldsOf at hF
  split at hF
  · rename_i fs hs
    simp only [Option.some.injEq] at hF
    have hsz : fs.size = 4 := by have := congrArg Array.size hF; simpa using this
    obtain ⟨f0, f1, f2, f3, rfl⟩ : ∃ f0 f1 f2 f3, fs = #[f0, f1, f2, f3] := by
      obtain ⟨l⟩ := fs
      match l, hsz with
      | [a, b, c, d], _ => exact ⟨a, b, c, d, rfl⟩
    simp at hF
    obtain ⟨⟨t0, o0⟩, ⟨t1, o1⟩, ⟨t2, o2⟩, t3, o3⟩ := hF
    obtain ⟨y0, y1, y2, y3, n, _, _, h0, h1, h2, h3⟩ := Joins.trod_struct4 hs h
    rw [t0, o0, intC9] at h0
    rw [t1, o1, fidC9] at h1
    rw [t2, o2, boolC9] at h2
    rw [t3, o3, intC9] at h3
    match cs, hl with
    | [c0, c1, c2, c3], _ =>
      simp at h0 h1 h2 h3
      obtain ⟨k, e0, _, _⟩ := DataW.trod_int intU h0
      obtain ⟨f, e1, _, w1⟩ := DataW.trod_int fidU h1
      obtain ⟨b, e2, _⟩ := DataW.trod_bool boolU h2
      obtain ⟨y, e3, _, _⟩ := DataW.trod_int intU h3
      simp at e0 e1 e2 e3
      subst e0 e1 e2 e3
      exact ⟨⟨k, f, b, y⟩, rfl, w1⟩
  · cases hF

theorem list_of {α : Type} {p : Nat → α → Prop} : ∀ {n : Nat}, (∀ i, i < n → ∃ d, p i d) → ∃ ds : List α, ds.length = n ∧ ∀ (i : Nat) (d : α), ds[i]? = some d → p i d
  | 0, _ => ⟨[], rfl, fun i d h => by simp at h⟩
  | n + 1, h => by
    obtain ⟨ds, hl, hd⟩ := list_of (n := n) (fun i hi => h i (by omega))
    obtain ⟨d, hp⟩ := h n (by omega)
    refine ⟨ds ++ [d], by simp [hl], fun i e he => ?_⟩
    rw [List.getElem?_append] at he
    split at he
    · exact hd i e he
    · rename_i hlt
      have hi : i - ds.length = 0 := by
        have := (List.getElem?_eq_some_iff.1 he).1
        simp at this; omega
      rw [hi] at he
      simp at he
      subst he
      rw [show i = n by omega]; exact hp

theorem flat9_len (ds : List D9) : (ds.flatMap fun d => d.cells.toList).length = ds.length * 4 := by
  induction ds with
  | nil => rfl
  | cons y r ih => simp only [List.flatMap_cons, List.length_append, ih, List.length_cons]; show 4 + _ = _; omega

theorem deeds9_of {fuel : Nat} {v : Value} {x : DataW H × List MemPlace} (h : DataW.trod enc Try.prog W base spare held fuel 34 [v] = some x) : ∃ ds : List D9, Deeds9 W.heap.size W v ds := by
  rcases Deep.open_slice d9sU h with ⟨hv, _⟩ | ⟨a, len, cap, m, n, D, Pl, hv, _, hl, hm, hmm, _, hi⟩
  · simp only [List.cons.injEq, and_true] at hv
    subst hv
    exact ⟨[], ⟨rfl, none, 0, rfl, .inl rfl⟩, (fun _ h => by cases h), by simp⟩
  · simp only [List.cons.injEq, and_true] at hv
    subst hv
    have hlm : len ≤ m := by rw [hmm]; split <;> omega
    obtain ⟨ds, hds, hp⟩ := list_of (p := fun i (d : D9) => (∀ j, j < 4 → W.cell? ((a.add (i * 4)).add j) = d.cells[j]?) ∧ (Lit.int .u32 d.f).wf = true) (n := len) (fun i hil => by
      obtain ⟨cs', h1, h2⟩ := hi i (by omega)
      rw [d9C] at h1
      obtain ⟨_, h3, h4⟩ := World.cells?_some h1
      obtain ⟨d, e, h5⟩ := d9_of h3 h2
      exact ⟨d, fun j hj => by rw [h4 j hj, e, Array.getElem?_toList], h5⟩)
    refine ⟨ds, ⟨flat9_len ds, some a, cap, by rw [hds], ?_⟩, fun d hd => ?_, by rw [hds]; exact len63 (by omega)⟩
    · by_cases h0 : len = 0
      · exact .inl (by rw [hds]; exact h0)
      · obtain ⟨d0, hd0⟩ : ∃ d, ds[0]? = some d := ⟨ds[0]'(by omega), List.getElem?_eq_getElem _⟩
        have hc := (hp 0 d0 hd0).1 0 (by omega)
        have h1 := cell_plain9 (v := .int .i64 d0.k) (a := a) (by simpa [Addr.add, D9.cells, deed9] using hc)
        refine .inr ⟨a.block, a.off, by rw [← h1.1], fun hu => ?_, h1.2, fun q u hq => ?_⟩
        · have : W.heap.size ≤ a.block := hu
          omega
        · have hq' := (List.getElem?_eq_some_iff.1 hq).1
          rw [flat9_len] at hq'
          obtain ⟨d, hd⟩ : ∃ d, ds[q / 4]? = some d := ⟨ds[q / 4]'(by omega), List.getElem?_eq_getElem _⟩
          have h2 := (hp _ d hd).1 (q % 4) (by omega)
          have h3 := d9_get hd (q % 4) (by omega)
          rw [show q / 4 * 4 + q % 4 = q by omega, hq] at h3
          rw [← h3] at h2
          rw [h1.1, Addr.add_mid, Addr.add_mid] at h2
          rw [show a.off + q = a.off + q / 4 * 4 + q % 4 by omega]
          exact h2
    · obtain ⟨i, hi'⟩ := List.mem_iff_getElem?.1 hd
      exact (hp i d hi').2

/-- Fids lie in memory. -/
def FidsAt (w : World) (v : Value) (fs : List Int) : Prop := RowsAt (fun b => w.heap.size ≤ b) w v fs.length 1 (fs.map encU) ∧ (∀ f ∈ fs, (Lit.int .u32 f).wf = true) ∧ fs.length < 9223372036854775808

theorem fids9_of {fuel : Nat} {v : Value} {x : DataW H × List MemPlace} (h : DataW.trod enc Try.prog W base spare held fuel 25 [v] = some x) : ∃ fs : List Int, FidsAt W v fs := by
  rcases ChangeShapes.open_ints fidsU fidU fidC9 h with ⟨hv, _⟩ | ⟨a, len, cap, zs, hv, _, hl, hm, hz, _, hc, hw⟩
  · simp only [List.cons.injEq, and_true] at hv
    subst hv
    exact ⟨[], ⟨rfl, none, 0, rfl, .inl rfl⟩, (fun _ h => by cases h), by simp⟩
  · simp only [List.cons.injEq, and_true] at hv
    subst hv
    have hle : len ≤ zs.length := by rw [hz]; split <;> omega
    have hlen : (zs.take len).length = len := by simp; omega
    refine ⟨zs.take len, ⟨by simp, some a, cap, by rw [hlen], ?_⟩, fun f hf => hw f (List.mem_of_mem_take hf), by rw [hlen]; exact len63 (by omega)⟩
    by_cases h0 : len = 0
    · exact .inl (by rw [hlen]; exact h0)
    · have h1 := cell_plain9 (by have := hc 0 (by omega); simpa [Addr.add] using this)
      refine .inr ⟨a.block, a.off, by rw [← h1.1], fun hu => ?_, h1.2, fun j u hj => ?_⟩
      · have : W.heap.size ≤ a.block := hu
        omega
      · have hj0 := (List.getElem?_eq_some_iff.1 hj).1
        simp at hj0
        have hj' : j < len ∧ j < zs.length := by omega
        have := hc j (by omega)
        rw [show a.add j = ⟨a.block, a.off + j, none⟩ by rw [h1.1]; exact Addr.add_mid _ _ _] at this
        rw [this]
        rw [← hj]
        simp [List.getElem?_take, hj'.1, List.getElem?_eq_getElem hj'.2]
end

end Go.Proofs.Ytokhbjllgaaogaa
