/- Rows of fids that a function builds for itself: read, appended to, cut at the front. No condition beside what each law asks. -/
import Derived.Test.YtokhbjllgaaogaaCTurn
import Derived.Great.BuildSlice
import Derived.Laws.OwnMore
import Derived.ArgAppend
import Derived.Maps.AppendAt
namespace Go.Proofs.Ytokhbjllgaaogaa
set_option linter.unusedSimpArgs false
open Go.RowKit Go.Maps

def FR (w : World) (base : Nat) (v : Value) (xs : List Int) : Prop :=
  (v = .slice none 0 0 ∧ xs = []) ∨ ∃ g off cap cur, v = .slice (some ⟨g, off, none⟩) xs.length cap ∧ base ≤ g ∧ w.heap[g]? = some (.cells cur 27 (0, 0)) ∧ xs.length ≤ cap ∧ off + cap ≤ cur.size ∧ ∀ j u, xs[j]? = some u → cur[off + j]? = some (.int .u32 u)

section
variable {w w' : World} {base base' : Nat} {v : Value} {xs : List Int}

theorem FR.shape (h : FR w base v xs) : ∃ va vc, v = .slice va xs.length vc := by
  rcases h with ⟨rfl, rfl⟩ | ⟨g, off, cap, cur, rfl, _⟩
  · exact ⟨none, 0, rfl⟩
  · exact ⟨_, _, rfl⟩
theorem FR.low (h : FR w base v xs) (hb : base' ≤ base) : FR w base' v xs := by
  rcases h with h | ⟨g, off, cap, cur, h1, h2, h3⟩
  · exact .inl h
  · exact .inr ⟨g, off, cap, cur, h1, Nat.le_trans hb h2, h3⟩
theorem FR.keep (h : FR w base v xs) {S : Nat → Prop} (hf : Fr S w w') (hS : ∀ b, base ≤ b → b < w.heap.size → ¬ S b) : FR w' base v xs := by
  rcases h with h | ⟨g, off, cap, cur, h1, h2, h3, h4⟩
  · exact .inl h
  · exact .inr ⟨g, off, cap, cur, h1, h2, hf.keep h3 (hS g h2 (lt_of_heap h3)), h4⟩
theorem FR.no (h : FR w base v xs) (hf : Fr No w w') : FR w' base v xs := h.keep hf (fun _ _ _ h => h)
theorem FR.cell (h : FR w base v xs) {j : Nat} {u : Int} (hj : xs[j]? = some u) : ∃ g off cap, v = .slice (some ⟨g, off, none⟩) xs.length cap ∧ w.cell? ⟨g, off + j, none⟩ = some (.int .u32 u) := by
  rcases h with ⟨_, rfl⟩ | ⟨g, off, cap, cur, h1, h2, h3, h4, h5, h6⟩
  · simp at hj
  · exact ⟨g, off, cap, h1, cell_at h3 (h6 j u hj)⟩
theorem FR.of_owns (h : w.ownsRow base 27 1 v xs.length (xs.map encU)) : FR w base v xs := by
  obtain ⟨hl, ⟨hv, h0⟩ | ⟨g, cap, cur, hv, hb, hh, h1, h2, h3, h4⟩⟩ := h
  · exact .inl ⟨hv, List.eq_nil_of_length_eq_zero h0⟩
  · refine .inr ⟨g, 0, cap, cur, hv, hb, hh, h1, by omega, fun j u hj => ?_⟩
    have hlt := (List.getElem?_eq_some_iff.1 hj).1
    have h5 : (cur.toList.take (xs.length * 1))[j]? = (xs.map encU)[j]? := by rw [h4]
    rw [List.getElem?_take_of_lt (by omega), Array.getElem?_toList] at h5
    rw [Nat.zero_add, h5]
    simp [hj]

theorem run_appendf {o : Oper} {a : Act} {s x : Operand} {v1 v2 v' : Value} (ho : o.op = .call { callee := .builtin .append, args := #[s, x], argTypes := #[25, 25] }) (hs : a.eval s = v1) (hx : a.eval x = v2)
    (hr : (Builtin.append_ #[25, 25] o.type #[v1, v2]).run Try.prog w = .ok v' w') : (execOp a.eval o).run Try.prog w = .ok (.value v') w' := by
  unfold execOp
  simp only [ho, resolve, invoke, builtin, Sem.run_bind, Sem.run_pure, Result.andThen_ok, List.map_toArray, List.map_cons, List.map_nil, hs, hx, hr]

theorem FR.push (h : FR w base v xs) (hlen : xs.length < 1000) (hb : base ≤ w.heap.size) {b : Nat} {y : Int} (hy : w.cell? ⟨b, 0, none⟩ = some (.int .u32 y)) (ty : TypeId) :
    ∃ v' w', (Builtin.append_ #[25, 25] ty #[v, .slice (some ⟨b, 0, none⟩) 1 1]).run Try.prog w = .ok v' w' ∧ FR w' base v' (xs ++ [y]) ∧ Fr (fun c => base ≤ c) w w' := by
  obtain ⟨i0, hi, hz0, hz1, hz2⟩ := info_parts fidI
  have hnews : ∀ j u, [Value.int .u32 y][j]? = some u → w.cell? ((⟨b, 0, none⟩ : Addr).add j) = some u := fun j u hj => by
    cases j with
    | zero => simp at hj; subst hj; exact hy
    | succ j => simp at hj
  have h1 : ∀ u ∈ [Value.int .u32 y], u.oneCell' = true := fun u hu => by simp at hu; subst hu; rfl
  rcases h with ⟨rfl, rfl⟩ | ⟨g, off, cap, cur, rfl, h2, h3, h4, h5, h6⟩
  · obtain ⟨v', w', hr, own, hg, _⟩ := run_append_own_at (P := Try.prog) w base 25 ty 27 i0 (.int .u32 0) 1 4 fidsU hi hz0 hz1 hz2 rfl (by decide) (.slice none 0 0) 0 [] ⟨rfl, .inl ⟨rfl, rfl⟩⟩ ⟨b, 0, none⟩ 1 1 [.int .u32 y] rfl hnews h1 (by simp [maxLen]) (by omega) hb
    refine ⟨v', w', hr, FR.of_owns (by simpa using own), ⟨hg.os, hg.tape, hg.output, hg.size, fun k hk _ => hg.block k hk (by simp [Value.ownBlock])⟩⟩
  · by_cases hroom : xs.length + 1 ≤ cap
    · have hin : off + xs.length < cur.size := by omega
      have hr := run_append_room_cells (P := Try.prog) w 25 ty 27 i0 fidsU hi g off xs.length cap ⟨b, 0, none⟩ 1 1 [.int .u32 y] (by rw [hz1]; rfl) hnews h1 hroom
        (fun j hj => by
          have : j = 0 := by simpa using hj
          subst this
          rw [hz1, cell_at h3 (v := cur[off + xs.length]) (by rw [show off + xs.length * 1 + 0 = off + xs.length by omega]; exact Array.getElem?_eq_getElem hin)]; rfl)
        (fun j hj => by simp [World.frozen?, h3])
      rw [hz1] at hr
      refine ⟨_, _, hr, ?_, ?_⟩
      · refine .inr ⟨g, off, cap, cur.setIfInBounds (off + xs.length) (.int .u32 y), by simp, h2, ?_, by simp; omega, by simp; omega, fun j u hj => ?_⟩
        · simp only [World.setCells, Nat.mul_one]
          exact heap_setAt h3 _ rfl
        · by_cases hjl : j < xs.length
          · rw [Array.getElem?_setIfInBounds_ne (by omega)]
            rw [List.getElem?_append_left hjl] at hj
            exact h6 j u hj
          · have : j = xs.length := by have := (List.getElem?_eq_some_iff.1 hj).1; simp at this; omega
            subst this
            rw [Array.getElem?_setIfInBounds_self_of_lt hin]
            simpa using hj
      · simp only [World.setCells, Nat.mul_one]
        exact (Fr.refl _ w).setCell (p := ⟨g, off + xs.length, none⟩) (.inl h2) _
    · obtain ⟨v', w', hr, own, hg⟩ := run_append_arg_grows (P := Try.prog) w 25 ty 27 i0 (.int .u32 0) 1 4 fidsU hi hz0 hz1 hz2 rfl (by decide) ⟨g, off, none⟩ xs.length cap (xs.map encU) (by simp)
        (fun j u hj => by
          rw [Addr.add_mid]
          simp only [List.getElem?_map, Option.map_eq_some_iff] at hj
          obtain ⟨z, hz, rfl⟩ := hj
          exact cell_at h3 (h6 j z hz)) ⟨b, 0, none⟩ 1 1 [.int .u32 y] rfl hnews (by omega) (by simp only [maxLen]; omega) (by omega)
      refine ⟨v', w', hr, (FR.of_owns (base := w.heap.size) (by simpa using own)).low hb, ⟨hg.os, hg.tape, hg.output, hg.size, fun k hk _ => hg.block k hk (by simp)⟩⟩
end

set_option maxHeartbeats 1000000 in
theorem wpList_fpush {ops : Array Oper} {rest : List Oper} {o1 o2 : Oper} {a : Act} {w : World} {Q : Exit → Act → World → Prop} (hg1 : o1.guard = none) (x : Operand) (ho1 : o1.op = .buildSlice 25 1 #[(0, x)]) (d1 : Tmp) (hd1 : o1.dst = some d1)
    (hg2 : o2.guard = none) (s : Operand) (ho2 : o2.op = .call { callee := .builtin .append, args := #[s, .tmp d1], argTypes := #[25, 25] }) (y : Int) (hx : a.eval x = .int .u32 y)
    (v : Value) (hs : ∀ u, (a.put (some d1) u).eval s = v) (hd : ∀ u, (a.put (some d1) u).eval (.tmp d1) = u) (base : Nat) (xs : List Int) (hr : Hid (FR w base v xs)) (hlen : Hid (xs.length < 1000)) (hb : Hid (base ≤ w.heap.size))
    (h : ∀ v' w', Hid (FR w' base v' (xs ++ [y])) → Hid (Fr (fun c => base ≤ c) w w') → wpList Try.prog ops Q rest ((a.put (some d1) (.slice (some ⟨w.heap.size, 0, none⟩) 1 1)).put o2.dst v') w') : wpList Try.prog ops Q (o1 :: o2 :: rest) a w := by
  obtain ⟨i0, hi, hz0, hz1, hz2⟩ := info_parts fidI
  refine wpList_buildSlice hg1 25 27 1 #[(0, x)] ho1 #[.int .u32 y] i0 (.int .u32 0) fidsU hi hz0 (by omega) (by omega) ?_ ?_
  · have := Great.fill_whole (show 0 < 1 by decide) [Value.int .u32 y] ((Array.range (1 * 1)).map ((Value.int .u32 0).cells[· % (Value.int .u32 0).cells.size]!)) (by intro v hv; simp at hv; subst hv; rfl) (by simp)
    simp only [List.map_toArray, List.map_cons, List.map_nil, hx, hz1]
    simpa [Value.cells] using this
  · rw [hd1]
    obtain ⟨v', w', h1, h2, h3⟩ := (hr.out.keep ((Fr.refl No w).alloc (.cells #[.int .u32 y] 27)) (fun _ _ _ h => h)).push hlen.out (Nat.le_trans hb.out (by simp)) (b := w.heap.size) (y := y) (cell_at (heap_alloc_new w _) rfl) o2.type
    refine wpList_ok hg2 (run_appendf ho2 (hs _) (hd _) h1) (h v' w' h2 ?_)
    exact ((Fr.refl (fun c => base ≤ c) w).alloc _).trans h3 (fun _ h => .inl h)

end Go.Proofs.Ytokhbjllgaaogaa
