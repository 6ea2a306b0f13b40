/- The reference's disk: Write. No condition beside that it lies there. -/
import Derived.Test.YtoffkaojhcnddaaRef2
namespace Go.Proofs.Ytoffkaojhcnddaa
set_option linter.unusedSimpArgs false
open Go.RowKit Go.Maps

section plain
variable {α : Type} {m : List (Int × α)} {x : Int × α} {i : Int} {c : α}

theorem aput_low (h : ∀ y ∈ m, y.1 < i) : aput m i c = m ++ [(i, c)] := by
  induction m with
  | nil => rfl
  | cons y r ih =>
    have := h y List.mem_cons_self
    simp only [aput, if_neg (show ¬ i < y.1 by omega), if_neg (show ¬ i = y.1 by omega), List.cons_append]
    rw [ih (fun z hz => h z (List.mem_cons_of_mem _ hz))]

theorem aput_snoc_lt (h : ∀ y ∈ m, y.1 < i) (hx : i < x.1) : aput (m ++ [x]) i c = m ++ [(i, c)] ++ [x] := by
  induction m with
  | nil => simp [aput, hx]
  | cons y r ih =>
    have := h y List.mem_cons_self
    simp only [List.cons_append, aput, if_neg (show ¬ i < y.1 by omega), if_neg (show ¬ i = y.1 by omega)]
    rw [ih (fun z hz => h z (List.mem_cons_of_mem _ hz))]

theorem aput_snoc_eq (h : ∀ y ∈ m, y.1 < i) (hx : i = x.1) : aput (m ++ [x]) i c = m ++ [(i, c)] := by
  induction m with
  | nil => simp [aput, hx]
  | cons y r ih =>
    have := h y List.mem_cons_self
    simp only [List.cons_append, aput, if_neg (show ¬ i < y.1 by omega), if_neg (show ¬ i = y.1 by omega)]
    rw [ih (fun z hz => h z (List.mem_cons_of_mem _ hz))]

theorem aput_snoc_in (h : ∃ y ∈ m, i ≤ y.1) : aput (m ++ [x]) i c = aput m i c ++ [x] := by
  induction m with
  | nil => obtain ⟨y, hy, _⟩ := h; cases hy
  | cons y r ih =>
    simp only [List.cons_append, aput]
    split
    · rfl
    · split
      · rfl
      · rw [ih (by
          obtain ⟨z, hz, hi⟩ := h
          rcases List.mem_cons.1 hz with rfl | hz
          · omega
          · exact ⟨z, hz, hi⟩)]
        rfl

/-- What Write has put out when it has come by the entries m. -/
def wout (m : List (Int × α)) (i : Int) (c : α) : List (Int × α) := if m.any (fun y => decide (i ≤ y.1)) then aput m i c else m

theorem any_false (h : m.any (fun y => decide (i ≤ y.1)) = false) : ∀ y ∈ m, y.1 < i := fun y hy => by
  have := List.any_eq_false.1 h y hy
  simp at this; omega
theorem any_true (h : m.any (fun y => decide (i ≤ y.1)) = true) : ∃ y ∈ m, i ≤ y.1 := by
  obtain ⟨y, hy, h⟩ := List.any_eq_true.1 h
  exact ⟨y, hy, by simpa using h⟩

theorem wout_in (h : m.any (fun y => decide (i ≤ y.1)) = true) : wout (m ++ [x]) i c = wout m i c ++ [x] ∧ (m ++ [x]).any (fun y => decide (i ≤ y.1)) = true := by
  have h2 : (m ++ [x]).any (fun y => decide (i ≤ y.1)) = true := by rw [List.any_append, h]; rfl
  exact ⟨by unfold wout; rw [if_pos h, if_pos h2]; exact aput_snoc_in (any_true h), h2⟩
theorem wout_lt (h : m.any (fun y => decide (i ≤ y.1)) = false) (hx : i < x.1) : wout (m ++ [x]) i c = wout m i c ++ [(i, c)] ++ [x] ∧ (m ++ [x]).any (fun y => decide (i ≤ y.1)) = true := by
  have h2 : (m ++ [x]).any (fun y => decide (i ≤ y.1)) = true := by rw [List.any_append, h]; simp; omega
  exact ⟨by unfold wout; rw [h, if_pos h2]; exact aput_snoc_lt (any_false h) hx, h2⟩
theorem wout_eq (h : m.any (fun y => decide (i ≤ y.1)) = false) (hx : i = x.1) : wout (m ++ [x]) i c = wout m i c ++ [(i, c)] ∧ (m ++ [x]).any (fun y => decide (i ≤ y.1)) = true := by
  have h2 : (m ++ [x]).any (fun y => decide (i ≤ y.1)) = true := by rw [List.any_append, h]; simp; omega
  exact ⟨by unfold wout; rw [h, if_pos h2]; exact aput_snoc_eq (any_false h) hx, h2⟩
theorem wout_gt (h : m.any (fun y => decide (i ≤ y.1)) = false) (hx : x.1 < i) : wout (m ++ [x]) i c = wout m i c ++ [x] ∧ (m ++ [x]).any (fun y => decide (i ≤ y.1)) = false := by
  have h2 : (m ++ [x]).any (fun y => decide (i ≤ y.1)) = false := by rw [List.any_append, h]; simp; omega
  exact ⟨by unfold wout; rw [h, h2]; rfl, h2⟩
theorem wout_end : (if m.any (fun y => decide (i ≤ y.1)) then wout m i c else wout m i c ++ [(i, c)]) = aput m i c := by
  unfold wout
  cases h : m.any (fun y => decide (i ≤ y.1)) with
  | true => rfl
  | false => exact (aput_low (any_false h)).symm
theorem take_snoc' {l : List (Int × α)} {k : Nat} (h : l[k]? = some x) : l.take (k + 1) = l.take k ++ [x] := by
  obtain ⟨hk, rfl⟩ := List.getElem?_eq_some_iff.1 h
  rw [List.take_succ_eq_append_getElem hk]
end plain

/-- An entry's cells. -/
def row (x : Int × Array Value) : Array Value := (Value.int .i64 x.1 :: x.2.toList).toArray
theorem row_size {x : Int × Array Value} (h : IsSec x.2) : (row x).size = 33 := by simp [row, h.1]
theorem row_one {x : Int × Array Value} (h : IsSec x.2) : ∀ u ∈ (row x).toList, u.oneCell' = true := fun u hu => by
  simp only [row, List.mem_cons] at hu
  rcases hu with rfl | hu
  · rfl
  · obtain ⟨n, _, _, rfl⟩ := h.2 u (Array.mem_toList_iff.1 hu); rfl
theorem flat_snoc (m : List (Int × Array Value)) (x : Int × Array Value) : flat (m ++ [x]) = flat m ++ (row x).toList := by simp [flat, row]

theorem fold_put (c : Array Value) (off : Nat) (cells : Array Value) (h : off + c.size ≤ cells.size) : c.zipIdx.foldl (fun cs (x : Value × Nat) => cs.setIfInBounds (off + x.2) x.1) cells = mput cells off c := by
  refine Array.ext_getElem? fun k => ?_
  rw [mput_get h]
  have key : ∀ (l : List Value) (j : Nat) (cs : Array Value), off + j + l.length ≤ cs.size → ∀ k, ((l.zipIdx j).foldl (fun cs (x : Value × Nat) => cs.setIfInBounds (off + x.2) x.1) cs)[k]? = if off + j ≤ k ∧ k < off + j + l.length then l[k - (off + j)]? else cs[k]? := by
    intro l
    induction l with
    | nil => intro j cs _ k; rw [if_neg (by simp only [List.length_nil]; omega)]; rfl
    | cons v r ih =>
      intro j cs hle k
      simp only [List.zipIdx_cons, List.foldl_cons]
      simp only [List.length_cons] at hle
      rw [ih (j + 1) _ (by simp only [Array.size_setIfInBounds]; omega) k]
      by_cases hk : off + j = k
      · rw [if_neg (by omega), if_pos (by simp only [List.length_cons]; omega)]
        subst hk
        rw [Nat.sub_self, List.getElem?_cons_zero, Array.getElem?_setIfInBounds_self_of_lt (by omega)]
      · by_cases h2 : off + (j + 1) ≤ k ∧ k < off + (j + 1) + r.length
        · rw [if_pos h2, if_pos (by simp only [List.length_cons]; omega), show k - (off + j) = (k - (off + (j + 1))) + 1 by omega, List.getElem?_cons_succ]
        · rw [if_neg h2, if_neg (by simp only [List.length_cons]; omega), Array.getElem?_setIfInBounds_ne hk]
  have := key c.toList 0 cells (by simpa using h) k
  simp only [Nat.add_zero, Array.length_toList, Array.getElem?_toList] at this
  rw [← this, ← Array.foldl_toList]
  simp

theorem built_loose (parts : List (Nat × Value)) : Try.prog.built 70 parts = Instr.fill (fun k => (#[(0, 1), (1, 32)] : Array (Nat × Nat))[k]?) (#[Value.int .i64 0] ++ Z32) parts := by kernel_rfl

theorem fill_loose {i : Int} {c : Array Value} (hc : c.size = 32) : Instr.fill (fun k => (#[(0, 1), (1, 32)] : Array (Nat × Nat))[k]?) (#[Value.int .i64 0] ++ Z32) [(0, .int .i64 i), (1, .agg c)] = some (row (i, c)) := by
  have h0 : (Value.int .i64 i).cells = #[.int .i64 i] := rfl
  have h1 : (Value.agg c).cells = c := rfl
  have hz : (#[Value.int .i64 0] ++ Z32).size = 33 := by simp [Z32]
  have s0 : (#[Value.int .i64 i] : Array Value).zipIdx.foldl (fun cs (x : Value × Nat) => cs.setIfInBounds (0 + x.2) x.1) (#[Value.int .i64 0] ++ Z32) = mput (#[Value.int .i64 0] ++ Z32) 0 #[.int .i64 i] := fold_put _ _ _ (by rw [hz]; simp)
  have m0 : (mput (#[Value.int .i64 0] ++ Z32) 0 #[.int .i64 i]).size = 33 := by rw [mput_size (by rw [hz]; simp), hz]
  have s1 := fold_put c 1 (mput (#[Value.int .i64 0] ++ Z32) 0 #[.int .i64 i]) (by rw [m0, hc]; omega)
  simp only [Instr.fill, h0, h1]
  simp only [List.getElem?_toArray, List.getElem?_cons_zero, List.getElem?_cons_succ]
  rw [s0, s1]
  simp only [hz, m0, hc]
  simp
  refine Array.ext_getElem? fun k => ?_
  rw [mput_get (by rw [m0, hc]; omega), mput_get (by rw [hz]; simp)]
  simp only [row, List.getElem?_toArray]
  cases k with
  | zero => simp
  | succ k =>
    rw [List.getElem?_cons_succ]
    by_cases hk : k < 32
    · rw [if_pos (by omega)]; simp
    · rw [if_neg (by omega), if_neg (by simp only [List.size_toArray, List.length_cons, List.length_nil]; omega), Array.getElem?_eq_none (by rw [hz]; omega)]
      simp; omega

end Go.Proofs.Ytoffkaojhcnddaa
