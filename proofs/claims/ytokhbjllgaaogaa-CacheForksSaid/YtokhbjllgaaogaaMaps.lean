/- A map with whole numbers as keys is told by the list of its entries, rising. The laws of look-up, store, delete, len, over that list. No condition beside what each law asks. -/
import Derived.Test.YtokhbjllgaaogaaBase
namespace Go.Proofs.Ytokhbjllgaaogaa
set_option linter.unusedSimpArgs false
open Go.RowKit Go.Maps

section plain
variable {α : Type}

/-- What stands at a key. -/
def aget (l : List (Int × α)) (k : Int) : Option α := (l.find? (fun x => x.1 == k)).map (·.2)
/-- A key gets a value. -/
def aput : List (Int × α) → Int → α → List (Int × α)
  | [], k, v => [(k, v)]
  | x :: r, k, v => if k < x.1 then (k, v) :: x :: r else if k = x.1 then (k, v) :: r else x :: aput r k v
/-- A key goes. -/
def adel (l : List (Int × α)) (k : Int) : List (Int × α) := l.filter (fun x => !(x.1 == k))
/-- The keys rise. -/
def Srt (l : List (Int × α)) : Prop := l.Pairwise (fun x y => x.1 < y.1)

theorem aput_mem {l : List (Int × α)} {k : Int} {v : α} {x : Int × α} (h : x ∈ aput l k v) : x = (k, v) ∨ x ∈ l := by
  induction l with
  | nil => simp [aput] at h; exact .inl h
  | cons y r ih =>
    simp only [aput] at h
    split at h
    · rcases List.mem_cons.1 h with h | h
      · exact .inl h
      · exact .inr h
    · split at h
      · rcases List.mem_cons.1 h with h | h
        · exact .inl h
        · exact .inr (List.mem_cons_of_mem _ h)
      · rcases List.mem_cons.1 h with h | h
        · exact .inr (h ▸ List.mem_cons_self)
        · rcases ih h with h | h
          · exact .inl h
          · exact .inr (List.mem_cons_of_mem _ h)

theorem mem_aput_self (l : List (Int × α)) (k : Int) (v : α) : (k, v) ∈ aput l k v := by
  induction l with
  | nil => simp [aput]
  | cons y r ih =>
    simp only [aput]
    split
    · exact List.mem_cons_self
    · split
      · exact List.mem_cons_self
      · exact List.mem_cons_of_mem _ ih

theorem Srt.put {l : List (Int × α)} (h : Srt l) (k : Int) (v : α) : Srt (aput l k v) := by
  induction l with
  | nil => simp [aput, Srt]
  | cons y r ih =>
    have hr := List.pairwise_cons.1 h
    simp only [aput]
    split
    · rename_i hk
      refine List.pairwise_cons.2 ⟨fun x hx => ?_, h⟩
      rcases List.mem_cons.1 hx with rfl | hx
      · exact hk
      · have := hr.1 x hx; show k < x.1; omega
    · split
      · rename_i hk
        refine List.pairwise_cons.2 ⟨fun x hx => ?_, hr.2⟩
        have := hr.1 x hx; show k < x.1; omega
      · refine List.pairwise_cons.2 ⟨fun x hx => ?_, ih hr.2⟩
        rcases aput_mem hx with rfl | hx
        · show y.1 < k; omega
        · exact hr.1 x hx

theorem Srt.del {l : List (Int × α)} (h : Srt l) (k : Int) : Srt (adel l k) := List.Pairwise.filter _ h

theorem adel_mem {l : List (Int × α)} {k : Int} {x : Int × α} : x ∈ adel l k ↔ x ∈ l ∧ x.1 ≠ k := by
  simp [adel]

theorem adel_none {l : List (Int × α)} {k : Int} (h : aget l k = none) : adel l k = l := by
  simp only [aget, Option.map_eq_none_iff, List.find?_eq_none] at h
  exact List.filter_eq_self.2 (fun x hx => by have := h x hx; simpa using this)

theorem aget_none {l : List (Int × α)} {k : Int} : aget l k = none ↔ ∀ x ∈ l, x.1 ≠ k := by
  simp [aget, List.find?_eq_none]

theorem aget_some_mem {l : List (Int × α)} {k : Int} {v : α} (h : aget l k = some v) : (k, v) ∈ l := by
  simp only [aget, Option.map_eq_some_iff] at h
  obtain ⟨x, hx, rfl⟩ := h
  have h1 := List.find?_some hx
  have h2 := List.mem_of_find?_eq_some hx
  simp at h1
  obtain ⟨a, b⟩ := x
  simp at h1; subst h1; exact h2

theorem Srt.get {l : List (Int × α)} (h : Srt l) {k : Int} {v : α} (hm : (k, v) ∈ l) : aget l k = some v := by
  induction l with
  | nil => cases hm
  | cons y r ih =>
    have hr := List.pairwise_cons.1 h
    simp only [aget, List.find?_cons]
    rcases List.mem_cons.1 hm with rfl | hm
    · simp
    · have := hr.1 _ hm
      have hne : (y.1 == k) = false := by simp; intro e; simp at this; omega
      simp only [hne]
      exact ih hr.2 hm

theorem aget_put_same (l : List (Int × α)) (k : Int) (v : α) : aget (aput l k v) k = some v := by
  induction l with
  | nil => simp [aput, aget]
  | cons y r ih =>
    simp only [aput]
    split
    · simp [aget]
    · split
      · simp [aget]
      · have hne : (y.1 == k) = false := by simp; omega
        simp only [aget, List.find?_cons, hne]
        exact ih

theorem aget_put_other (l : List (Int × α)) {k j : Int} (v : α) (h : j ≠ k) : aget (aput l k v) j = aget l j := by
  induction l with
  | nil =>
    have : (k == j) = false := by simp; exact fun e => h e.symm
    simp [aput, aget, this]
  | cons y r ih =>
    have hk : (k == j) = false := by simp; exact fun e => h e.symm
    simp only [aput]
    split
    · simp only [aget, List.find?_cons, hk]
    · split
      · rename_i h1 h2
        have hy : (y.1 == j) = false := by rw [← h2]; exact hk
        simp only [aget, List.find?_cons, hk, hy]
      · simp only [aget, List.find?_cons] at ih ⊢
        cases hy : (y.1 == j) with
        | true => rfl
        | false => exact ih

theorem aget_del_same (l : List (Int × α)) (k : Int) : aget (adel l k) k = none :=
  aget_none.2 (fun _ hx => (adel_mem.1 hx).2)

theorem aget_del_other (l : List (Int × α)) {k j : Int} (h : j ≠ k) : aget (adel l k) j = aget l j := by
  induction l with
  | nil => rfl
  | cons y r ih =>
    by_cases hy : y.1 = k
    · have h1 : adel (y :: r) k = adel r k := by simp [adel, hy]
      have h2 : (y.1 == j) = false := by simp; omega
      rw [h1, ih]
      simp only [aget, List.find?_cons, h2]
    · have h1 : adel (y :: r) k = y :: adel r k := by simp [adel, hy]
      rw [h1]
      simp only [aget, List.find?_cons] at ih ⊢
      cases (y.1 == j) with
      | true => rfl
      | false => exact ih

theorem aput_length_le (l : List (Int × α)) (k : Int) (v : α) : (aput l k v).length ≤ l.length + 1 := by
  induction l with
  | nil => simp [aput]
  | cons y r ih => simp only [aput]; split <;> (try split) <;> simp <;> omega

theorem aput_length_some {l : List (Int × α)} (hs : Srt l) {k : Int} (v : α) (h : aget l k ≠ none) : (aput l k v).length = l.length := by
  induction l with
  | nil => simp [aget] at h
  | cons y r ih =>
    have hr := List.pairwise_cons.1 hs
    simp only [aput]
    split
    · rename_i hk
      exfalso; apply h
      refine aget_none.2 fun x hx => ?_
      rcases List.mem_cons.1 hx with rfl | hx
      · omega
      · have := hr.1 x hx; omega
    · split
      · simp
      · rename_i h1 h2
        have hne : (y.1 == k) = false := by simp; omega
        simp only [aget, List.find?_cons, hne] at h
        simp [ih hr.2 h]

theorem aput_length_none {l : List (Int × α)} {k : Int} (v : α) (h : aget l k = none) : (aput l k v).length = l.length + 1 := by
  induction l with
  | nil => simp [aput]
  | cons y r ih =>
    have h1 := aget_none.1 h
    simp only [aput]
    split
    · simp
    · split
      · rename_i h2; exact absurd h2.symm (h1 y List.mem_cons_self)
      · simp [ih (aget_none.2 fun x hx => h1 x (List.mem_cons_of_mem _ hx))]

theorem nodup_le : ∀ (n : Nat) (l : List Int), l.Nodup → (∀ x ∈ l, 0 ≤ x ∧ x < n) → l.length ≤ n
  | 0, [], _, _ => by simp
  | 0, y :: _, _, h => by have := h y List.mem_cons_self; omega
  | n + 1, l, hn, h => by
    have h1 := nodup_le n (l.erase (n : Int)) (hn.erase _) (fun x hx => by
      have h2 := h x (List.mem_of_mem_erase hx)
      have h3 : x ≠ (n : Int) := fun e => by subst e; exact (List.Nodup.not_mem_erase hn) hx
      omega)
    have h2 : l.length ≤ (l.erase (n : Int)).length + 1 := by
      rw [List.length_erase]; split <;> omega
    omega

theorem Srt.length_le {l : List (Int × α)} (hs : Srt l) {n : Nat} (h : ∀ x ∈ l, 0 ≤ x.1 ∧ x.1 < n) : l.length ≤ n := by
  have h1 : (l.map (·.1)).Nodup := by
    refine (List.pairwise_map.2 ?_)
    exact List.Pairwise.imp (fun {a b} hab => by intro e; omega) hs
  have := nodup_le n (l.map (·.1)) h1 (fun x hx => by
    obtain ⟨y, hy, rfl⟩ := List.mem_map.1 hx
    exact h y hy)
  simpa using this

/-- Two rising lists with the same at each key are one. -/
theorem Srt.ext {l l' : List (Int × α)} (h : Srt l) (h' : Srt l') (he : ∀ k, aget l k = aget l' k) : l = l' := by
  induction l generalizing l' with
  | nil =>
    cases l' with
    | nil => rfl
    | cons y r => have := he y.1; simp [aget] at this
  | cons x r ih =>
    cases l' with
    | nil => have := he x.1; simp [aget] at this
    | cons y s =>
      have hr := List.pairwise_cons.1 h
      have hs := List.pairwise_cons.1 h'
      have hx : (x.1, x.2) ∈ y :: s := aget_some_mem (by rw [← he]; simp [aget])
      have hy : (y.1, y.2) ∈ x :: r := aget_some_mem (by rw [he]; simp [aget])
      have hxy : x = y := by
        rcases List.mem_cons.1 hx with e | hx
        · exact e
        · rcases List.mem_cons.1 hy with e | hy
          · exact e.symm
          · have a := hs.1 _ hx; have b := hr.1 _ hy; simp at a b; omega
      subst hxy
      congr 1
      refine ih hr.2 hs.2 fun k => ?_
      by_cases hk : x.1 = k
      · have a : aget r k = none := aget_none.2 fun z hz => by have := hr.1 z hz; omega
        have b : aget s k = none := aget_none.2 fun z hz => by have := hs.1 z hz; omega
        rw [a, b]
      · have := he k
        have hne : (x.1 == k) = false := by simp; exact hk
        simpa only [aget, List.find?_cons, hne] using this

end plain

/-! ### As the library reads it -/
section datum
variable {α : Type} {q : IntKind} {enc : α → Value}

def toD (q : IntKind) (enc : α → Value) (l : List (Int × α)) : DataW Value := .map (l.map fun x => (.int q x.1, .held (enc x.2)))

theorem sameKey_int (q : IntKind) (a b : Int) : (Lit.int q a).sameKey (.int q b) = (a == b) := by
  simp only [Lit.sameKey, true_and]; rw [Bool.eq_iff_iff]; simp

theorem toD_del (l : List (Int × α)) (k : Int) : (toD q enc l).del (.int q k) = toD q enc (adel l k) := by
  simp only [toD, DataW.del, adel, List.filter_map, Function.comp_def, sameKey_int]

theorem toD_put {l : List (Int × α)} (hs : Srt l) (k : Int) (v : α) : (toD q enc l).put (.int q k) (.held (enc v)) = toD q enc (aput l k v) := by
  simp only [toD, DataW.put, List.filter_map, Function.comp_def, sameKey_int]
  congr 1
  induction l with
  | nil => rfl
  | cons y r ih =>
    have hr := List.pairwise_cons.1 hs
    have hall : y.1 ≥ k → r.filter (fun x => !(x.1 == k)) = r := fun hy => List.filter_eq_self.2 (fun x hx => by have := hr.1 x hx; simp; omega)
    have hins : ∀ s : List (Int × α), (∀ x ∈ s, k < x.1) → DataW.insert (Lit.int q k, DataW.held (enc v)) (s.map fun x => (Lit.int q x.1, DataW.held (enc x.2))) = ((k, v) :: s).map (fun x => (Lit.int q x.1, DataW.held (enc x.2))) := by
      intro s hs
      cases s with
      | nil => rfl
      | cons z t =>
        have := hs z List.mem_cons_self
        simp [DataW.insert, Lit.before, this]
    by_cases h1 : k < y.1
    · have hne : (!(y.1 == k)) = true := by simp; omega
      rw [List.filter_cons, if_pos hne, hall (by omega)]
      have hall2 : ∀ x ∈ y :: r, k < x.1 := fun x hx => by
        rcases List.mem_cons.1 hx with e | hx
        · rw [e]; exact h1
        · have := hr.1 x hx; omega
      rw [hins (y :: r) hall2]
      simp [aput, h1]
    · by_cases h2 : k = y.1
      · have hne : ¬ ((!(y.1 == k)) = true) := by simp [h2]
        rw [List.filter_cons, if_neg hne, hall (by omega), hins r (fun x hx => by have := hr.1 x hx; omega)]
        simp [aput, h2]
      · have hne : (!(y.1 == k)) = true := by simp; omega
        rw [List.filter_cons, if_pos hne]
        have hb : (Lit.int q k).before (.int q y.1) = false := by simp [Lit.before]; omega
        simp only [List.map_cons, DataW.insert, hb, aput, if_neg h1, if_neg h2, Bool.false_eq_true, if_false]
        rw [ih hr.2]

theorem toD_size (l : List (Int × α)) : Maps.size (toD q enc l) = l.length := by simp [toD, Maps.size_eq]

theorem toD_has (l : List (Int × α)) (k : Int) : Maps.has (toD q enc l) (.int q k) = (aget l k).isSome := by
  simp only [toD, Maps.has_eq, List.any_map, Function.comp_def, sameKey_int, aget]
  rw [Bool.eq_iff_iff]; simp [List.find?_isSome]

theorem toD_at (l : List (Int × α)) (k : Int) (z : DataW Value) : (toD q enc l).atKey (.int q k) z = match aget l k with | some v => .held (enc v) | none => z := by
  simp only [toD, DataW.atKey, List.find?_map, Function.comp_def, sameKey_int, aget]
  cases l.find? (fun x => x.1 == k) <;> rfl

end datum

/-- Block b is a map that reads as the list l. -/
structure MapAt {α : Type} (P : Program) (kt : TypeId) (q : IntKind) (enc : α → Value) (w : World) (b : Nat) (l : List (Int × α)) : Prop where
  owns : w.ownsMap P kt heldElem b l.length (toD q enc l)
  srt : Srt l
  wf : ∀ x ∈ l, (Lit.int q x.1).wf = true

section laws
variable {α : Type} {P : Program} {kt et t : TypeId} {q : IntKind} {enc : α → Value} {w : World} {b : Nat} {l : List (Int × α)}

theorem MapAt.heap {w' : World} (M : MapAt P kt q enc w b l) (h : w'.heap[b]? = w.heap[b]?) : MapAt P kt q enc w' b l := ⟨ownsMap_heap M.owns h, M.srt, M.wf⟩
theorem MapAt.lt (M : MapAt P kt q enc w b l) : b < w.heap.size := M.owns.lt
theorem MapAt.fr {S : Nat → Prop} {w' : World} (M : MapAt P kt q enc w b l) (h : Fr S w w') (hS : ¬ S b) : MapAt P kt q enc w' b l := M.heap (h.blk b M.lt hS)
theorem MapAt.alloc (M : MapAt P kt q enc w b l) (o : Obj) : MapAt P kt q enc (w.alloc o) b l := M.heap (Below.heap_alloc w o b M.lt)
theorem MapAt.drew (M : MapAt P kt q enc w b l) : MapAt P kt q enc w.drew b l := M.heap rfl
theorem MapAt.made (P : Program) (kt : TypeId) (q : IntKind) (enc : α → Value) (w : World) : MapAt P kt q enc (w.alloc (.map #[] 0)) w.heap.size [] :=
  ⟨World.ownsMap_made w P kt heldElem, List.Pairwise.nil, fun _ h => by cases h⟩
/-- The block is no row of cells. -/
theorem MapAt.not_cells (M : MapAt P kt q enc w b l) {g : Nat} {c : Array Value} {e : TypeId} {fr : Nat × Nat} (h : w.heap[g]? = some (.cells c e fr)) : g ≠ b := by
  obtain ⟨es, clock, hb, _⟩ := M.owns
  intro e; subst e; rw [hb] at h; cases h

theorem fr_mapTurned {w' : World} (h : w.mapTurned w' b) : Fr (fun x => x = b) w w' :=
  have hg := h.grown
  ⟨hg.os, hg.tape, hg.output, hg.size, fun x hx hn => hg.block x hx (fun e => hn (by cases e; rfl))⟩

variable {ops : Array Oper} {rest : List Oper} {o : Oper} {a : Act} {Q : Exit → Act → World → Prop}

theorem MapAt.of_owns {n : Nat} {D : DataW Value} (h : w.ownsMap P kt heldElem b n D) (hD : D = toD q enc l) (hs : Srt l) (hw : ∀ x ∈ l, (Lit.int q x.1).wf = true) : MapAt P kt q enc w b l := by
  subst hD
  have := ownsMap_tight h
  rw [toD_size] at this
  exact ⟨this, hs, hw⟩

theorem wpList_aput {m x v : Operand} {k : Int} {d : α} (hg : o.guard = none) (ho : o.op = Op.mapUpdate t m x v) (hk : P.underlying kt = some (.int q)) (ht : P.underlying t = some (.map kt et)) (M : MapAt P kt q enc w b l)
    (hn : l.length < 4294967296) (hm : a.eval m = .map (some b)) (hx : a.eval x = .int q k) (hwf : (Lit.int q k).wf = true) (hv : a.eval v = enc d)
    (h : ∀ w', MapAt P kt q enc w' b (aput l k d) → Fr (fun x => x = b) w w' → wpList P ops Q rest (a.put o.dst undef) w') : wpList P ops Q (o :: rest) a w :=
  wpList_mapUpdate_in w hg m x v t ho kt et (int_keyed hk) ht heldElem b _ _ hm M.owns (by unfold maxLen; omega) _ _ (.int q k) hx hv (keyOf_int_mk hk hwf) (.held (enc d)) [] rfl
    (fun w' h1 h2 => h w' (MapAt.of_owns h1 (toD_put M.srt k d) (M.srt.put k d) (fun y hy => (aput_mem hy).elim (fun e => by rw [e]; exact hwf) (M.wf y))) (fr_mapTurned h2))

theorem wpList_alook_some {m x : Operand} {k : Int} {d : α} {z : Value} (hg : o.guard = none) (ho : o.op = Op.lookup t m x true) (hk : P.underlying kt = some (.int q)) (ht : P.underlying t = some (.map kt et)) (hz : (zeroValue et).run P w = .ok z w)
    (M : MapAt P kt q enc w b l) (hm : a.eval m = .map (some b)) (hx : a.eval x = .int q k) (hwf : (Lit.int q k).wf = true) (hd : aget l k = some d)
    (h : wpList P ops Q rest (a.put o.dst (.tuple #[enc d, .bool true])) w) : wpList P ops Q (o :: rest) a w :=
  wpList_lookup_own_ok w hg m x t ho kt et (int_keyed hk) ht heldElem hz (.held z) [] rfl b _ _ hm M.owns _ (.int q k) hx (keyOf_int_mk hk hwf)
    (fun v ps hv => by
      rw [toD_at, hd] at hv
      simp only [heldElem, Option.some.injEq, Prod.mk.injEq, DataW.held.injEq] at hv
      rw [toD_has, hd]
      rw [hv.1]; exact h)

theorem wpList_alook_none {m x : Operand} {k : Int} {z : Value} (hg : o.guard = none) (ho : o.op = Op.lookup t m x true) (hk : P.underlying kt = some (.int q)) (ht : P.underlying t = some (.map kt et)) (hz : (zeroValue et).run P w = .ok z w)
    (M : MapAt P kt q enc w b l) (hm : a.eval m = .map (some b)) (hx : a.eval x = .int q k) (hwf : (Lit.int q k).wf = true) (hd : aget l k = none)
    (h : wpList P ops Q rest (a.put o.dst (.tuple #[z, .bool false])) w) : wpList P ops Q (o :: rest) a w :=
  wpList_lookup_own_ok w hg m x t ho kt et (int_keyed hk) ht heldElem hz (.held z) [] rfl b _ _ hm M.owns _ (.int q k) hx (keyOf_int_mk hk hwf)
    (fun v ps hv => by
      rw [toD_at, hd] at hv
      simp only [heldElem, Option.some.injEq, Prod.mk.injEq, DataW.held.injEq] at hv
      rw [toD_has, hd]
      rw [hv.1]; exact h)

theorem wpList_adel {m x : Operand} {k : Int} (hg : o.guard = none) (ho : o.op = Op.call { callee := Callee.builtin Builtin.delete, args := #[m, x], argTypes := #[t, kt] }) (hk : P.underlying kt = some (.int q)) (ht : P.underlying t = some (.map kt et))
    (M : MapAt P kt q enc w b l) (hm : a.eval m = .map (some b)) (hx : a.eval x = .int q k) (hwf : (Lit.int q k).wf = true)
    (h : ∀ w', MapAt P kt q enc w' b (adel l k) → Fr (fun x => x = b) w w' → wpList P ops Q rest (a.put o.dst (.tuple #[])) w') : wpList P ops Q (o :: rest) a w :=
  wpList_delete_own w hg m x t kt ho et (int_keyed hk) ht heldElem b _ _ hm M.owns _ (.int q k) hx (keyOf_int_mk hk hwf)
    (fun w' h1 h2 => h w' (MapAt.of_owns h1 (toD_del l k) (M.srt.del k) (fun y hy => M.wf y (adel_mem.1 hy).1)) (fr_mapTurned h2))

theorem wpList_alen {m : Operand} (hg : o.guard = none) (ho : o.op = Op.call { callee := Callee.builtin Builtin.len, args := #[m], argTypes := #[t] }) (ht : P.underlying t = some (.map kt et)) (M : MapAt P kt q enc w b l) (hm : a.eval m = .map (some b))
    (h : wpList P ops Q rest (a.put o.dst (.int .i64 l.length)) w) : wpList P ops Q (o :: rest) a w :=
  wpList_len_own w hg m t ho kt et ht heldElem b _ _ hm M.owns (by rw [toD_size]; exact h)

/-! ### Ranging -/

/-- 'for k, v := range m' under way: block r walks over the map in block b; 'left k': is k's entry still to come? -/
abbrev RangeAt {α : Type} (P : Program) (kt : TypeId) (q : IntKind) (enc : α → Value) (w : World) (b r : Nat) (l : List (Int × α)) (left : Lit → Bool) (cnt : Nat) : Prop :=
  w.ranges P kt heldElem b r l.length (toD q enc l) left cnt

theorem wpList_arange {m : Operand} (hg : o.guard = none) (ho : o.op = Op.range t m) (hk : P.underlying kt = some (.int q)) (ht : P.underlying t = some (.map kt et)) (M : MapAt P kt q enc w b l) (hm : a.eval m = .map (some b))
    (h : ∀ w', RangeAt P kt q enc w' b w.heap.size l (Maps.has (toD q enc l)) l.length → Fr No w w' → w'.heap.size = w.heap.size + 1 → wpList P ops Q rest (a.put o.dst (.pointer (some ⟨w.heap.size, 0, none⟩))) w') : wpList P ops Q (o :: rest) a w :=
  wpList_range_own w hg m t ho kt et (int_keyed hk) ht heldElem b _ _ hm M.owns
    (fun w' h1 h2 h3 => by
      rw [toD_size] at h1
      exact h w' h1 ⟨h2.os, h2.tape, h2.output, h2.size, fun x hx _ => h2.block x hx (by simp)⟩ h3)

theorem wpList_anext {it : Operand} {r cnt : Nat} {left : Lit → Bool} (hg : o.guard = none) (ho : o.op = Op.next it false) (hk : P.underlying kt = some (.int q)) (hit : a.eval it = .pointer (some ⟨r, 0, none⟩)) (hrg : RangeAt P kt q enc w b r l left cnt)
    (hDone : (∀ k, left (.int q k) = false) → wpList P ops Q rest (a.put o.dst (.tuple #[.bool false])) w)
    (hMore : ∀ (k : Int) (d : α) (w' : World) (cnt' : Nat), (Lit.int q k).wf = true → left (.int q k) = true → aget l k = some d → RangeAt P kt q enc w' b r l (fun z => left z && !z.sameKey (.int q k)) cnt' → cnt' < cnt → Fr (fun x => x = r) w w' →
      (Instr.entry (.pointer (some ⟨r, 0, none⟩))).run P w' = .ok (.tuple #[.int q k, enc d]) w' → wpList P ops Q rest (a.put o.dst (.tuple #[.bool true, .int q k, enc d])) w') : wpList P ops Q (o :: rest) a w :=
  wpList_next_ranges (α := Int) (β := Value) w hg it ho kt (int_keyed hk) heldElem (Value.int q) id (fun key kl h => by obtain ⟨x, h1, _⟩ := keyOf_int_inv hk h; exact ⟨x, h1⟩) (fun v y _ => ⟨v, rfl⟩) b r _ _ left cnt hit hrg
    (fun _ h => hDone (fun k => h _))
    (fun x c kl y w' cnt' h1 h2 h3 h4 h5 h6 h7 h8 h9 => by
      obtain ⟨x', e1, e2, e3⟩ := keyOf_int_inv hk h1
      simp only [Value.int.injEq, true_and] at e1
      subst e1; subst e2
      have hc : y = (.held c, []) := by simpa [heldElem] using h3.symm
      have h4' := h4 .nil
      rw [toD_at, hc] at h4'
      cases hd : aget l x with
      | none => rw [hd] at h4'; cases h4'
      | some d =>
        rw [hd] at h4'
        simp only [DataW.held.injEq] at h4'
        subst h4'
        exact hMore x d w' cnt' e3 h2 hd h5 h6 ⟨h7.os, h7.tape, h7.output, h7.size, fun z hz hn => h7.block z hz (fun e => hn (by cases e; rfl))⟩ h9)

theorem wpList_adelRange {m x : Operand} {k : Int} {r cnt : Nat} {left : Lit → Bool} (hg : o.guard = none) (ho : o.op = Op.call { callee := Callee.builtin Builtin.delete, args := #[m, x], argTypes := #[t, kt] }) (hk : P.underlying kt = some (.int q)) (ht : P.underlying t = some (.map kt et))
    (hm : a.eval m = .map (some b)) (hrg : RangeAt P kt q enc w b r l left cnt) (hx : a.eval x = .int q k) (hwf : (Lit.int q k).wf = true)
    (h : ∀ w' cnt', RangeAt P kt q enc w' b r (adel l k) (fun z => left z && !z.sameKey (.int q k)) cnt' → cnt' ≤ cnt → Fr (fun x => x = b) w w' → wpList P ops Q rest (a.put o.dst (.tuple #[])) w') : wpList P ops Q (o :: rest) a w :=
  wpList_delete_ranges w hg m x t kt ho et (int_keyed hk) ht heldElem b r _ _ left cnt hm hrg _ (.int q k) hx (keyOf_int_mk hk hwf)
    (fun w' cnt' h1 h2 h3 => by
      rw [toD_del] at h1
      refine h w' cnt' ?_ h2 (fr_mapTurned h3)
      obtain ⟨es, clock, since, seen, c0, g1, g2, g3, g4, g5⟩ := h1
      refine ⟨es, clock, since, seen, c0, g1, g2, ?_, g4, g5⟩
      have := congrArg Maps.size g4
      rw [toD_size, Maps.size_eq, length_read] at this
      omega)

theorem RangeAt.map {r cnt : Nat} {left : Lit → Bool} (h : RangeAt P kt q enc w b r l left cnt) (hs : Srt l) (hw : ∀ x ∈ l, (Lit.int q x.1).wf = true) : MapAt P kt q enc w b l := ⟨World.ranges.owns h, hs, hw⟩
theorem RangeAt.fr {S : Nat → Prop} {w' : World} {r cnt : Nat} {left : Lit → Bool} (h : RangeAt P kt q enc w b r l left cnt) (hf : Fr S w w') (hb : ¬ S b) (hr : ¬ S r) : RangeAt P kt q enc w' b r l left cnt := by
  obtain ⟨es, clock, since, seen, c0, g1, g2, g3, g4, g5, g6⟩ := h
  exact ⟨es, clock, since, seen, c0, hf.keep g1 hb, g2, g3, g4, hf.keep g5 hr, g6⟩

end laws
end Go.Proofs.Ytokhbjllgaaogaa
