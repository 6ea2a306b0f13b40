/- The reference's cache: how it lies in memory; New, at, Has, Dirty, Dear. No condition beside that it lies there. -/
import Derived.Test.YtokhbjllgaaogaaCPush
namespace Go.Proofs.Ytokhbjllgaaogaa
set_option linter.unusedSimpArgs false
open Go.RowKit Go.Maps
attribute [local irreducible] wpQuiet wpAnyH

section
variable {α : Type}
/-- Pairs of a fid and a value, as cells. -/
def cells2 (enc : α → Value) (l : List (Int × α)) : List Value := l.flatMap fun x => [.int .u32 x.1, enc x.2]
theorem cells2_length {enc : α → Value} {l : List (Int × α)} : (cells2 enc l).length = l.length * 2 := by
  induction l with
  | nil => rfl
  | cons x r ih => simp only [cells2, List.flatMap_cons, List.length_append, List.length_cons] at ih ⊢; rw [ih]; simp; omega
theorem cells2_append {enc : α → Value} {l r : List (Int × α)} : cells2 enc (l ++ r) = cells2 enc l ++ cells2 enc r := by simp [cells2]
theorem cells2_snoc {enc : α → Value} {l : List (Int × α)} {x : Int × α} : cells2 enc (l ++ [x]) = cells2 enc l ++ [.int .u32 x.1, enc x.2] := by simp [cells2]
theorem split_at {β : Type} {l : List β} {k : Nat} {x : β} (h : l[k]? = some x) : l = l.take k ++ x :: l.drop (k + 1) ∧ (l.take k).length = k := by
  obtain ⟨hk, rfl⟩ := List.getElem?_eq_some_iff.1 h
  refine ⟨?_, by simp; omega⟩
  rw [← List.drop_eq_getElem_cons hk, List.take_append_drop]
theorem cells2_get {enc : α → Value} {l : List (Int × α)} {k : Nat} {x : Int × α} (h : l[k]? = some x) : (cells2 enc l)[k * 2]? = some (.int .u32 x.1) ∧ (cells2 enc l)[k * 2 + 1]? = some (enc x.2) := by
  obtain ⟨e, hk⟩ := split_at h
  have hc : (cells2 enc (l.take k)).length = k * 2 := by rw [cells2_length, hk]
  rw [e, cells2_append]
  constructor
  · rw [List.getElem?_append_right (by omega), hc, Nat.sub_self]; rfl
  · rw [List.getElem?_append_right (by omega), hc, show k * 2 + 1 - k * 2 = 1 by omega]; rfl
theorem cells2_set {enc : α → Value} {l r : List (Int × α)} {f : Int} {d d' : α} : (cells2 enc (l ++ (f, d) :: r)).set (l.length * 2 + 1) (enc d') = cells2 enc (l ++ (f, d') :: r) := by
  rw [cells2_append, cells2_append, ← cells2_length (enc := enc) (l := l)]
  simp [cells2]
end

abbrev encB (b : Bool) : Value := .bool b

theorem Fr.owns {S : Nat → Prop} {w w' : World} (h : Fr S w w') {base : Nat} {e : TypeId} {sz : Nat} {v : Value} {n : Nat} {xs : List Value} (ho : w.ownsRow base e sz v n xs) (hS : ∀ b, base ≤ b → b < w.heap.size → ¬ S b) : w'.ownsRow base e sz v n xs := by
  refine ⟨ho.1, ?_⟩
  rcases ho.2 with hn | ⟨g, cap, cur, rfl, hb, hg, rest⟩
  · exact .inl hn
  · exact .inr ⟨g, cap, cur, rfl, hb, h.keep hg (hS g hb (lt_of_heap hg)), rest⟩

theorem row_at {α : Type} {enc : α → Value} {w : World} {B : Nat} {e : TypeId} {v : Value} {l : List (Int × α)} (h : w.ownsRow B e 2 v l.length (cells2 enc l)) {k : Nat} {x : Int × α} (hx : l[k]? = some x) :
    ∃ g cap, v = .slice (some ⟨g, 0, none⟩) l.length cap ∧ B ≤ g ∧ g < w.heap.size ∧ w.cell? ⟨g, k * 2, none⟩ = some (.int .u32 x.1) ∧ w.cell? ⟨g, k * 2 + 1, none⟩ = some (enc x.2) := by
  have hk : k < l.length := (List.getElem?_eq_some_iff.1 hx).1
  obtain ⟨h1, h2⟩ := cells2_get (enc := enc) hx
  rcases id h.2 with ⟨rfl, h0⟩ | ⟨g, cap, cur, rfl, hb, hg, _⟩
  · omega
  · exact ⟨g, cap, rfl, hb, lt_of_heap hg, by rw [h.cellAt _ (by omega)]; exact h1, by rw [h.cellAt _ (by omega)]; exact h2⟩

structure RefC (B : Nat) (w : World) (q : Nat) (m : Int) (l : List (Int × Bool)) (dh : List (Int × Int)) (vl vh : Value) : Prop where
  head : w.heap[q]? = some (.cells #[.int .i64 m, vl, vh] 85 (0, 0))
  lo : B ≤ q
  items : w.ownsRow B 97 2 vl l.length (cells2 encB l)
  dears : w.ownsRow B 99 2 vh dh.length (cells2 encD dh)

section
variable {B : Nat} {w w' : World} {q : Nat} {m : Int} {l l1 l2 : List (Int × Bool)} {dh d1 d2 : List (Int × Int)} {vl vh : Value} {R : Ending → World → Prop} {f y n : Int} {d : Bool}

theorem RefC.fr (C : RefC B w q m l dh vl vh) {S : Nat → Prop} (hf : Fr S w w') (hS : ∀ b, B ≤ b → b < w.heap.size → ¬ S b) : RefC B w' q m l dh vl vh :=
  ⟨hf.keep C.head (hS _ C.lo (lt_of_heap C.head)), C.lo, hf.owns C.items hS, hf.owns C.dears hS⟩
theorem RefC.no (C : RefC B w q m l dh vl vh) (hf : Fr No w w') : RefC B w' q m l dh vl vh := C.fr hf (fun _ _ _ h => h)
/-- The blocks that a deed on the reference may turn. -/
def RefS (q : Nat) (vl : Value) (b : Nat) : Prop := b = q ∨ vl.ownBlock = some b
theorem RefC.own (C : RefC B w q m l dh vl vh) {b : Nat} (h : RefS q vl b) : B ≤ b ∧ b < w.heap.size := by
  rcases h with rfl | h
  · exact ⟨C.lo, lt_of_heap C.head⟩
  · rcases C.items.2 with ⟨e, _⟩ | ⟨g, cap, cur, e, hb, hg, _⟩
    · rw [e] at h; cases h
    · rw [e] at h
      obtain rfl : g = b := by simpa [Value.ownBlock] using h
      exact ⟨hb, lt_of_heap hg⟩
theorem RefC.drew (C : RefC B w q m l dh vl vh) : RefC B w.drew q m l dh vl vh := ⟨C.head, C.lo, C.items, C.dears⟩

set_option maxRecDepth 100000 in
theorem rnew_ok (h1 : 1 ≤ n) (h2 : n ≤ 40) (hB : B ≤ w.heap.size) (hR : ∀ w' q, RefC B w' q n [] [] (.slice none 0 0) (.slice none 0 0) → Fr No w w' → R (.returned (.pointer (some ⟨q, 0, none⟩))) w') :
    Calls Try.prog 30 #[.int .i64 n] w R := by
  have HR := hid hR
  clear hR
  have h3 : ¬ n < 1 := by omega
  have h4 : ¬ 40 < n := by omega
  go_enter Try.func30, Try.ntmps30
  go_wp2
  exact HR.out _ _ ⟨heap_alloc_new w _, hB, World.ownsRow_nil _ _ _ _, World.ownsRow_nil _ _ _ _⟩ ((Fr.refl No w).alloc _)

/-! ### at -/

set_option maxHeartbeats 1000000 in
set_option maxRecDepth 100000 in
theorem rat_no (C : RefC B w q m l dh vl vh) (hlen : l.length < 1000) (hf : ∀ x ∈ l, x.1 ≠ f) (hR : R (.returned (.int .i64 (-1))) w) :
    Calls Try.prog 66 #[.pointer (some ⟨q, 0, none⟩), .int .u32 f] w R := by
  have HR := hid hR
  have HC := hid C
  have HF := hid hf
  obtain ⟨sa, cap, rfl⟩ := owns_shape C.items
  have c1 : w.cell? ⟨q, 1, none⟩ = some (.slice sa l.length cap) := cell_at C.head rfl
  clear hR C hf
  go_enter Try.func66, Try.ntmps66
  go_wp2
  go_loop [5] (fun t => ∃ k : Nat, k ≤ l.length ∧ t = .int .i64 k) (fun t => l.length - (intOf t).toNat)
  case atStart => exact ⟨0, Nat.zero_le _, rfl⟩
  case round =>
    obtain ⟨k, hk, rfl⟩ := hrel
    by_cases hlt : k < l.length
    · obtain ⟨x, hx⟩ : ∃ x, l[k]? = some x := ⟨l[k], List.getElem?_eq_getElem hlt⟩
      obtain ⟨g, cap', e, _, _, hcell, _⟩ := row_at HC.out.items hx
      simp only [Value.slice.injEq, true_and] at e
      obtain ⟨rfl, rfl⟩ := e
      have hne : ¬ x.1 = f := HF.out x (List.mem_of_getElem? hx)
      clear hx
      go_wp2
      go_round
      case rel => exact ⟨k + 1, by omega, by go_num⟩
      case measure => simp [intOf]; omega
    · go_wp2
      exact HR.out

set_option maxHeartbeats 1000000 in
set_option maxRecDepth 100000 in
theorem rat_yes (C : RefC B w q m (l1 ++ (f, d) :: l2) dh vl vh) (hlen : (l1 ++ (f, d) :: l2).length < 1000) (hf : ∀ x ∈ l1, x.1 ≠ f) (hR : R (.returned (.int .i64 l1.length)) w) :
    Calls Try.prog 66 #[.pointer (some ⟨q, 0, none⟩), .int .u32 f] w R := by
  have HR := hid hR
  obtain ⟨l, hl⟩ : ∃ l, l = l1 ++ (f, d) :: l2 := ⟨_, rfl⟩
  rw [← hl] at C hlen
  have HC := hid C
  have HF := hid hf
  have HL := hid hl
  have h1l : l1.length < l.length := by rw [hl]; simp
  obtain ⟨sa, cap, rfl⟩ := owns_shape C.items
  have c1 : w.cell? ⟨q, 1, none⟩ = some (.slice sa l.length cap) := cell_at C.head rfl
  clear hR C hf hl
  go_enter Try.func66, Try.ntmps66
  go_wp2
  go_loop [5] (fun t => ∃ k : Nat, k ≤ l1.length ∧ t = .int .i64 k) (fun t => l1.length - (intOf t).toNat)
  case atStart => exact ⟨0, Nat.zero_le _, rfl⟩
  case round =>
    obtain ⟨k, hk, rfl⟩ := hrel
    have hkl : k < l.length := by omega
    obtain ⟨x, hx⟩ : ∃ x, l[k]? = some x := ⟨l[k], List.getElem?_eq_getElem hkl⟩
    obtain ⟨g, cap', e, _, _, hcell, _⟩ := row_at HC.out.items hx
    simp only [Value.slice.injEq, true_and] at e
    obtain ⟨rfl, rfl⟩ := e
    by_cases hlt : k < l1.length
    · have hne : ¬ x.1 = f := HF.out x (by rw [HL.out, List.getElem?_append_left hlt] at hx; exact List.mem_of_getElem? hx)
      clear hx
      go_wp2
      go_round
      case rel => exact ⟨k + 1, by omega, by go_num⟩
      case measure => simp [intOf]; omega
    · obtain rfl : k = l1.length := by omega
      have hxe : x.1 = f := by
        rw [HL.out, List.getElem?_append_right (Nat.le_refl _), Nat.sub_self, List.getElem?_cons_zero] at hx
        rw [← Option.some.inj hx]
      clear hx
      rw [hxe] at hcell
      go_wp2
      exact HR.out

end

end Go.Proofs.Ytokhbjllgaaogaa
