/- Slices of whole numbers that are only read; slices.Index and slices.Contains at int. No condition beside that the slice lies there. -/
import Derived.Test.YtoffkaojhcnddaaRows
import Derived.Test.YtoffkaojhcnddaaBase
namespace Go.Proofs.Ytoffkaojhcnddaa
set_option linter.unusedSimpArgs false
open Go.RowKit Go.Maps

/-- v is a slice of n elements of sz cells each; its cells are cs; they lie in a block that is none of S. -/
def RowsAt (S : Nat → Prop) (w : World) (v : Value) (n sz : Nat) (cs : List Value) : Prop :=
  cs.length = n * sz ∧ ∃ a cap, v = .slice a n cap ∧ (n = 0 ∨ ∃ b off, a = some ⟨b, off, none⟩ ∧ ¬ S b ∧ b < w.heap.size ∧ ∀ j x, cs[j]? = some x → w.cell? ⟨b, off + j, none⟩ = some x)

theorem Fr.cell {S : Nat → Prop} {w w' : World} (h : Fr S w w') {b o : Nat} (hb : b < w.heap.size) (hS : ¬ S b) : w'.cell? ⟨b, o, none⟩ = w.cell? ⟨b, o, none⟩ :=
  World.cell?_of_block (a := ⟨b, o, none⟩) (h.blk b hb hS)

theorem RowsAt.fr {S T : Nat → Prop} {w w' : World} {v : Value} {n sz : Nat} {cs : List Value} (h : RowsAt S w v n sz cs) (hf : Fr T w w') (hT : ∀ b, T b → S b) : RowsAt S w' v n sz cs := by
  obtain ⟨hl, a, cap, hv, hr⟩ := h
  refine ⟨hl, a, cap, hv, hr.imp id ?_⟩
  rintro ⟨b, off, ha, hS, hb, hc⟩
  exact ⟨b, off, ha, hS, Nat.lt_of_lt_of_le hb hf.size, fun j x hx => by rw [hf.cell hb (fun h => hS (hT b h))]; exact hc j x hx⟩

theorem RowsAt.no {S : Nat → Prop} {w w' : World} {v : Value} {n sz : Nat} {cs : List Value} (h : RowsAt S w v n sz cs) (hf : Fr No w w') : RowsAt S w' v n sz cs := h.fr hf (fun _ h => h.elim)

theorem RowsAt.mono {S T : Nat → Prop} {w : World} {v : Value} {n sz : Nat} {cs : List Value} (h : RowsAt S w v n sz cs) (hT : ∀ b, b < w.heap.size → T b → S b) : RowsAt T w v n sz cs := by
  obtain ⟨hl, a, cap, hv, hr⟩ := h
  refine ⟨hl, a, cap, hv, hr.imp id ?_⟩
  rintro ⟨b, off, ha, hS, hb, hc⟩
  exact ⟨b, off, ha, fun h => hS (hT b hb h), hb, hc⟩

/-- Whole numbers as values. -/
abbrev ints (xs : List Int) : List Value := xs.map (Value.int .i64)

set_option maxHeartbeats 1000000 in
set_option maxRecDepth 100000 in
theorem index_ok {S : Nat → Prop} {v : Value} {n : Nat} {xs : List Int} {x : Int} {w : World} {R : Ending → World → Prop} (H : RowsAt S w v n 1 (ints xs)) (hn : n < 9223372036854775808)
    (hR : ∀ i : Int, (0 ≤ i ↔ x ∈ xs) → R (.returned (.int .i64 i)) w) :
    Calls Try.prog 44 #[v, .int .i64 x] w R := by
  obtain ⟨hl, a, cap, rfl, hr⟩ := H
  simp only [List.length_map, Nat.mul_one] at hl
  have HR := hid hR
  clear hR
  rcases hr with rfl | ⟨b, off, rfl, _, _, hc⟩
  · have hxs : xs = [] := List.eq_nil_of_length_eq_zero hl
    subst hxs
    go_enter Try.func44, Try.ntmps44
    go_wp2
    refine wp_loop_rounds 1 ?_
    rw [rounds_succ]
    go_wp2
    exact HR.out (-1) (by simp)
  · have HC := hid hc
    have HL := hid hl
    clear hc hl
    go_enter Try.func44, Try.ntmps44
    go_wp2
    go_loop [8] (fun i => ∃ k : Nat, k ≤ n ∧ i = .int .i64 k ∧ ∀ j, j < k → xs[j]? ≠ some x) (fun i => n - (intOf i).toNat)
    case atStart => exact ⟨0, Nat.zero_le _, rfl, fun j hj => by omega⟩
    case round =>
      obtain ⟨k, hk, rfl, hno⟩ := hrel
      have HNO := hid hno
      clear hno
      by_cases hlt : k < n
      · have hkl : k < xs.length := by have := HL.out; omega
        obtain ⟨y, hy⟩ : ∃ y, xs[k]? = some y := ⟨xs[k], List.getElem?_eq_getElem hkl⟩
        have hcell : w.cell? ⟨b, off + k, none⟩ = some (.int .i64 y) := HC.out k _ (by simp [hy])
        have HY := hid hy
        clear hy
        by_cases hxy : x = y
        · subst hxy
          go_wp2
          refine HR.out k ?_
          constructor
          · intro _; exact List.mem_of_getElem? HY.out
          · intro _; omega
        · go_wp2
          go_round
          case rel => exact ⟨k + 1, by omega, by go_num, fun j hj => by
            by_cases hjk : j = k
            · subst hjk; rw [HY.out]; intro e; injection e with e; exact hxy e.symm
            · exact HNO.out j (by omega)⟩
          case measure => simp [intOf]; omega
      · go_wp2
        refine HR.out (-1) ?_
        constructor
        · intro h; omega
        · intro hm
          obtain ⟨j, hj, hjx⟩ := List.mem_iff_getElem.1 hm
          exact absurd (by rw [List.getElem?_eq_getElem hj, hjx]) (HNO.out j (by have := HL.out; omega))

set_option maxHeartbeats 1000000 in
set_option maxRecDepth 100000 in
theorem contains_ok {S : Nat → Prop} {v : Value} {n : Nat} {xs : List Int} {x : Int} {w : World} {R : Ending → World → Prop} (H : RowsAt S w v n 1 (ints xs)) (hn : n < 9223372036854775808)
    (hR : R (.returned (.bool (xs.contains x))) w) :
    Calls Try.prog 37 #[v, .int .i64 x] w R := by
  have HR := hid hR
  have HH := hid H
  clear hR H
  by_cases hm : x ∈ xs
  · go_enter Try.func37, Try.ntmps37
    go_wp2_with (go_at_call 44; refine index_ok HH.out hn ?_; intro i hi; have hi0 : 0 ≤ i := hi.2 hm; clear hi)
    have := HR.out
    rw [show xs.contains x = true by simpa using hm] at this
    exact this
  · go_enter Try.func37, Try.ntmps37
    go_wp2_with (go_at_call 44; refine index_ok HH.out hn ?_; intro i hi; have hi0 : i < 0 := by { rcases Int.lt_or_le i 0 with h | h; exact h; exact absurd (hi.1 h) hm }; clear hi)
    have := HR.out
    rw [show xs.contains x = false by simpa using hm] at this
    have e : decide (0 ≤ i) = false := by simp; omega
    show R (.returned (.bool (decide (0 ≤ i)))) w
    rw [e]
    exact this

end Go.Proofs.Ytoffkaojhcnddaa
