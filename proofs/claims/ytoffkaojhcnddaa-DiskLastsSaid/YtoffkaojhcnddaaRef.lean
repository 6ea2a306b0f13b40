/- The reference's disk: where it lies; what is read of it. No condition beside that it lies there. -/
import Derived.Test.YtoffkaojhcnddaaDisk4
import Derived.Great.BuildSlice
namespace Go.Proofs.Ytoffkaojhcnddaa
set_option linter.unusedSimpArgs false
open Go.RowKit Go.Maps
attribute [local irreducible] wpQuiet wpAnyH

theorem rsectorU : Try.prog.underlying 41 = some (.array 32 5) := by kernel_rfl
theorem rsectorI : (Try.prog.info? 41).map (·.size) = some 32 := by kernel_rfl
theorem rzeroSec (w : World) : (zeroValue 41).run Try.prog w = .ok (.agg Z32) w := by kernel_rfl
theorem rsecsU : Try.prog.underlying 65 = some (.slice 41) := by kernel_rfl
theorem loosesU : Try.prog.underlying 66 = some (.slice 70) := by kernel_rfl
theorem looseI : (Try.prog.info? 70).map (·.size) = some 33 := by kernel_rfl
theorem IsSec.rinfo {c : Array Value} (h : IsSec c) : (Try.prog.info? 41).map (·.size) = some c.size := by rw [h.1]; exact rsectorI

/-- The cells of the reference's buffer. -/
def flat (l : List (Int × Array Value)) : List Value := l.flatMap fun x => Value.int .i64 x.1 :: x.2.toList

theorem flat_length {l : List (Int × Array Value)} (h : ∀ x ∈ l, IsSec x.2) : (flat l).length = l.length * 33 := by
  induction l with
  | nil => rfl
  | cons x r ih =>
    have hx := (h x List.mem_cons_self).1
    have := ih (fun y hy => h y (List.mem_cons_of_mem _ hy))
    simp only [flat, List.flatMap_cons, List.length_append, List.length_cons, Array.length_toList, hx] at this ⊢
    omega

theorem flat_get {l : List (Int × Array Value)} (h : ∀ x ∈ l, IsSec x.2) : ∀ {k : Nat} {x : Int × Array Value}, l[k]? = some x → ∀ j, j < 33 → (flat l)[k * 33 + j]? = (Value.int .i64 x.1 :: x.2.toList)[j]? := by
  induction l with
  | nil => intro k x hx; simp at hx
  | cons y r ih =>
    intro k x hx j hj
    have hy := (h y List.mem_cons_self).1
    have hl : (Value.int .i64 y.1 :: y.2.toList).length = 33 := by simp [hy]
    have e : flat (y :: r) = (Value.int .i64 y.1 :: y.2.toList) ++ flat r := by simp [flat]
    rw [e]
    cases k with
    | zero =>
      have hxy : y = x := by simpa using hx
      subst hxy
      rw [List.getElem?_append_left (by omega)]
      simp
    | succ k =>
      rw [List.getElem?_append_right (by omega), hl, show (k + 1) * 33 + j - 33 = k * 33 + j by omega]
      exact ih (fun z hz => h z (List.mem_cons_of_mem _ hz)) (by simpa using hx) j hj

/-- The reference's disk lies at p; its buffer's cells lie in no block of S. -/
structure RefAt (S : Nat → Prop) (w : World) (p n cap : Nat) (cs : Array Value) (l : List (Int × Array Value)) (bs : Nat) (bv : Value) : Prop where
  head : w.heap[p]? = some (.cells #[.slice (some ⟨bs, 0, none⟩) n cap, bv] 68 (0, 0))
  secs : w.heap[bs]? = some (.cells cs 41 (0, 0))
  size : n * 32 ≤ cs.size
  most : n ≤ 2048
  byte : Bytes n cs
  buf : RowsAt S w bv l.length 33 (flat l)
  srt : Srt l
  keys : ∀ x ∈ l, 0 ≤ x.1 ∧ x.1 < n
  vals : ∀ x ∈ l, IsSec x.2
  inS : S p
  outS : ¬ S bs

theorem RefAt.few {S : Nat → Prop} {w : World} {p n cap : Nat} {cs : Array Value} {l : List (Int × Array Value)} {bs : Nat} {bv : Value} (H : RefAt S w p n cap cs l bs bv) : l.length ≤ n := H.srt.length_le H.keys

theorem RefAt.fr {S T : Nat → Prop} {w w' : World} {p n cap : Nat} {cs : Array Value} {l : List (Int × Array Value)} {bs : Nat} {bv : Value} (H : RefAt S w p n cap cs l bs bv) (hf : Fr T w w') (hT : ∀ b, T b → S b) (hp : ¬ T p) : RefAt S w' p n cap cs l bs bv :=
  ⟨hf.keep H.head hp, hf.keep H.secs (fun h => H.outS (hT _ h)), H.size, H.most, H.byte, H.buf.fr hf hT, H.srt, H.keys, H.vals, H.inS, H.outS⟩

theorem RefAt.no {S : Nat → Prop} {w w' : World} {p n cap : Nat} {cs : Array Value} {l : List (Int × Array Value)} {bs : Nat} {bv : Value} (H : RefAt S w p n cap cs l bs bv) (hf : Fr No w w') : RefAt S w' p n cap cs l bs bv := H.fr hf (fun _ h => h.elim) (fun h => h)

theorem rsize_ok {p n m : Nat} {sa : Option Addr} {w : World} {R : Ending → World → Prop} (h0 : w.cell? ⟨p, 0, none⟩ = some (.slice sa n m)) (hR : R (.returned (.int .i64 n)) w) :
    Calls Try.prog 26 #[.pointer (some ⟨p, 0, none⟩)] w R := by
  go_enter Try.func26, Try.ntmps26
  go_wp2
  exact hR

set_option maxHeartbeats 400000 in
set_option maxRecDepth 100000 in
theorem rread_no {p n m : Nat} {sa : Option Addr} {i : Int} {w : World} {R : Ending → World → Prop} (h0 : w.cell? ⟨p, 0, none⟩ = some (.slice sa n m)) (h1 : i < 0 ∨ (n : Int) ≤ i)
    (hR : ∀ w', Fr No w w' → R (.returned (.tuple #[.agg Z32, .int .i64 2])) w') :
    Calls Try.prog 27 #[.pointer (some ⟨p, 0, none⟩), .int .i64 i] w R := by
  have c0' := cell_alloc h0 (.cells Z32 41)
  have HR := hid hR
  clear hR
  by_cases h : i < 0
  · clear h1
    go_enter Try.func27, Try.ntmps27
    go_wp2_with (first
      | (refine wpList_allocRow rfl rfl (rzeroSec _) ?_)
      | (refine wpList_build0 rfl rfl (rzeroSec _) rsectorU (byteSize _) ?_)
      | (refine wpList_storeNew rfl rfl rfl rfl (heap_alloc_new w _) Z32_is.rinfo rfl Z32_is.one (World.setRow_alloc_new _ _ _ _) ?_))
    exact bodyPost_ret (results_cell_tmp rfl rfl rfl (heap_alloc_new w _) rsectorU Z32_is.rinfo) rfl (HR.out _ ((Fr.refl No w).alloc _))
  · have h2 : (n : Int) ≤ i := by omega
    clear h1
    go_enter Try.func27, Try.ntmps27
    go_wp2_with (first
      | (refine wpList_allocRow rfl rfl (rzeroSec _) ?_)
      | (refine wpList_build0 rfl rfl (rzeroSec _) rsectorU (byteSize _) ?_)
      | (refine wpList_storeNew rfl rfl rfl rfl (heap_alloc_new w _) Z32_is.rinfo rfl Z32_is.one (World.setRow_alloc_new _ _ _ _) ?_))
    exact bodyPost_ret (results_cell_tmp rfl rfl rfl (heap_alloc_new w _) rsectorU Z32_is.rinfo) rfl (HR.out _ ((Fr.refl No w).alloc _))

/-- The k-th entry's cells. -/
theorem buf_at {S : Nat → Prop} {w : World} {bv : Value} {l : List (Int × Array Value)} (h : RowsAt S w bv l.length 33 (flat l)) (hv : ∀ x ∈ l, IsSec x.2) {k : Nat} {x : Int × Array Value} (hx : l[k]? = some x) :
    ∃ b off cap, bv = .slice (some ⟨b, off, none⟩) l.length cap ∧ b < w.heap.size ∧ ¬ S b ∧ w.cell? ⟨b, off + k * 33, none⟩ = some (.int .i64 x.1) ∧ w.rangeAt b (off + k * 33 + 1) x.2.toList := by
  obtain ⟨_, a, cap, rfl, hr⟩ := h
  have hk : k < l.length := (List.getElem?_eq_some_iff.1 hx).1
  rcases hr with h0 | ⟨b, off, rfl, hS, hb, hc⟩
  · omega
  · refine ⟨b, off, cap, rfl, hb, hS, ?_, fun j v hj => ?_⟩
    · have := flat_get hv hx 0 (by omega)
      exact hc _ _ this
    · have hs := (hv x (List.mem_of_getElem? hx)).1
      have hjl : j < 32 := by have := (List.getElem?_eq_some_iff.1 hj).1; simp [hs] at this; exact this
      have := flat_get hv hx (j + 1) (by omega)
      rw [List.getElem?_cons_succ, hj] at this
      have h2 := hc _ _ this
      rw [show off + k * 33 + 1 + j = off + (k * 33 + (j + 1)) by omega]
      exact h2

theorem range_row {w : World} {b o : Nat} {c : Array Value} {ty n e : TypeId} (h : w.rangeAt b o c.toList) (hu : Try.prog.underlying ty = some (.array n e)) (hi : (Try.prog.info? ty).map (·.size) = some c.size) : (loadVar ty ⟨b, o, none⟩).run Try.prog w = .ok (.agg c) w := by
  have := run_loadVar_mid (P := Try.prog) w b o ty c.toList _ h hu rfl (by simpa using hi)
  rwa [Array.toArray_toList] at this

end Go.Proofs.Ytoffkaojhcnddaa
