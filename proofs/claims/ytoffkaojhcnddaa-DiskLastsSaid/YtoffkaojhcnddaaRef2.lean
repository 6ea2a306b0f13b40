/- The reference's disk: Read. No condition beside that it lies there. -/
import Derived.Test.YtoffkaojhcnddaaRef
namespace Go.Proofs.Ytoffkaojhcnddaa
set_option linter.unusedSimpArgs false
open Go.RowKit Go.Maps

set_option maxHeartbeats 1000000 in
set_option maxRecDepth 100000 in
theorem rread_none {S : Nat → Prop} {p n cap : Nat} {cs : Array Value} {l : List (Int × Array Value)} {bs : Nat} {bv : Value} {i : Nat} {w : World} {R : Ending → World → Prop} (H : RefAt S w p n cap cs l bs bv) (h1 : i < n) (hg : aget l i = none)
    (hR : ∀ w', Fr No w w' → R (.returned (.tuple #[.agg (sec cs i), .int .i64 0])) w') :
    Calls Try.prog 27 #[.pointer (some ⟨p, 0, none⟩), .int .i64 i] w R := by
  have c0' := cell_alloc (cell_at (o := 0) H.head rfl) (.cells Z32 41)
  have c1' := cell_alloc (cell_at (o := 1) H.head rfl) (.cells Z32 41)
  simp only [List.getElem_toArray, List.getElem_cons_zero, List.getElem_cons_succ] at c0' c1'
  have hc : IsSec (sec cs i) := sec_is H.size H.byte h1
  have hzs : Hid (Z32.size = (sec cs i).size) := by show _ = _; rw [hc.1]; exact Z32_is.1
  have hfit : Hid (i * 32 + 32 ≤ cs.size) := by have := H.size; show _ ≤ _; omega
  have hno := hid (aget_none.1 hg)
  have h1' : (i : Int) < n := by omega
  have h0' : 0 ≤ (i : Int) := by omega
  have HR := hid hR
  have HH := hid H
  have hfew := H.few
  have hmost := H.most
  obtain ⟨_, ba, bc, rfl, _⟩ := H.buf
  clear hR H hg
  go_enter Try.func27, Try.ntmps27
  go_wp2_with (refine wpList_allocRow rfl rfl (rzeroSec _) ?_)
  go_loop [6] (fun t => ∃ k : Nat, k ≤ l.length ∧ t = .int .i64 k) (fun t => l.length - (intOf t).toNat)
  case atStart => exact ⟨0, Nat.zero_le _, rfl⟩
  case round =>
    obtain ⟨k, hk, rfl⟩ := hrel
    by_cases hlt : k < l.length
    · obtain ⟨x, hx⟩ : ∃ x, l[k]? = some x := ⟨l[k], List.getElem?_eq_getElem hlt⟩
      obtain ⟨b, off, cp, e, _, _, hcell, _⟩ := buf_at HH.out.buf HH.out.vals hx
      simp only [Value.slice.injEq, true_and] at e
      obtain ⟨rfl, rfl⟩ := e
      have hcell' := cell_alloc hcell (.cells Z32 41)
      have hne : (x.1 == (i : Int)) = false := by simpa using hno.out x (List.mem_of_getElem? hx)
      clear hcell hx
      go_wp2
      go_round
      case rel => exact ⟨k + 1, by omega, by go_num⟩
      case measure => simp [intOf]; omega
    · go_wp2_with (first
        | (refine wpList_storeNew (x := .tmp 4) rfl rfl rfl rfl (heap_alloc_new w _) hc.rinfo hzs.out hc.one (World.setRow_alloc_new _ _ _ _) ?_)
        | (refine wpList_loadVar (x := .tmp 56) rfl rfl rfl (var_mid (alloc_keep HH.out.secs _) rsectorU rsectorI hfit.out) ?_))
      refine bodyPost_ret (v := .tuple #[.agg (sec cs i), .int .i64 0]) (results_cell_tmp rfl rfl rfl (heap_alloc_new w _) rsectorU hc.rinfo) rfl ?_
      exact HR.out _ ((Fr.refl No w).alloc _)

theorem find_first {l : List (Int × Array Value)} {i : Int} {c : Array Value} (h : aget l i = some c) : ∃ k, k < l.length ∧ l[k]? = some (i, c) ∧ ∀ j x, j < k → l[j]? = some x → x.1 ≠ i := by
  induction l with
  | nil => simp [aget] at h
  | cons y r ih =>
    by_cases hy : y.1 = i
    · refine ⟨0, by simp, ?_, fun j x hj => by omega⟩
      simp [aget, hy] at h
      simp [← hy, ← h]
    · have hne : (y.1 == i) = false := by simpa using hy
      simp only [aget, List.find?_cons, hne] at h
      obtain ⟨k, h1, h2, h3⟩ := ih h
      refine ⟨k + 1, by simp; omega, by simpa using h2, fun j x hj hx => ?_⟩
      cases j with
      | zero => simp at hx; subst hx; exact hy
      | succ j => exact h3 j x (by omega) (by simpa using hx)

set_option maxHeartbeats 1000000 in
set_option maxRecDepth 100000 in
theorem rread_some {S : Nat → Prop} {p n cap : Nat} {cs : Array Value} {l : List (Int × Array Value)} {bs : Nat} {bv : Value} {i : Nat} {c : Array Value} {w : World} {R : Ending → World → Prop} (H : RefAt S w p n cap cs l bs bv) (h1 : i < n) (hg : aget l i = some c)
    (hR : ∀ w', Fr No w w' → R (.returned (.tuple #[.agg c, .int .i64 0])) w') :
    Calls Try.prog 27 #[.pointer (some ⟨p, 0, none⟩), .int .i64 i] w R := by
  have c0' := cell_alloc (cell_at (o := 0) H.head rfl) (.cells Z32 41)
  have c1' := cell_alloc (cell_at (o := 1) H.head rfl) (.cells Z32 41)
  simp only [List.getElem_toArray, List.getElem_cons_zero, List.getElem_cons_succ] at c0' c1'
  have hc : IsSec c := H.vals _ (aget_some_mem hg)
  have hzs : Hid (Z32.size = c.size) := by show _ = _; rw [hc.1]; exact Z32_is.1
  obtain ⟨k0, hk0, hk1, hk2⟩ := find_first hg
  have HK1 := hid hk1
  have HK2 := hid hk2
  have h1' : (i : Int) < n := by omega
  have h0' : 0 ≤ (i : Int) := by omega
  have HR := hid hR
  have HH := hid H
  have hfew := H.few
  have hmost := H.most
  obtain ⟨b, off, bc, rfl, _, _, hc0, hc1⟩ := buf_at H.buf H.vals hk1
  have hcc := hid ((World.rangeAt_alloc hc1) (.cells Z32 41))
  clear hR H hg hk1 hk2 hc0 hc1
  go_enter Try.func27, Try.ntmps27
  go_wp2_with (refine wpList_allocRow rfl rfl (rzeroSec _) ?_)
  go_loop [6] (fun t => ∃ k : Nat, k ≤ k0 ∧ t = .int .i64 k) (fun t => k0 - (intOf t).toNat)
  case atStart => exact ⟨0, Nat.zero_le _, rfl⟩
  case round =>
    obtain ⟨k, hk, rfl⟩ := hrel
    obtain ⟨x, hx⟩ : ∃ x, l[k]? = some x := ⟨l[k], List.getElem?_eq_getElem (by omega)⟩
    obtain ⟨b', off', cp, e, _, _, hcell, _⟩ := buf_at HH.out.buf HH.out.vals hx
    simp only [Value.slice.injEq, true_and, Option.some.injEq, Addr.mk.injEq, and_true] at e
    obtain ⟨⟨rfl, rfl⟩, rfl⟩ := e
    have hcell' := cell_alloc hcell (.cells Z32 41)
    have hkl : k < l.length := by omega
    by_cases hlt : k < k0
    · have hne : (x.1 == (i : Int)) = false := by simpa using HK2.out k x hlt hx
      clear hcell hx
      go_wp2
      go_round
      case rel => exact ⟨k + 1, by omega, by go_num⟩
      case measure => simp [intOf]; omega
    · obtain rfl : k = k0 := by omega
      have hxe : x = ((i : Int), c) := by have := HK1.out; rw [hx] at this; exact Option.some.inj this
      subst hxe
      clear hcell hx
      go_wp2_with (first
        | (refine wpList_storeNew (x := .tmp 4) rfl rfl rfl rfl (heap_alloc_new w _) hc.rinfo hzs.out hc.one (World.setRow_alloc_new _ _ _ _) ?_)
        | (refine wpList_loadVar (x := .tmp 49) rfl rfl rfl (range_row hcc.out rsectorU hc.rinfo) ?_))
      refine bodyPost_ret (v := .tuple #[.agg c, .int .i64 0]) (results_cell_tmp rfl rfl rfl (heap_alloc_new w _) rsectorU hc.rinfo) rfl ?_
      exact HR.out _ ((Fr.refl No w).alloc _)

end Go.Proofs.Ytoffkaojhcnddaa
