/- The reference's disk: Fork. The disk: New, Read of no disk. No condition beside that it lies there. -/
import Derived.Test.YtoffkaojhcnddaaRef6
import Derived.Test.YtoffkaojhcnddaaHeld
namespace Go.Proofs.Ytoffkaojhcnddaa
set_option linter.unusedSimpArgs false
open Go.RowKit Go.Maps
attribute [local irreducible] wpQuiet wpAnyH

theorem var_rsecs {w : World} {p : Nat} {c : Array Value} {t : TypeId} {fr : Nat × Nat} {v : Value} {o : Nat} (h : w.heap[p]? = some (.cells c t fr)) (hv : c[o]? = some v) : (loadVar 65 ⟨p, o, none⟩).run Try.prog w = .ok v w := var_cell rsecsU rfl (cell_at h hv)
theorem var_rloose {w : World} {p : Nat} {c : Array Value} {t : TypeId} {fr : Nat × Nat} {v : Value} {o : Nat} (h : w.heap[p]? = some (.cells c t fr)) (hv : c[o]? = some v) : (loadVar 66 ⟨p, o, none⟩).run Try.prog w = .ok v w := var_cell loosesU rfl (cell_at h hv)

theorem Fr.of_none {w w' : World} (h : w.grownBy w' none) : Fr No w w' := (Fr.refl No w).grown h (fun _ hk => by cases hk)
theorem owns_keep {w w' : World} {b : Nat} {e : TypeId} {sz : Nat} {v : Value} {n : Nat} {cs : List Value} (h : w.ownsRow b e sz v n cs) (hg : w.grownBy w' none) : w'.ownsRow b e sz v n cs :=
  h.kept hg (by cases hv : v.ownBlock <;> simp)

theorem flat_one {l : List (Int × Array Value)} (h : ∀ x ∈ l, IsSec x.2) : ∀ u ∈ flat l, u.oneCell' = true := fun u hu => by
  simp only [flat, List.mem_flatMap] at hu
  obtain ⟨x, hx, hu⟩ := hu
  rcases List.mem_cons.1 hu with rfl | hu
  · rfl
  · obtain ⟨q, _, _, rfl⟩ := (h x hx).2 u (Array.mem_toList_iff.1 hu); rfl

theorem step_ex {X : Value → World → Prop} {A : Value → World → Prop} {B : Value → World → Prop} (h : ∃ v w', X v w' ∧ A v w') (k : ∀ v w', A v w' → B v w') : ∃ v w', X v w' ∧ B v w' := by
  obtain ⟨v, w', h1, h2⟩ := h
  exact ⟨v, w', h1, k v w' h2⟩

theorem h_ex {P : Program} {ops : List Oper} {o : Oper} {a : Act} {w : World} {S : World → Prop} {Q : Exit → Act → World → Prop} {fuel : Nat} {listed : Array Bool} (i : Nat) (hr : Region.ready .any ops.toArray listed = [i]) (hi : nthO ops i = some o) (_ho : o.guard = o.guard) (hw : Region.wanted o (yielded ops.toArray a.tmps) = true)
    (h : ∃ v w', (execOp a.eval o).run P w = .ok (.value v) w' ∧ S w' ∧ wpAnyH P .any ops.toArray Q S fuel (listed.setIfInBounds i true) (a.put o.dst v) w') : wpAnyH P .any ops.toArray Q S (fuel + 1) listed a w := by
  obtain ⟨v, w', h1, h2, h3⟩ := h
  exact h_one i hr hi hw h1 h2 h3

theorem rfork_end {S : Nat → Prop} {p n cap : Nat} {cs : Array Value} {l : List (Int × Array Value)} {bs : Nat} {bv : Value} {w w4 : World} {R : Ending → World → Prop} (H : RefAt S w p n cap cs l bs bv) {g cap' : Nat} {cur : Array Value} {v : Value} (hg : w.heap.size ≤ g) (hh : w4.heap[g]? = some (.cells cur 41 (0, 0))) (hsz : n * 32 ≤ cur.size) (hcur : ∀ j, j < n * 32 → cur[j]? = (cs.toList.take (n * 32))[j]?)
    (ho : w4.ownsRow w.heap.size 70 33 v l.length (flat l)) (hF : Fr No w (w4.alloc (.cells #[.slice (some ⟨g, 0, none⟩) n cap', v] 68))) (hws : w.heap.size ≤ w4.heap.size)
    (hR : ∀ w' p' cap' cs' bs' bv', (∀ S : Nat → Prop, S p' → (∀ b, w.heap.size ≤ b → S b → b = p') → RefAt S w' p' n cap' cs' l bs' bv') → (∀ i, i < n → sec cs' i = sec cs i) → w.heap.size ≤ p' → p' < w'.heap.size → Fr No w w' → R (.returned (.pointer (some ⟨p', 0, none⟩))) w') :
    R (.returned (.pointer (some ⟨w4.heap.size, 0, none⟩))) (w4.alloc (.cells #[.slice (some ⟨g, 0, none⟩) n cap', v] 68)) := by
  have hp : (w4.alloc (.cells #[.slice (some ⟨g, 0, none⟩) n cap', v] 68)).heap[w4.heap.size]? = some (.cells #[.slice (some ⟨g, 0, none⟩) n cap', v] 68 (0, 0)) := heap_alloc_new w4 _
  have hgl : g < w4.heap.size := lt_of_heap hh
  have hc : ∀ j, j < n * 32 → cur[j]? = cs[j]? := fun j hj => by rw [hcur j hj, List.getElem?_take, if_pos hj, Array.getElem?_toList]
  refine hR _ w4.heap.size cap' cur g v (fun S hSp hS => ⟨hp, alloc_keep hh _, hsz, H.most, fun j u hj hu => H.byte j u hj (by rw [← hc j hj]; exact hu), ?_, H.srt, H.keys, H.vals, hSp, fun h => by have := hS g hg h; omega⟩) (fun i hi => sec_congr H.size hsz hc hi) hws (lt_of_heap hp) hF
  have := RowsAt.of_owns_lt ho (S := S) (fun b hb hlt hs => by have := hS b hb hs; omega)
  exact this.no ((Fr.refl No w4).alloc _)

set_option maxHeartbeats 4000000 in
set_option maxRecDepth 100000 in
theorem rfork_ok {S : Nat → Prop} {p n cap : Nat} {cs : Array Value} {l : List (Int × Array Value)} {bs : Nat} {bv : Value} {w : World} {R : Ending → World → Prop} (H : RefAt S w p n cap cs l bs bv)
    (hR : ∀ w' p' cap' cs' bs' bv', (∀ S : Nat → Prop, S p' → (∀ b, w.heap.size ≤ b → S b → b = p') → RefAt S w' p' n cap' cs' l bs' bv') → (∀ i, i < n → sec cs' i = sec cs i) → w.heap.size ≤ p' → p' < w'.heap.size → Fr No w w' → R (.returned (.pointer (some ⟨p', 0, none⟩))) w') :
    Calls Try.prog 21 #[.pointer (some ⟨p, 0, none⟩)] w R := by
  have HR := hid hR
  have HH := hid H
  have hmost := H.most
  have hfew := H.few
  clear hR H
  have hrow : Hid (∀ W, Fr No w W → RowsAt No W (.slice (some ⟨bs, 0, none⟩) n cap) n 32 (cs.toList.take (n * 32))) := fun W hW => by
    have h := hW.keep HH.out.secs (fun h => h)
    refine ⟨by have := HH.out.size; simp; omega, some ⟨bs, 0, none⟩, cap, rfl, .inr ⟨bs, 0, rfl, fun h => h, lt_of_heap h, fun j x hj => ?_⟩⟩
    rw [List.getElem?_take] at hj
    split at hj
    · rw [Nat.zero_add]; exact cell_at h (by simpa using hj)
    · cases hj
  have hone : Hid (∀ u ∈ cs.toList.take (n * 32), u.oneCell' = true) := fun u hu => by
    obtain ⟨j, hj⟩ := List.mem_iff_getElem?.1 hu
    rw [List.getElem?_take] at hj
    split at hj
    · rename_i hlt; obtain ⟨q, _, _, rfl⟩ := HH.out.byte j u hlt (by simpa using hj); rfl
    · cases hj
  have hbuf : Hid (∀ W, Fr No w W → RowsAt No W bv l.length 33 (flat l)) := fun W hW => (HH.out.buf.mono (T := No) (fun _ _ h => h.elim)).no hW
  have hfone : Hid (∀ u ∈ flat l, u.oneCell' = true) := flat_one HH.out.vals
  go_enter Try.func21, Try.ntmps21
  go_wp2
  refine region_held (n := 15) (Fr No w) follows (by kernel_rfl) ?_
  have HS : Fr No w w.drew := (Fr.refl No w).drew
  (refine h_val 1 rfl (by kernel_rfl) (by kernel_rfl) (by kernel_rfl) (fun _ _ _ h => h) HS (by kernel_rfl) (fun W _ => run_move rfl rfl W) ?_; simp only [Act.put, Act.eval, Array.getD_eq_getD_getElem?, List.setIfInBounds_toArray, List.set_cons_succ, List.set_cons_zero, List.getElem?_toArray, List.getElem?_cons_succ, List.getElem?_cons_zero, Option.getD_some])
  (refine h_val 2 rfl (by kernel_rfl) (by kernel_rfl) (by kernel_rfl) (fun _ _ _ h => h) HS (by kernel_rfl) (fun W _ => run_nilCheck rfl rfl W) ?_; simp only [Act.put, Act.eval, Array.getD_eq_getD_getElem?, List.setIfInBounds_toArray, List.set_cons_succ, List.set_cons_zero, List.getElem?_toArray, List.getElem?_cons_succ, List.getElem?_cons_zero, Option.getD_some])
  (refine h_val 3 rfl (by kernel_rfl) (by kernel_rfl) (by kernel_rfl) (fun _ _ _ h => h) HS (by kernel_rfl) (fun W _ => run_field rfl rfl (rfieldD0 p) W) ?_; simp only [Act.put, Act.eval, Array.getD_eq_getD_getElem?, List.setIfInBounds_toArray, List.set_cons_succ, List.set_cons_zero, List.getElem?_toArray, List.getElem?_cons_succ, List.getElem?_cons_zero, Option.getD_some])
  (refine h_val (v := .slice (some ⟨bs, 0, none⟩) n cap) 4 rfl (by kernel_rfl) (by kernel_rfl) (by kernel_rfl) (fun _ _ _ h => h) HS (by kernel_rfl) (fun W hW => run_loadv rfl rfl (var_rsecs (hW.keep HH.out.head (fun h => h)) rfl)) ?_; simp only [Act.put, Act.eval, Array.getD_eq_getD_getElem?, List.setIfInBounds_toArray, List.set_cons_succ, List.set_cons_zero, List.getElem?_toArray, List.getElem?_cons_succ, List.getElem?_cons_zero, Option.getD_some])
  (refine h_val 7 rfl (by kernel_rfl) (by kernel_rfl) (by kernel_rfl) (fun _ _ _ h => h) HS (by kernel_rfl) (fun W _ => run_move rfl rfl W) ?_; simp only [Act.put, Act.eval, Array.getD_eq_getD_getElem?, List.setIfInBounds_toArray, List.set_cons_succ, List.set_cons_zero, List.getElem?_toArray, List.getElem?_cons_succ, List.getElem?_cons_zero, Option.getD_some])
  (refine h_val 8 rfl (by kernel_rfl) (by kernel_rfl) (by kernel_rfl) (fun _ _ _ h => h) HS (by kernel_rfl) (fun W _ => run_nilCheck rfl rfl W) ?_; simp only [Act.put, Act.eval, Array.getD_eq_getD_getElem?, List.setIfInBounds_toArray, List.set_cons_succ, List.set_cons_zero, List.getElem?_toArray, List.getElem?_cons_succ, List.getElem?_cons_zero, Option.getD_some])
  (refine h_val 9 rfl (by kernel_rfl) (by kernel_rfl) (by kernel_rfl) (fun _ _ _ h => h) HS (by kernel_rfl) (fun W _ => run_field rfl rfl (rfieldD1 p) W) ?_; simp only [Act.put, Act.eval, Array.getD_eq_getD_getElem?, List.setIfInBounds_toArray, List.set_cons_succ, List.set_cons_zero, List.getElem?_toArray, List.getElem?_cons_succ, List.getElem?_cons_zero, Option.getD_some])
  (refine h_val (v := bv) 10 rfl (by kernel_rfl) (by kernel_rfl) (by kernel_rfl) (fun _ _ _ h => h) HS (by kernel_rfl) (fun W hW => run_loadv rfl rfl (var_rloose (hW.keep HH.out.head (fun h => h)) rfl)) ?_; simp only [Act.put, Act.eval, Array.getD_eq_getD_getElem?, List.setIfInBounds_toArray, List.set_cons_succ, List.set_cons_zero, List.getElem?_toArray, List.getElem?_cons_succ, List.getElem?_cons_zero, Option.getD_some])
  refine h_two 0 6 (by kernel_rfl) rfl rfl (by kernel_rfl) (by kernel_rfl) ?_ ?_
  · refine step_ex (run_op_built0 rsecT rfl) ?_
    rintro v0 w1 ⟨o0, g0, n0⟩
    have O0 := owns_low o0 HS.size
    have HS1 := HS.no (Fr.of_none g0)
    refine ⟨HS1, ?_⟩
    clear HS o0 g0
    have HS := HS1
    clear HS1
    simp only [Act.put, Act.eval, Array.getD_eq_getD_getElem?, List.setIfInBounds_toArray, List.set_cons_succ, List.set_cons_zero, List.getElem?_toArray, List.getElem?_cons_succ, List.getElem?_cons_zero, Option.getD_some]
    refine h_two 5 6 (by kernel_rfl) rfl rfl (by kernel_rfl) (by kernel_rfl) ?_ ?_
    · refine step_ex (run_copy (v := v0) (xv := .slice (some ⟨bs, 0, none⟩) n cap) rsecT (by decide) rfl rfl rfl (hrow.out _ HS) hone.out O0 n0 HS.size (by simp only [maxLen]; omega) (by omega)) ?_
      rintro v5 w3 ⟨O5, g5, n5⟩
      have HS1 := Fr.of_grown HS (Nat.le_refl _) O0 g5
      refine ⟨HS1, ?_⟩
      clear HS g5 O0
      have HS := HS1
      clear HS1
      simp only [Act.put, Act.eval, Array.getD_eq_getD_getElem?, List.setIfInBounds_toArray, List.set_cons_succ, List.set_cons_zero, List.getElem?_toArray, List.getElem?_cons_succ, List.getElem?_cons_zero, Option.getD_some]
      refine h_ex 6 (by kernel_rfl) rfl rfl (by kernel_rfl) ?_
      refine step_ex (run_op_built0 looseT rfl) ?_
      rintro v6 w2 ⟨o6, g6, n6⟩
      have O6 := owns_low o6 HS.size
      have O5' := owns_keep O5 g6
      clear O5
      have O5 := O5'
      clear O5'
      have HS1 := HS.no (Fr.of_none g6)
      refine ⟨HS1, ?_⟩
      clear HS o6 g6
      have HS := HS1
      clear HS1
      simp only [Act.put, Act.eval, Array.getD_eq_getD_getElem?, List.setIfInBounds_toArray, List.set_cons_succ, List.set_cons_zero, List.getElem?_toArray, List.getElem?_cons_succ, List.getElem?_cons_zero, Option.getD_some]
      refine h_ex 11 (by kernel_rfl) rfl rfl (by kernel_rfl) ?_
      refine step_ex (run_copy (v := v6) (xv := bv) looseT (by decide) rfl rfl rfl (hbuf.out _ HS) hfone.out O6 n6 HS.size (by simp only [maxLen]; omega) (by omega)) ?_
      rintro v11 w4 ⟨o11, g11, n11⟩
      have o5 := O5.kept g11 (.inr (owns_ne O5 O6 (by decide) n5))
      have HS1 := Fr.of_grown HS (Nat.le_refl _) O6 g11
      refine ⟨HS1, ?_⟩
      clear HS g11 O6 O5
      have HS := HS1
      clear HS1
      obtain ⟨g, cap', cur, rfl, hg, hh, hsz, hcur⟩ := owns_cells o5 n5
      obtain ⟨g2, cap2, cur2, rfl, hg2, hh2, _, _⟩ := owns_cells o11 n11
      simp only [Act.put, Act.eval, Array.getD_eq_getD_getElem?, List.setIfInBounds_toArray, List.set_cons_succ, List.set_cons_zero, List.getElem?_toArray, List.getElem?_cons_succ, List.getElem?_cons_zero, Option.getD_some]
      (refine h_val (v := .agg #[.slice (some ⟨g, 0, none⟩) n cap', .slice (some ⟨g2, 0, none⟩) l.length cap2]) 12 rfl (by kernel_rfl) (by kernel_rfl) (by kernel_rfl) (fun _ _ _ h => h) HS (by kernel_rfl) (fun W _ => by kernel_rfl) ?_; simp only [Act.put, Act.eval, Array.getD_eq_getD_getElem?, List.setIfInBounds_toArray, List.set_cons_succ, List.set_cons_zero, List.getElem?_toArray, List.getElem?_cons_succ, List.getElem?_cons_zero, Option.getD_some])
      (refine h_one 13 (by kernel_rfl) rfl (by kernel_rfl) (run_box rfl rfl _) (HS.alloc _) ?_; simp only [Act.put, Act.eval, Array.getD_eq_getD_getElem?, List.setIfInBounds_toArray, List.set_cons_succ, List.set_cons_zero, List.getElem?_toArray, List.getElem?_cons_succ, List.getElem?_cons_zero, Option.getD_some])
      have HS3 : Fr No w (w4.alloc (.cells #[.slice (some ⟨g, 0, none⟩) n cap', .slice (some ⟨g2, 0, none⟩) l.length cap2] 68)) := HS.alloc _
      have hws : w.heap.size ≤ w4.heap.size := HS.size
      clear HS
      have HS := HS3
      (refine h_val 14 rfl (by kernel_rfl) (by kernel_rfl) (by kernel_rfl) (fun _ _ _ h => h) HS (by kernel_rfl) (fun W _ => run_assign rfl rfl W) ?_; simp only [Act.put, Act.eval, Array.getD_eq_getD_getElem?, List.setIfInBounds_toArray, List.set_cons_succ, List.set_cons_zero, List.getElem?_toArray, List.getElem?_cons_succ, List.getElem?_cons_zero, Option.getD_some])
      refine h_done (by kernel_rfl) ?_
      go_wp2
      exact rfork_end HH.out hg hh hsz hcur o11 HS3 hws HR.out
    · refine step_ex (run_op_built0 looseT rfl) ?_
      rintro v6 w2 ⟨o6, g6, n6⟩
      have O6 := owns_low o6 HS.size
      have O0' := owns_keep O0 g6
      clear O0
      have O0 := O0'
      clear O0'
      have HS1 := HS.no (Fr.of_none g6)
      refine ⟨HS1, ?_⟩
      clear HS o6 g6
      have HS := HS1
      clear HS1
      simp only [Act.put, Act.eval, Array.getD_eq_getD_getElem?, List.setIfInBounds_toArray, List.set_cons_succ, List.set_cons_zero, List.getElem?_toArray, List.getElem?_cons_succ, List.getElem?_cons_zero, Option.getD_some]
      refine h_ex 5 (by kernel_rfl) rfl rfl (by kernel_rfl) ?_
      refine step_ex (run_copy (v := v0) (xv := .slice (some ⟨bs, 0, none⟩) n cap) rsecT (by decide) rfl rfl rfl (hrow.out _ HS) hone.out O0 n0 HS.size (by simp only [maxLen]; omega) (by omega)) ?_
      rintro v5 w3 ⟨O5, g5, n5⟩
      have O6' := O6.kept g5 (.inr (owns_ne O6 O0 (by decide) n6))
      clear O6
      have O6 := O6'
      clear O6'
      have HS1 := Fr.of_grown HS (Nat.le_refl _) O0 g5
      refine ⟨HS1, ?_⟩
      clear HS g5 O0
      have HS := HS1
      clear HS1
      simp only [Act.put, Act.eval, Array.getD_eq_getD_getElem?, List.setIfInBounds_toArray, List.set_cons_succ, List.set_cons_zero, List.getElem?_toArray, List.getElem?_cons_succ, List.getElem?_cons_zero, Option.getD_some]
      refine h_ex 11 (by kernel_rfl) rfl rfl (by kernel_rfl) ?_
      refine step_ex (run_copy (v := v6) (xv := bv) looseT (by decide) rfl rfl rfl (hbuf.out _ HS) hfone.out O6 n6 HS.size (by simp only [maxLen]; omega) (by omega)) ?_
      rintro v11 w4 ⟨o11, g11, n11⟩
      have o5 := O5.kept g11 (.inr (owns_ne O5 O6 (by decide) n5))
      have HS1 := Fr.of_grown HS (Nat.le_refl _) O6 g11
      refine ⟨HS1, ?_⟩
      clear HS g11 O6 O5
      have HS := HS1
      clear HS1
      obtain ⟨g, cap', cur, rfl, hg, hh, hsz, hcur⟩ := owns_cells o5 n5
      obtain ⟨g2, cap2, cur2, rfl, hg2, hh2, _, _⟩ := owns_cells o11 n11
      simp only [Act.put, Act.eval, Array.getD_eq_getD_getElem?, List.setIfInBounds_toArray, List.set_cons_succ, List.set_cons_zero, List.getElem?_toArray, List.getElem?_cons_succ, List.getElem?_cons_zero, Option.getD_some]
      (refine h_val (v := .agg #[.slice (some ⟨g, 0, none⟩) n cap', .slice (some ⟨g2, 0, none⟩) l.length cap2]) 12 rfl (by kernel_rfl) (by kernel_rfl) (by kernel_rfl) (fun _ _ _ h => h) HS (by kernel_rfl) (fun W _ => by kernel_rfl) ?_; simp only [Act.put, Act.eval, Array.getD_eq_getD_getElem?, List.setIfInBounds_toArray, List.set_cons_succ, List.set_cons_zero, List.getElem?_toArray, List.getElem?_cons_succ, List.getElem?_cons_zero, Option.getD_some])
      (refine h_one 13 (by kernel_rfl) rfl (by kernel_rfl) (run_box rfl rfl _) (HS.alloc _) ?_; simp only [Act.put, Act.eval, Array.getD_eq_getD_getElem?, List.setIfInBounds_toArray, List.set_cons_succ, List.set_cons_zero, List.getElem?_toArray, List.getElem?_cons_succ, List.getElem?_cons_zero, Option.getD_some])
      have HS3 : Fr No w (w4.alloc (.cells #[.slice (some ⟨g, 0, none⟩) n cap', .slice (some ⟨g2, 0, none⟩) l.length cap2] 68)) := HS.alloc _
      have hws : w.heap.size ≤ w4.heap.size := HS.size
      clear HS
      have HS := HS3
      (refine h_val 14 rfl (by kernel_rfl) (by kernel_rfl) (by kernel_rfl) (fun _ _ _ h => h) HS (by kernel_rfl) (fun W _ => run_assign rfl rfl W) ?_; simp only [Act.put, Act.eval, Array.getD_eq_getD_getElem?, List.setIfInBounds_toArray, List.set_cons_succ, List.set_cons_zero, List.getElem?_toArray, List.getElem?_cons_succ, List.getElem?_cons_zero, Option.getD_some])
      refine h_done (by kernel_rfl) ?_
      go_wp2
      exact rfork_end HH.out hg hh hsz hcur o11 HS3 hws HR.out
  · refine step_ex (run_op_built0 looseT rfl) ?_
    rintro v6 w2 ⟨o6, g6, n6⟩
    have O6 := owns_low o6 HS.size
    have HS1 := HS.no (Fr.of_none g6)
    refine ⟨HS1, ?_⟩
    clear HS o6 g6
    have HS := HS1
    clear HS1
    simp only [Act.put, Act.eval, Array.getD_eq_getD_getElem?, List.setIfInBounds_toArray, List.set_cons_succ, List.set_cons_zero, List.getElem?_toArray, List.getElem?_cons_succ, List.getElem?_cons_zero, Option.getD_some]
    refine h_ex 0 (by kernel_rfl) rfl rfl (by kernel_rfl) ?_
    refine step_ex (run_op_built0 rsecT rfl) ?_
    rintro v0 w1 ⟨o0, g0, n0⟩
    have O0 := owns_low o0 HS.size
    have O6' := owns_keep O6 g0
    clear O6
    have O6 := O6'
    clear O6'
    have HS1 := HS.no (Fr.of_none g0)
    refine ⟨HS1, ?_⟩
    clear HS o0 g0
    have HS := HS1
    clear HS1
    simp only [Act.put, Act.eval, Array.getD_eq_getD_getElem?, List.setIfInBounds_toArray, List.set_cons_succ, List.set_cons_zero, List.getElem?_toArray, List.getElem?_cons_succ, List.getElem?_cons_zero, Option.getD_some]
    refine h_ex 5 (by kernel_rfl) rfl rfl (by kernel_rfl) ?_
    refine step_ex (run_copy (v := v0) (xv := .slice (some ⟨bs, 0, none⟩) n cap) rsecT (by decide) rfl rfl rfl (hrow.out _ HS) hone.out O0 n0 HS.size (by simp only [maxLen]; omega) (by omega)) ?_
    rintro v5 w3 ⟨O5, g5, n5⟩
    have O6' := O6.kept g5 (.inr (owns_ne O6 O0 (by decide) n6))
    clear O6
    have O6 := O6'
    clear O6'
    have HS1 := Fr.of_grown HS (Nat.le_refl _) O0 g5
    refine ⟨HS1, ?_⟩
    clear HS g5 O0
    have HS := HS1
    clear HS1
    simp only [Act.put, Act.eval, Array.getD_eq_getD_getElem?, List.setIfInBounds_toArray, List.set_cons_succ, List.set_cons_zero, List.getElem?_toArray, List.getElem?_cons_succ, List.getElem?_cons_zero, Option.getD_some]
    refine h_ex 11 (by kernel_rfl) rfl rfl (by kernel_rfl) ?_
    refine step_ex (run_copy (v := v6) (xv := bv) looseT (by decide) rfl rfl rfl (hbuf.out _ HS) hfone.out O6 n6 HS.size (by simp only [maxLen]; omega) (by omega)) ?_
    rintro v11 w4 ⟨o11, g11, n11⟩
    have o5 := O5.kept g11 (.inr (owns_ne O5 O6 (by decide) n5))
    have HS1 := Fr.of_grown HS (Nat.le_refl _) O6 g11
    refine ⟨HS1, ?_⟩
    clear HS g11 O6 O5
    have HS := HS1
    clear HS1
    obtain ⟨g, cap', cur, rfl, hg, hh, hsz, hcur⟩ := owns_cells o5 n5
    obtain ⟨g2, cap2, cur2, rfl, hg2, hh2, _, _⟩ := owns_cells o11 n11
    simp only [Act.put, Act.eval, Array.getD_eq_getD_getElem?, List.setIfInBounds_toArray, List.set_cons_succ, List.set_cons_zero, List.getElem?_toArray, List.getElem?_cons_succ, List.getElem?_cons_zero, Option.getD_some]
    (refine h_val (v := .agg #[.slice (some ⟨g, 0, none⟩) n cap', .slice (some ⟨g2, 0, none⟩) l.length cap2]) 12 rfl (by kernel_rfl) (by kernel_rfl) (by kernel_rfl) (fun _ _ _ h => h) HS (by kernel_rfl) (fun W _ => by kernel_rfl) ?_; simp only [Act.put, Act.eval, Array.getD_eq_getD_getElem?, List.setIfInBounds_toArray, List.set_cons_succ, List.set_cons_zero, List.getElem?_toArray, List.getElem?_cons_succ, List.getElem?_cons_zero, Option.getD_some])
    (refine h_one 13 (by kernel_rfl) rfl (by kernel_rfl) (run_box rfl rfl _) (HS.alloc _) ?_; simp only [Act.put, Act.eval, Array.getD_eq_getD_getElem?, List.setIfInBounds_toArray, List.set_cons_succ, List.set_cons_zero, List.getElem?_toArray, List.getElem?_cons_succ, List.getElem?_cons_zero, Option.getD_some])
    have HS3 : Fr No w (w4.alloc (.cells #[.slice (some ⟨g, 0, none⟩) n cap', .slice (some ⟨g2, 0, none⟩) l.length cap2] 68)) := HS.alloc _
    have hws : w.heap.size ≤ w4.heap.size := HS.size
    clear HS
    have HS := HS3
    (refine h_val 14 rfl (by kernel_rfl) (by kernel_rfl) (by kernel_rfl) (fun _ _ _ h => h) HS (by kernel_rfl) (fun W _ => run_assign rfl rfl W) ?_; simp only [Act.put, Act.eval, Array.getD_eq_getD_getElem?, List.setIfInBounds_toArray, List.set_cons_succ, List.set_cons_zero, List.getElem?_toArray, List.getElem?_cons_succ, List.getElem?_cons_zero, Option.getD_some])
    refine h_done (by kernel_rfl) ?_
    go_wp2
    exact rfork_end HH.out hg hh hsz hcur o11 HS3 hws HR.out

end Go.Proofs.Ytoffkaojhcnddaa
