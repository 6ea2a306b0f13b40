/- The law's helpers: sector, sameInts, same. No condition beside that both disks lie there. -/
import Derived.Test.YtoffkaojhcnddaaBoth
namespace Go.Proofs.Ytoffkaojhcnddaa
set_option linter.unusedSimpArgs false
open Go.RowKit Go.Maps
attribute [local irreducible] wpQuiet wpAnyH

theorem arrU : Try.prog.underlying 35 = some (.array 32 5) := by kernel_rfl
theorem arrI : (Try.prog.info? 35).map (·.size) = some 32 := by kernel_rfl
theorem zeroArr (w : World) : (zeroValue 35).run Try.prog w = .ok (.agg Z32) w := by kernel_rfl
theorem IsSec.ainfo {c : Array Value} (h : IsSec c) : (Try.prog.info? 35).map (·.size) = some c.size := by rw [h.1]; exact arrI

/-- A sector of one byte. -/
def secOf (x : Int) : Array Value := Array.replicate 32 (.int .u8 x)
theorem secOf_is {x : Int} (h0 : 0 ≤ x) (h1 : x < 256) : IsSec (secOf x) := ⟨by simp [secOf], fun v hv => by simp [secOf] at hv; exact ⟨x, h0, h1, hv⟩⟩

theorem results_cell {P : Program} {fn : Func} {p : Tmp} {ty : TypeId} {tmps : Array Value} {w : World} {g : Nat} {e : TypeId} {cs : Array Value} {fr : Nat × Nat} {n e' : TypeId} (h : fn.results = #[.cell p ty])
    (hp : tmps.getD p undef = .pointer (some ⟨g, 0, none⟩)) (hg : w.heap[g]? = some (.cells cs e fr)) (hu : P.underlying ty = some (.array n e')) (hi : (P.info? ty).map (·.size) = some cs.size) :
    (results fn tmps).run P w = .ok (.agg cs) w := by
  have hp' : tmps[p]?.getD undef = .pointer (some ⟨g, 0, none⟩) := by simpa using hp
  simp [results, h, hp', asAddr, run_loadVar_row w g e ty cs fr _ hg hu rfl hi]

theorem heap_set {w : World} {b o : Nat} {cs : Array Value} {t : TypeId} {fr : Nat × Nat} (h : w.heap[b]? = some (.cells cs t fr)) (v : Value) : (w.setCell ⟨b, o, none⟩ v).heap[b]? = some (.cells (cs.setIfInBounds o v) t fr) := by
  simp [World.setCell, Array.getElem?_modify, h]

set_option maxHeartbeats 1000000 in
set_option maxRecDepth 100000 in
theorem sector_ok {x : Int} {w : World} {R : Ending → World → Prop} (h0 : 0 ≤ x) (h1 : x < 256) (hR : ∀ w', Fr No w w' → R (.returned (.agg (secOf x))) w') :
    Calls Try.prog 13 #[.int .u8 x] w R := by
  have HR := hid hR
  have HX := hid (And.intro h0 h1)
  clear hR h0 h1
  go_enter Try.func13, Try.ntmps13
  go_wp2_with (refine wpList_allocRow rfl rfl (zeroArr _) ?_)
  go_loopw [3] (fun t3 wr => ∃ k cs, k ≤ 32 ∧ t3 = .int .i64 (k : Nat) ∧ Hid (wr.heap[w.heap.size]? = some (.cells cs 35 (0, 0)) ∧ cs.size = 32 ∧ (∀ j, j < k → cs[j]? = some (.int .u8 x)) ∧ Fr No w wr)) (fun t3 _ => 32 - (intOf t3).toNat)
  case atStart => exact ⟨0, Z32, Nat.zero_le _, rfl, heap_alloc_new w _, Z32_is.1, (fun j hj => by omega), (Fr.refl No w).alloc _⟩
  case round =>
    obtain ⟨k, cs, hk, rfl, hI⟩ := hrel
    have HI := hid hI.out
    clear hI
    by_cases hlt : k < 32
    · obtain ⟨u, hu⟩ : ∃ u, cs[k]? = some u := ⟨cs[k]'(by have := HI.out.2.1; omega), Array.getElem?_eq_getElem _⟩
      have q0 : wr.cell? ⟨w.heap.size, k, none⟩ = some u := cell_at HI.out.1 hu
      have q1 : wr.frozen? ⟨w.heap.size, k, none⟩ = false := by simp [World.frozen?, HI.out.1]
      go_wp2
      go_roundw
      case rel =>
        refine ⟨k + 1, cs.setIfInBounds k (.int .u8 x), by omega, by go_num, heap_set HI.out.1 _, by simp [HI.out.2.1], fun j hj => ?_, HI.out.2.2.2.setCell (.inr (Nat.le_refl _)) _⟩
        by_cases hjk : j = k
        · subst hjk; rw [Array.getElem?_setIfInBounds_self_of_lt (by have := HI.out.2.1; omega)]
        · rw [Array.getElem?_setIfInBounds_ne (by omega)]; exact HI.out.2.2.1 j (by omega)
      case measure => simp [intOf]; omega
    · obtain rfl : k = 32 := by omega
      have hcs : cs = secOf x := by
        refine Array.ext_getElem? fun j => ?_
        by_cases hj : j < 32
        · rw [HI.out.2.2.1 j hj]; simp [secOf, hj]
        · rw [Array.getElem?_eq_none (by have := HI.out.2.1; omega)]; simp [secOf]; omega
      subst hcs
      have hsc := secOf_is HX.out.1 HX.out.2
      go_wp2_with (first
        | (refine wpList_loadVar (x := .tmp 2) rfl rfl rfl (var_row HI.out.1 arrU hsc.ainfo) ?_)
        | (refine wpList_storeVar (x := .tmp 2) rfl rfl rfl rfl (run_storeVar_row _ _ _ _ _ _ HI.out.1 hsc.ainfo rfl hsc.one) ?_))
      refine bodyPost_ret (v := .agg (secOf x)) (results_cell rfl rfl (heap_setRow_at HI.out.1 _) arrU hsc.ainfo) rfl ?_
      exact HR.out _ (HI.out.2.2.2.setRow (.inr (Nat.le_refl _)) _)

set_option maxHeartbeats 1000000 in
set_option maxRecDepth 100000 in
theorem sameInts_ok {v v2 : Value} {n : Nat} {xs : List Int} {w : World} {R : Ending → World → Prop} (h1 : RowsAt No w v n 1 (ints xs)) (h2 : RowsAt No w v2 n 1 (ints xs)) (hn : n < 9223372036854775808) (hR : ∀ w', Fr No w w' → R (.returned (.bool true)) w') :
    Calls Try.prog 28 #[v, v2] w R := by
  have HR := hid hR
  clear hR
  obtain ⟨hl, a1, c1, rfl, hr1⟩ := h1
  obtain ⟨_, a2, c2, rfl, hr2⟩ := h2
  have HL := hid hl
  have HR1 := hid hr1
  have HR2 := hid hr2
  clear hl hr1 hr2
  go_enter Try.func28, Try.ntmps28
  go_wp2
  go_loopw [5] (fun t5 wr => ∃ k : Nat, k ≤ n ∧ t5 = .int .i64 k ∧ Hid (Fr No w wr)) (fun t5 _ => n - (intOf t5).toNat)
  case atStart => exact ⟨0, Nat.zero_le _, rfl, Fr.refl _ _⟩
  case round =>
    obtain ⟨k, hk, rfl, hf⟩ := hrel
    have HF := hid hf.out
    clear hf
    by_cases hlt : k < n
    · obtain ⟨y, hy⟩ : ∃ y, xs[k]? = some y := ⟨xs[k]'(by have := HL.out; simp at this; omega), List.getElem?_eq_getElem _⟩
      rcases HR1.out with h0 | ⟨b1, o1, rfl, _, hb1, hc1⟩
      · omega
      rcases HR2.out with h0 | ⟨b2, o2, rfl, _, hb2, hc2⟩
      · omega
      have q1 : Hid (∀ W, Fr No w W → W.cell? ⟨b1, o1 + k * 1, none⟩ = some (.int .i64 y)) := fun W h => (h.cell hb1 (fun h => h)).trans (by rw [Nat.mul_one]; exact hc1 k _ (by simp [hy]))
      have q2 : Hid (∀ W, Fr No w W → W.cell? ⟨b2, o2 + k * 1, none⟩ = some (.int .i64 y)) := fun W h => (h.cell hb2 (fun h => h)).trans (by rw [Nat.mul_one]; exact hc2 k _ (by simp [hy]))
      clear hc1 hc2 hb1 hb2 hy
      have hk0 : (0 : Int) ≤ k := by omega
      have hk1 : (k : Int) < n := by omega
      go_wp2
      refine region_quiet (Fr No w) follows (by kernel_rfl) (HF.out.drew) ?_
      (refine q_move (by kernel_rfl) rfl rfl ?_; simp only [Act.put, Act.eval, Array.getD_eq_getD_getElem?, List.setIfInBounds_toArray, List.set_cons_succ, List.set_cons_zero, List.getElem?_toArray, List.getElem?_cons_succ, List.getElem?_cons_zero, Option.getD_some])
      (refine q_move (by kernel_rfl) rfl rfl ?_; simp only [Act.put, Act.eval, Array.getD_eq_getD_getElem?, List.setIfInBounds_toArray, List.set_cons_succ, List.set_cons_zero, List.getElem?_toArray, List.getElem?_cons_succ, List.getElem?_cons_zero, Option.getD_some])
      refine q_index (m := o1 + k * 1) (by kernel_rfl) rfl rfl rfl intsU intI hk0 hk1 (by simp) ?_
      simp only [Act.put, Act.eval, Array.getD_eq_getD_getElem?, List.setIfInBounds_toArray, List.set_cons_succ, List.set_cons_zero, List.getElem?_toArray, List.getElem?_cons_succ, List.getElem?_cons_zero, Option.getD_some]
      (refine q_load (v := .int .i64 y) (by kernel_rfl) rfl rfl (fun W hW => var_cell intU rfl (q1.out W hW)) ?_; simp only [Act.put, Act.eval, Array.getD_eq_getD_getElem?, List.setIfInBounds_toArray, List.set_cons_succ, List.set_cons_zero, List.getElem?_toArray, List.getElem?_cons_succ, List.getElem?_cons_zero, Option.getD_some])
      (refine q_move (by kernel_rfl) rfl rfl ?_; simp only [Act.put, Act.eval, Array.getD_eq_getD_getElem?, List.setIfInBounds_toArray, List.set_cons_succ, List.set_cons_zero, List.getElem?_toArray, List.getElem?_cons_succ, List.getElem?_cons_zero, Option.getD_some])
      (refine q_move (by kernel_rfl) rfl rfl ?_; simp only [Act.put, Act.eval, Array.getD_eq_getD_getElem?, List.setIfInBounds_toArray, List.set_cons_succ, List.set_cons_zero, List.getElem?_toArray, List.getElem?_cons_succ, List.getElem?_cons_zero, Option.getD_some])
      refine q_index (m := o2 + k * 1) (by kernel_rfl) rfl rfl rfl intsU intI hk0 hk1 (by simp) ?_
      simp only [Act.put, Act.eval, Array.getD_eq_getD_getElem?, List.setIfInBounds_toArray, List.set_cons_succ, List.set_cons_zero, List.getElem?_toArray, List.getElem?_cons_succ, List.getElem?_cons_zero, Option.getD_some]
      (refine q_load (v := .int .i64 y) (by kernel_rfl) rfl rfl (fun W hW => var_cell intU rfl (q2.out W hW)) ?_; simp only [Act.put, Act.eval, Array.getD_eq_getD_getElem?, List.setIfInBounds_toArray, List.set_cons_succ, List.set_cons_zero, List.getElem?_toArray, List.getElem?_cons_succ, List.getElem?_cons_zero, Option.getD_some])
      refine q_bin (v := .bool (y != y)) (by kernel_rfl) rfl rfl rfl (fun W => by kernel_rfl) ?_
      simp only [Act.put, Act.eval, Array.getD_eq_getD_getElem?, List.setIfInBounds_toArray, List.set_cons_succ, List.set_cons_zero, List.getElem?_toArray, List.getElem?_cons_succ, List.getElem?_cons_zero, Option.getD_some]
      rw [show (y != y) = false by simp]
      refine wpQuiet_nil ?_
      intro w3 hw3
      have HW3 := hid hw3
      clear hw3
      go_wp2
      go_roundw
      case rel => exact ⟨k + 1, by omega, by go_num, HW3⟩
      case measure => simp [intOf]; omega
    · go_wp2
      exact HR.out _ HF.out

end Go.Proofs.Ytoffkaojhcnddaa
