/- The disk: New; Read of no disk. No condition. -/
import Derived.Test.YtoffkaojhcnddaaRef7
namespace Go.Proofs.Ytoffkaojhcnddaa
set_option linter.unusedSimpArgs false
open Go.RowKit Go.Maps

theorem secInfo : ∃ it, Try.prog.info? 36 = some it ∧ it.zero = some (.agg Z32) ∧ it.size = 32 ∧ it.bytes = 32 := by
  have h : (Try.prog.info? 36).map (fun it => (it.zero, it.size, it.bytes)) = some (some (.agg Z32), 32, 32) := by kernel_rfl
  cases hq : Try.prog.info? 36 with
  | none => simp [hq] at h
  | some it => simp [hq] at h; exact ⟨it, rfl, h.1, h.2.1, h.2.2⟩

theorem wpList_mkSecsP {ops : Array Oper} {rest : List Oper} {o : Oper} {a : Act} {w : World} {Q : Exit → Act → World → Prop} {x y : Operand} {n : Nat} (hn : n ≤ 2048) (hg : o.guard = none) (ho : o.op = .makeSlice 60 x y)
    (hx : a.eval x = .int .i64 n) (hy : a.eval y = .int .i64 n) (h : wpList Try.prog ops Q rest (a.put o.dst (.slice (some ⟨w.heap.size, 0, none⟩) n n)) (w.alloc (.cells (madeCells Z32 (n * 32)) 36))) : wpList Try.prog ops Q (o :: rest) a w := by
  obtain ⟨it, h1, h2, h3, h4⟩ := secInfo
  refine wpList_ok hg ?_ h
  unfold execOp
  simp only [ho, hx, hy, Sem.run_bind, run_mkSecs secsU h1 h2 h3 h4 hn, Result.andThen_ok]
  rfl

set_option maxHeartbeats 1000000 in
set_option maxRecDepth 100000 in
theorem new_ok {n : Nat} {w : World} {R : Ending → World → Prop} (h1 : 1 ≤ n) (h2 : n ≤ 2048)
    (hR : ∀ w' p cap cs bs bm, DiskAt w' p n cap cs [] bs bm → (∀ i, i < n → sec cs i = Z32) → w.heap.size ≤ p → w.heap.size ≤ bs → w.heap.size ≤ bm → Fr No w w' → R (.returned (.pointer (some ⟨p, 0, none⟩))) w') :
    Calls Try.prog 24 #[.int .i64 n] w R := by
  have HR := hid hR
  clear hR
  have hn1 : ¬ (n : Int) < 1 := by omega
  have hn2 : ¬ (2048 : Int) < n := by omega
  have hmm := @run_makeMap Try.prog
  go_enter Try.func24, Try.ntmps24
  go_wp2_with (refine wpList_mkSecsP h2 rfl rfl rfl rfl ?_)
  obtain ⟨z1, z2, z3⟩ := zeroDisk (n := n)
  have hb : (w.alloc (.cells (madeCells Z32 (n * 32)) 36)).heap[w.heap.size]? = some (.cells (madeCells Z32 (n * 32)) 36 (0, 0)) := heap_alloc_new w _
  obtain ⟨w1, hw1⟩ : ∃ w1, w1 = w.alloc (.cells (madeCells Z32 (n * 32)) 36) := ⟨_, rfl⟩
  have hs1 : w1.heap.size = w.heap.size + 1 := by rw [hw1]; simp
  have M : MapAt Try.prog 3 .i64 Value.agg (w1.alloc (.map #[] 0)) w1.heap.size [] := ⟨World.ownsMap_made w1 Try.prog 3 heldElem, List.Pairwise.nil, fun _ h => by cases h⟩
  have F : Fr No w ((w1.alloc (.map #[] 0)).alloc (.cells #[.slice (some ⟨w.heap.size, 0, none⟩) n n, .map (some w1.heap.size)] 63)) := by rw [hw1]; exact (((Fr.refl No w).alloc _).alloc _).alloc _
  have hp : ((w1.alloc (.map #[] 0)).alloc (.cells #[.slice (some ⟨w.heap.size, 0, none⟩) n n, .map (some w1.heap.size)] 63)).heap[w1.heap.size + 1]? = some (.cells #[.slice (some ⟨w.heap.size, 0, none⟩) n n, .map (some w1.heap.size)] 63 (0, 0)) := heap_alloc2_new w1 _ _
  have fin := HR.out _ (w1.heap.size + 1) n (madeCells Z32 (n * 32)) w.heap.size w1.heap.size ⟨hp, alloc_keep (alloc_keep (by rw [hw1]; exact hb) _) _, z1, h2, z2, M.alloc _, (fun _ h => by cases h), (fun _ h => by cases h)⟩ z3 (by omega) (Nat.le_refl _) (by omega) F
  rw [hs1] at fin
  rw [hw1] at fin
  exact fin

set_option maxHeartbeats 400000 in
set_option maxRecDepth 100000 in
theorem read_nil {i : Int} {w : World} {R : Ending → World → Prop}
    (hR : ∀ w', Fr No w w' → R (.returned (.tuple #[.agg Z32, .int .i64 1])) w') :
    Calls Try.prog 14 #[.pointer none, .int .i64 i] w R := by
  have HR := hid hR
  clear hR
  go_enter Try.func14, Try.ntmps14
  go_wp2_with (first
    | (refine wpList_allocRow rfl rfl (zeroSec _) ?_)
    | (go_at_call 30; refine may_nil ?_)
    | (refine wpList_build0 rfl rfl (zeroSec _) sectorU (byteSize _) ?_)
    | (refine wpList_storeNew rfl rfl rfl rfl (heap_alloc_new w _) Z32_is.info rfl Z32_is.one (World.setRow_alloc_new _ _ _ _) ?_))
  exact bodyPost_ret (results_cell_tmp rfl rfl rfl (heap_alloc_new w _) sectorU Z32_is.info) rfl (HR.out _ ((Fr.refl No w).alloc _))

end Go.Proofs.Ytoffkaojhcnddaa
