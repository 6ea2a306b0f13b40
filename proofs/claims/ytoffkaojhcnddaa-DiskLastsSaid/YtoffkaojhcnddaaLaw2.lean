/- The law DiskNone. No condition. -/
import Derived.Test.YtoffkaojhcnddaaLaw1
namespace Go.Proofs.Ytoffkaojhcnddaa
set_option linter.unusedSimpArgs false
open Go.RowKit Go.Maps

theorem eqlSec {a b : Array Value} (ha : IsSec a) (hb : IsSec b) {r : Bool} (hr : r = true ↔ a = b) (W : World) : (binOp .eql 36 (.agg a) (.agg b)).run Try.prog W = .ok (.bool r) W :=
  run_bin_eql (run_eql_ints (q := .u8) sectorU (by kernel_rfl) (by kernel_rfl) (by kernel_rfl) a b ha.ints hb.ints ha.1 hb.1 hr W)

/-! ### Operations under a guard that holds -/

theorem wpList_okG {P : Program} {ops : Array Oper} {rest : List Oper} {o : Oper} {a : Act} {w w' : World} {Q : Exit → Act → World → Prop} {v : Value} (hw : Region.wanted o (yielded ops a.tmps) = true) (hrun : (execOp a.eval o).run P w = .ok (.value v) w')
    (h : wpList P ops Q rest (a.put o.dst v) w') : wpList P ops Q (o :: rest) a w :=
  wpList_step fun K hK => by
    rw [if_pos hw]
    unfold Oper.wp
    rw [hrun]
    exact hK _ _ h

theorem wpList_loadVarG {P : Program} {ops : Array Oper} {rest : List Oper} {o : Oper} {a : Act} {w : World} {Q : Exit → Act → World → Prop} {ty : TypeId} {x : Operand} {ad : Addr} {v : Value} (hw : Region.wanted o (yielded ops a.tmps) = true) (ho : o.op = .load ty x)
    (hx : a.eval x = .pointer (some ad)) (hv : (loadVar ty ad).run P w = .ok v w) (h : wpList P ops Q rest (a.put o.dst v) w) : wpList P ops Q (o :: rest) a w :=
  wpList_okG hw (run_loadv ho hx hv) h

theorem wpList_build0G {P : Program} {ops : Array Oper} {rest : List Oper} {o : Oper} {a : Act} {w : World} {Q : Exit → Act → World → Prop} {ty n e : TypeId} {z : Array Value} (hw : Region.wanted o (yielded ops a.tmps) = true) (ho : o.op = .build ty #[]) (hz : (zeroValue ty).run P w = .ok (.agg z) w)
    (hu : P.underlying ty = some (.array n e)) (he : ∃ k, (sizeOf e).run P w = .ok k w) (h : wpList P ops Q rest (a.put o.dst (.agg z)) w) : wpList P ops Q (o :: rest) a w :=
  wpList_okG hw (by
    obtain ⟨k, hk⟩ := he
    unfold execOp
    simp [ho, Instr.build, Sem.run_bind, hz, run_underlying hu w, hk, Instr.fill, Value.cells]) h

set_option maxHeartbeats 4000000 in
set_option maxRecDepth 100000 in
theorem none_ok {w : World} {R : Ending → World → Prop} {k a x i : Int} {ka : Option Addr} {km kc : Nat} (hR : ∀ w', Fr No w w' → R (.returned (.bool true)) w') :
    Calls Try.prog 8 #[.agg (deed k a x (.slice ka km kc)), .int .i64 i] w R := by
  have HR := hid hR
  have hb : (w.alloc (.cells (deed k a x (.slice ka km kc)) 32)).heap[w.heap.size]? = some (.cells (deed k a x (.slice ka km kc)) 32 (0, 0)) := heap_alloc_new w _
  have HC : Hid (∀ W, Fr No (w.alloc (.cells (deed k a x (.slice ka km kc)) 32)) W → W.cell? ⟨w.heap.size, 1, none⟩ = some (.int .i64 a) ∧ W.cell? ⟨w.heap.size, 3, none⟩ = some (.slice ka km kc)) :=
    fun W h => ⟨cell_at (h.keep hb (fun h => h)) rfl, cell_at (h.keep hb (fun h => h)) rfl⟩
  have F0 : Hid (Fr No w (w.alloc (.cells (deed k a x (.slice ka km kc)) 32))) := (Fr.refl No w).alloc _
  have c1 := (HC.out _ (Fr.refl No _)).1
  clear hR hb
  have hc : (i < 1) ∨ (¬ i < 1 ∧ 2048 < i) ∨ (∃ n : Nat, i = n ∧ ¬ (n : Int) < 1 ∧ ¬ 2048 < (n : Int) ∧ 1 ≤ n ∧ n ≤ 2048) := by
    by_cases h1 : i < 1
    · exact .inl h1
    · by_cases h2 : 2048 < i
      · exact .inr (.inl ⟨h1, h2⟩)
      · exact .inr (.inr ⟨i.toNat, by omega, by omega, by omega, by omega, by omega⟩)
  rcases hc with h1 | ⟨h1, h2⟩ | ⟨n, rfl, h1, h2, h3, h4⟩
  · have HN : Hid (i < 1 ∨ 2048 < i) := .inl h1
    go_enter Try.func8, Try.ntmps8
    go_wp2_with (first
      | (go_at_call 14; refine read_nil ?_; intro w1 hf; have F1 := hid hf; clear hf c1)
      | (refine wpList_allocRow rfl rfl (zeroSec _) ?_)
      | (refine wpList_storeNew (x := .tmp 6) rfl rfl rfl rfl (heap_alloc_new _ _) Z32_is.info rfl Z32_is.one (World.setRow_alloc_new _ _ _ _) ?_; have F2 := hid (F1.out.alloc (.cells Z32 36)); have B2 := hid (heap_alloc_new w1 (.cells Z32 36)))
      | (go_at_call 10; refine live_ok ?_; intro w2 hf; have F3 := hid (F2.out.no hf); have B3 := hid (hf.keep B2.out (fun h => h)); clear hf; have c1 := (HC.out _ F3.out).1)
      | (refine wpList_loadVarG (x := .tmp 6) (by kernel_rfl) rfl rfl (var_row B3.out sectorU Z32_is.info) ?_)
      | (go_at_call 12; refine write_nil ?_; intro w3 hf; have F4 := hid (F3.out.no hf); have B4 := hid (hf.keep B3.out (fun h => h)); clear hf c1; have c3 := (HC.out _ F4.out).2)
      | (refine wpList_loadVarG (x := .tmp 6) (by kernel_rfl) rfl rfl (var_row B4.out sectorU Z32_is.info) ?_)
      | (refine wpList_build0G (by kernel_rfl) rfl (zeroSec _) sectorU (byteSize _) ?_)
      | (refine wpList_okG (by kernel_rfl) (run_cmp_ints rfl rfl rfl noGuard (eqlSec Z32_is Z32_is (r := true) (by simp) _)) ?_)
      | (go_at_call 16; refine flush_nil ?_)
      | (go_at_call 19; refine crash_nil ?_; intro w4 hf; have F5 := hid (F4.out.no hf); clear hf c3)
      | (go_at_call 23; refine size_nil ?_)
      | (go_at_call 18; refine loose_nil ?_)
      | (go_at_call 20; refine fork_nil ?_)
      | (go_at_call 24; refine new_no HN.out ?_; have F6 := F5)
      | (go_at_call 24; refine new_ok HO.out.1 HO.out.2 ?_; intro w5 p _ _ _ _ _ _ _ _ _ hf; have F6 := hid (F5.out.no hf); clear hf))
    exact HR.out _ (F0.out.no F6.out)
  · have HN : Hid (i < 1 ∨ 2048 < i) := .inr h2
    go_enter Try.func8, Try.ntmps8
    go_wp2_with (first
      | (go_at_call 14; refine read_nil ?_; intro w1 hf; have F1 := hid hf; clear hf c1)
      | (refine wpList_allocRow rfl rfl (zeroSec _) ?_)
      | (refine wpList_storeNew (x := .tmp 6) rfl rfl rfl rfl (heap_alloc_new _ _) Z32_is.info rfl Z32_is.one (World.setRow_alloc_new _ _ _ _) ?_; have F2 := hid (F1.out.alloc (.cells Z32 36)); have B2 := hid (heap_alloc_new w1 (.cells Z32 36)))
      | (go_at_call 10; refine live_ok ?_; intro w2 hf; have F3 := hid (F2.out.no hf); have B3 := hid (hf.keep B2.out (fun h => h)); clear hf; have c1 := (HC.out _ F3.out).1)
      | (refine wpList_loadVarG (x := .tmp 6) (by kernel_rfl) rfl rfl (var_row B3.out sectorU Z32_is.info) ?_)
      | (go_at_call 12; refine write_nil ?_; intro w3 hf; have F4 := hid (F3.out.no hf); have B4 := hid (hf.keep B3.out (fun h => h)); clear hf c1; have c3 := (HC.out _ F4.out).2)
      | (refine wpList_loadVarG (x := .tmp 6) (by kernel_rfl) rfl rfl (var_row B4.out sectorU Z32_is.info) ?_)
      | (refine wpList_build0G (by kernel_rfl) rfl (zeroSec _) sectorU (byteSize _) ?_)
      | (refine wpList_okG (by kernel_rfl) (run_cmp_ints rfl rfl rfl noGuard (eqlSec Z32_is Z32_is (r := true) (by simp) _)) ?_)
      | (go_at_call 16; refine flush_nil ?_)
      | (go_at_call 19; refine crash_nil ?_; intro w4 hf; have F5 := hid (F4.out.no hf); clear hf c3)
      | (go_at_call 23; refine size_nil ?_)
      | (go_at_call 18; refine loose_nil ?_)
      | (go_at_call 20; refine fork_nil ?_)
      | (go_at_call 24; refine new_no HN.out ?_; have F6 := F5)
      | (go_at_call 24; refine new_ok HO.out.1 HO.out.2 ?_; intro w5 p _ _ _ _ _ _ _ _ _ hf; have F6 := hid (F5.out.no hf); clear hf))
    exact HR.out _ (F0.out.no F6.out)
  · have HO : Hid (1 ≤ n ∧ n ≤ 2048) := ⟨h3, h4⟩
    clear h3 h4
    go_enter Try.func8, Try.ntmps8
    go_wp2_with (first
      | (go_at_call 14; refine read_nil ?_; intro w1 hf; have F1 := hid hf; clear hf c1)
      | (refine wpList_allocRow rfl rfl (zeroSec _) ?_)
      | (refine wpList_storeNew (x := .tmp 6) rfl rfl rfl rfl (heap_alloc_new _ _) Z32_is.info rfl Z32_is.one (World.setRow_alloc_new _ _ _ _) ?_; have F2 := hid (F1.out.alloc (.cells Z32 36)); have B2 := hid (heap_alloc_new w1 (.cells Z32 36)))
      | (go_at_call 10; refine live_ok ?_; intro w2 hf; have F3 := hid (F2.out.no hf); have B3 := hid (hf.keep B2.out (fun h => h)); clear hf; have c1 := (HC.out _ F3.out).1)
      | (refine wpList_loadVarG (x := .tmp 6) (by kernel_rfl) rfl rfl (var_row B3.out sectorU Z32_is.info) ?_)
      | (go_at_call 12; refine write_nil ?_; intro w3 hf; have F4 := hid (F3.out.no hf); have B4 := hid (hf.keep B3.out (fun h => h)); clear hf c1; have c3 := (HC.out _ F4.out).2)
      | (refine wpList_loadVarG (x := .tmp 6) (by kernel_rfl) rfl rfl (var_row B4.out sectorU Z32_is.info) ?_)
      | (refine wpList_build0G (by kernel_rfl) rfl (zeroSec _) sectorU (byteSize _) ?_)
      | (refine wpList_okG (by kernel_rfl) (run_cmp_ints rfl rfl rfl noGuard (eqlSec Z32_is Z32_is (r := true) (by simp) _)) ?_)
      | (go_at_call 16; refine flush_nil ?_)
      | (go_at_call 19; refine crash_nil ?_; intro w4 hf; have F5 := hid (F4.out.no hf); clear hf c3)
      | (go_at_call 23; refine size_nil ?_)
      | (go_at_call 18; refine loose_nil ?_)
      | (go_at_call 20; refine fork_nil ?_)
      | (go_at_call 24; refine new_no HN.out ?_; have F6 := F5)
      | (go_at_call 24; refine new_ok HO.out.1 HO.out.2 ?_; intro w5 p _ _ _ _ _ _ _ _ _ hf; have F6 := hid (F5.out.no hf); clear hf))
    show R (.returned (.bool (!decide ((n : Int) < 1) && !decide (2048 < (n : Int))))) w5
    rw [decide_eq_false (show ¬ (n : Int) < 1 by omega), decide_eq_false (show ¬ 2048 < (n : Int) by omega)]
    exact HR.out _ (F0.out.no F6.out)

end Go.Proofs.Ytoffkaojhcnddaa
