/- The law CacheNone. No condition. -/
import Derived.Test.YtokhbjllgaaogaaCLive
namespace Go.Proofs.Ytokhbjllgaaogaa
set_option linter.unusedSimpArgs false
open Go.RowKit Go.Maps
attribute [local irreducible] wpQuiet wpAnyH

/-- A deed as a value. -/
def deed (k f : Int) (b : Bool) (x : Int) : Array Value := #[.int .i64 k, .int .u32 f, .bool b, .int .i64 x]

set_option maxHeartbeats 8000000 in
set_option maxRecDepth 100000 in
theorem none_ok {w : World} {R : Ending → World → Prop} {k f x i : Int} {b : Bool} (hR : ∀ w', Fr No w w' → R (.returned (.bool true)) w') :
    Calls Try.prog 10 #[.agg (deed k f b x), .int .i64 i] w R := by
  have HR := hid hR
  have hb : (w.alloc (.cells (deed k f b x) 50)).heap[w.heap.size]? = some (.cells (deed k f b x) 50 (0, 0)) := heap_alloc_new w _
  have HC : Hid (∀ W, Fr No (w.alloc (.cells (deed k f b x) 50)) W → W.cell? ⟨w.heap.size, 1, none⟩ = some (.int .u32 f) ∧ W.cell? ⟨w.heap.size, 3, none⟩ = some (.int .i64 x)) :=
    fun W h => ⟨cell_at (h.keep hb (fun h => h)) rfl, cell_at (h.keep hb (fun h => h)) rfl⟩
  have FW : Hid (Fr No w (w.alloc (.cells (deed k f b x) 50))) := (Fr.refl No w).alloc _
  have F0 := hid (Fr.refl No (w.alloc (.cells (deed k f b x) 50)))
  have c1 := (HC.out _ (Fr.refl No _)).1
  have c3 := (HC.out _ (Fr.refl No _)).2
  clear hR hb
  have hc : (i < 1) ∨ (¬ i < 1 ∧ 40 < i) ∨ (¬ i < 1 ∧ ¬ 40 < i) := by omega
  rcases hc with h1 | ⟨h1, h2⟩ | ⟨h1, h2⟩
  · have HN : Hid (i < 1 ∨ 40 < i) := .inl h1
    go_enter Try.func10, Try.ntmps10
    go_wp2_with (first
      | (go_at_call 12; refine put_nil ?_)
      | (go_at_call 16; refine next_nil ?_; intro w1 hf; have F1 := hid (F0.out.no hf); clear hf c1 c3; have c1 := (HC.out _ F1.out).1; have c3 := (HC.out _ F1.out).2)
      | (go_at_call 13; refine live_ok ?_; intro w2 hf; have F2 := hid (F1.out.no hf); clear hf c1 c3; have c1 := (HC.out _ F2.out).1; have c3 := (HC.out _ F2.out).2)
      | (go_at_call 26; refine touch_nil ?_)
      | (go_at_call 20; refine drop_nil ?_; intro w3 hf; have F3 := hid (F2.out.no hf); clear hf c1 c3; have c1 := (HC.out _ F3.out).1; have c3 := (HC.out _ F3.out).2)
      | (go_at_call 27; refine mark_nil ?_; intro w4 hf; have F4 := hid (F3.out.no hf); clear hf c1 c3; have c1 := (HC.out _ F4.out).1; have c3 := (HC.out _ F4.out).2)
      | (go_at_call 28; refine hoard_nil ?_)
      | (go_at_call 17; refine has_nil ?_; intro w5 hf; have F5 := hid (F4.out.no hf); clear hf c1 c3; have c1 := (HC.out _ F5.out).1; have c3 := (HC.out _ F5.out).2)
      | (go_at_call 19; refine dirty_nil ?_; intro w6 hf; have F6 := hid (F5.out.no hf); clear hf c1 c3; have c1 := (HC.out _ F6.out).1; have c3 := (HC.out _ F6.out).2)
      | (go_at_call 21; refine dear_nil ?_)
      | (go_at_call 14; refine list_nil ?_; intro w7 hf; have F7 := hid (F6.out.no hf); clear hf c1 c3; have c1 := (HC.out _ F7.out).1; have c3 := (HC.out _ F7.out).2)
      | (go_at_call 22; refine walk_nil ?_; intro w8 hf; have F8 := hid (F7.out.no hf); clear hf c1 c3; have c1 := (HC.out _ F8.out).1; have c3 := (HC.out _ F8.out).2)
      | (go_at_call 18; refine fork_nil ?_)
      | (go_at_call 11; refine new_no HN.out ?_; have F9 := F8)
      | (go_at_call 11; refine new_ok HO.out.1 HO.out.2 ?_; intro w9 p _ _ _ _ _ _ hf; have F9 := hid (F8.out.no hf); clear hf))
    exact HR.out _ (FW.out.no F9.out)
  · have HN : Hid (i < 1 ∨ 40 < i) := .inr h2
    go_enter Try.func10, Try.ntmps10
    go_wp2_with (first
      | (go_at_call 12; refine put_nil ?_)
      | (go_at_call 16; refine next_nil ?_; intro w1 hf; have F1 := hid (F0.out.no hf); clear hf c1 c3; have c1 := (HC.out _ F1.out).1; have c3 := (HC.out _ F1.out).2)
      | (go_at_call 13; refine live_ok ?_; intro w2 hf; have F2 := hid (F1.out.no hf); clear hf c1 c3; have c1 := (HC.out _ F2.out).1; have c3 := (HC.out _ F2.out).2)
      | (go_at_call 26; refine touch_nil ?_)
      | (go_at_call 20; refine drop_nil ?_; intro w3 hf; have F3 := hid (F2.out.no hf); clear hf c1 c3; have c1 := (HC.out _ F3.out).1; have c3 := (HC.out _ F3.out).2)
      | (go_at_call 27; refine mark_nil ?_; intro w4 hf; have F4 := hid (F3.out.no hf); clear hf c1 c3; have c1 := (HC.out _ F4.out).1; have c3 := (HC.out _ F4.out).2)
      | (go_at_call 28; refine hoard_nil ?_)
      | (go_at_call 17; refine has_nil ?_; intro w5 hf; have F5 := hid (F4.out.no hf); clear hf c1 c3; have c1 := (HC.out _ F5.out).1; have c3 := (HC.out _ F5.out).2)
      | (go_at_call 19; refine dirty_nil ?_; intro w6 hf; have F6 := hid (F5.out.no hf); clear hf c1 c3; have c1 := (HC.out _ F6.out).1; have c3 := (HC.out _ F6.out).2)
      | (go_at_call 21; refine dear_nil ?_)
      | (go_at_call 14; refine list_nil ?_; intro w7 hf; have F7 := hid (F6.out.no hf); clear hf c1 c3; have c1 := (HC.out _ F7.out).1; have c3 := (HC.out _ F7.out).2)
      | (go_at_call 22; refine walk_nil ?_; intro w8 hf; have F8 := hid (F7.out.no hf); clear hf c1 c3; have c1 := (HC.out _ F8.out).1; have c3 := (HC.out _ F8.out).2)
      | (go_at_call 18; refine fork_nil ?_)
      | (go_at_call 11; refine new_no HN.out ?_; have F9 := F8)
      | (go_at_call 11; refine new_ok HO.out.1 HO.out.2 ?_; intro w9 p _ _ _ _ _ _ hf; have F9 := hid (F8.out.no hf); clear hf))
    exact HR.out _ (FW.out.no F9.out)
  · have HO : Hid (1 ≤ i ∧ i ≤ 40) := ⟨by omega, by omega⟩
    go_enter Try.func10, Try.ntmps10
    go_wp2_with (first
      | (go_at_call 12; refine put_nil ?_)
      | (go_at_call 16; refine next_nil ?_; intro w1 hf; have F1 := hid (F0.out.no hf); clear hf c1 c3; have c1 := (HC.out _ F1.out).1; have c3 := (HC.out _ F1.out).2)
      | (go_at_call 13; refine live_ok ?_; intro w2 hf; have F2 := hid (F1.out.no hf); clear hf c1 c3; have c1 := (HC.out _ F2.out).1; have c3 := (HC.out _ F2.out).2)
      | (go_at_call 26; refine touch_nil ?_)
      | (go_at_call 20; refine drop_nil ?_; intro w3 hf; have F3 := hid (F2.out.no hf); clear hf c1 c3; have c1 := (HC.out _ F3.out).1; have c3 := (HC.out _ F3.out).2)
      | (go_at_call 27; refine mark_nil ?_; intro w4 hf; have F4 := hid (F3.out.no hf); clear hf c1 c3; have c1 := (HC.out _ F4.out).1; have c3 := (HC.out _ F4.out).2)
      | (go_at_call 28; refine hoard_nil ?_)
      | (go_at_call 17; refine has_nil ?_; intro w5 hf; have F5 := hid (F4.out.no hf); clear hf c1 c3; have c1 := (HC.out _ F5.out).1; have c3 := (HC.out _ F5.out).2)
      | (go_at_call 19; refine dirty_nil ?_; intro w6 hf; have F6 := hid (F5.out.no hf); clear hf c1 c3; have c1 := (HC.out _ F6.out).1; have c3 := (HC.out _ F6.out).2)
      | (go_at_call 21; refine dear_nil ?_)
      | (go_at_call 14; refine list_nil ?_; intro w7 hf; have F7 := hid (F6.out.no hf); clear hf c1 c3; have c1 := (HC.out _ F7.out).1; have c3 := (HC.out _ F7.out).2)
      | (go_at_call 22; refine walk_nil ?_; intro w8 hf; have F8 := hid (F7.out.no hf); clear hf c1 c3; have c1 := (HC.out _ F8.out).1; have c3 := (HC.out _ F8.out).2)
      | (go_at_call 18; refine fork_nil ?_)
      | (go_at_call 11; refine new_no HN.out ?_; have F9 := F8)
      | (go_at_call 11; refine new_ok HO.out.1 HO.out.2 ?_; intro w9 p _ _ _ _ _ _ hf; have F9 := hid (F8.out.no hf); clear hf))
    show R (.returned (.bool (!decide (i < 1) && !decide (40 < i)))) w9
    rw [decide_eq_false (show ¬ i < 1 by omega), decide_eq_false (show ¬ 40 < i by omega)]
    exact HR.out _ (FW.out.no F9.out)

end Go.Proofs.Ytokhbjllgaaogaa
