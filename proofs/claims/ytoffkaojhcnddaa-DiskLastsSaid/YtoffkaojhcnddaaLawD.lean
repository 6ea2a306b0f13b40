/- The law's helper do: one deed on both disks. No condition beside that both lie there. -/
import Derived.Test.YtoffkaojhcnddaaLawC
namespace Go.Proofs.Ytoffkaojhcnddaa
set_option linter.unusedSimpArgs false
open Go.RowKit Go.Maps
attribute [local irreducible] wpQuiet wpAnyH

theorem fieldE1 (b : Nat) (W : World) : (Instr.fieldAt 32 (.pointer (some ⟨b, 0, none⟩)) 1).run Try.prog W = .ok (.pointer (some ⟨b, 1, none⟩)) W := by kernel_rfl
theorem fieldE2 (b : Nat) (W : World) : (Instr.fieldAt 32 (.pointer (some ⟨b, 0, none⟩)) 2).run Try.prog W = .ok (.pointer (some ⟨b, 2, none⟩)) W := by kernel_rfl
theorem fieldE3 (b : Nat) (W : World) : (Instr.fieldAt 32 (.pointer (some ⟨b, 0, none⟩)) 3).run Try.prog W = .ok (.pointer (some ⟨b, 3, none⟩)) W := by kernel_rfl
theorem byteU : Try.prog.underlying 5 = some (.int .u8) := by kernel_rfl
theorem eqlCode (e : Int) (W : World) : (binOp .eql 33 (.int .i64 e) (.int .i64 e)).run Try.prog W = .ok (.bool true) W := by
  have h : (binOp .eql 33 (.int .i64 e) (.int .i64 e)).run Try.prog W = .ok (.bool (e == e)) W := by kernel_rfl
  rw [h]; simp

variable {B : Nat} {w : World} {p q n bs bm : Nat} {l l2 : List (Int × Array Value)} {s s2 : Nat → Array Value} {R : Ending → World → Prop} {i : Int} {c : Array Value} {e : Int}

/-- A deed as a value. -/
def deed (k a x : Int) (ks : Value) : Array Value := #[.int .i64 k, .int .i64 a, .int .u8 x, ks]

theorem Two.notSS (T : Two B w p q n bs bm l s l2 s2) : ¬ SS p bs bm q w.heap.size := fun h => Nat.lt_irrefl _ (T.lo _ h).2

set_option maxHeartbeats 4000000 in
set_option maxRecDepth 100000 in
theorem do_ok (T : Two B w p q n bs bm l s l s) {k a x : Int} {ks : Value} {m : Nat} {xs : List Int} (hx0 : 0 ≤ x) (hx1 : x < 256) (hks : RowsAt (Up B) w ks m 1 (ints xs)) (hm : m < 9223372036854775808)
    (hR : ∀ w' l' s', Two B w' p q n bs bm l' s' l' s' → Fr (SS p bs bm q) w w' → R (.returned (.bool true)) w') :
    Calls Try.prog 22 #[.pointer (some ⟨p, 0, none⟩), .pointer (some ⟨q, 0, none⟩), .agg (deed k a x ks)] w R := by
  have HR := hid hR
  have HX := hid (secOf_is hx0 hx1)
  have HX0 := hid (And.intro hx0 hx1)
  have F0 : Hid (Fr No w (w.alloc (.cells (deed k a x ks) 32))) := (Fr.refl No w).alloc _
  have T0 : Hid (Two B (w.alloc (.cells (deed k a x ks) 32)) p q n bs bm l s l s) := T.no F0.out
  have K0 : Hid (RowsAt (Up B) (w.alloc (.cells (deed k a x ks) 32)) ks m 1 (ints xs)) := hks.no F0.out
  have NB := hid T.notSS
  have hb : (w.alloc (.cells (deed k a x ks) 32)).heap[w.heap.size]? = some (.cells (deed k a x ks) 32 (0, 0)) := heap_alloc_new w _
  have c0 : (w.alloc (.cells (deed k a x ks) 32)).cell? ⟨w.heap.size, 0, none⟩ = some (.int .i64 k) := cell_at hb rfl
  have HB := hid hb
  clear hR T hks hb
  go_enter Try.func22, Try.ntmps22
  by_cases k0 : k = 0
  · subst k0
    go_wp2
    refine region_held (n := 16) (fun W => W.heap[w.heap.size]? = some (.cells (deed 0 a x ks) 32 (0, 0))) follows (by kernel_rfl) ?_
    have HS : (fun W : World => W.heap[w.heap.size]? = some (.cells (deed 0 a x ks) 32 (0, 0))) (w.alloc (.cells (deed 0 a x ks) 32)).drew := HB.out
    (refine h_val 0 rfl (by kernel_rfl) (by kernel_rfl) (by kernel_rfl) (fun _ _ _ h => h) HS (by kernel_rfl) (fun W _ => run_move rfl rfl W) ?_; simp only [Act.put, Act.eval, Array.getD_eq_getD_getElem?, List.setIfInBounds_toArray, List.set_cons_succ, List.set_cons_zero, List.getElem?_toArray, List.getElem?_cons_succ, List.getElem?_cons_zero, Option.getD_some])
    (refine h_val 1 rfl (by kernel_rfl) (by kernel_rfl) (by kernel_rfl) (fun _ _ _ h => h) HS (by kernel_rfl) (fun W _ => run_field rfl rfl (fieldE1 w.heap.size) W) ?_; simp only [Act.put, Act.eval, Array.getD_eq_getD_getElem?, List.setIfInBounds_toArray, List.set_cons_succ, List.set_cons_zero, List.getElem?_toArray, List.getElem?_cons_succ, List.getElem?_cons_zero, Option.getD_some])
    (refine h_val (v := .int .i64 a) 2 rfl (by kernel_rfl) (by kernel_rfl) (by kernel_rfl) (fun _ _ _ h => h) HS (by kernel_rfl) (fun W hW => run_loadv rfl rfl (var_cell intU rfl (cell_at hW rfl))) ?_; simp only [Act.put, Act.eval, Array.getD_eq_getD_getElem?, List.setIfInBounds_toArray, List.set_cons_succ, List.set_cons_zero, List.getElem?_toArray, List.getElem?_cons_succ, List.getElem?_cons_zero, Option.getD_some])
    (refine h_val 3 rfl (by kernel_rfl) (by kernel_rfl) (by kernel_rfl) (fun _ _ _ h => h) HS (by kernel_rfl) (fun W _ => run_field rfl rfl (fieldE2 w.heap.size) W) ?_; simp only [Act.put, Act.eval, Array.getD_eq_getD_getElem?, List.setIfInBounds_toArray, List.set_cons_succ, List.set_cons_zero, List.getElem?_toArray, List.getElem?_cons_succ, List.getElem?_cons_zero, Option.getD_some])
    (refine h_val (v := .int .u8 x) 4 rfl (by kernel_rfl) (by kernel_rfl) (by kernel_rfl) (fun _ _ _ h => h) HS (by kernel_rfl) (fun W hW => run_loadv rfl rfl (var_cell byteU rfl (cell_at hW rfl))) ?_; simp only [Act.put, Act.eval, Array.getD_eq_getD_getElem?, List.setIfInBounds_toArray, List.set_cons_succ, List.set_cons_zero, List.getElem?_toArray, List.getElem?_cons_succ, List.getElem?_cons_zero, Option.getD_some])
    (refine h_val 7 rfl (by kernel_rfl) (by kernel_rfl) (by kernel_rfl) (fun _ _ _ h => h) HS (by kernel_rfl) (fun W _ => run_move rfl rfl W) ?_; simp only [Act.put, Act.eval, Array.getD_eq_getD_getElem?, List.setIfInBounds_toArray, List.set_cons_succ, List.set_cons_zero, List.getElem?_toArray, List.getElem?_cons_succ, List.getElem?_cons_zero, Option.getD_some])
    (refine h_val 8 rfl (by kernel_rfl) (by kernel_rfl) (by kernel_rfl) (fun _ _ _ h => h) HS (by kernel_rfl) (fun W _ => run_field rfl rfl (fieldE1 w.heap.size) W) ?_; simp only [Act.put, Act.eval, Array.getD_eq_getD_getElem?, List.setIfInBounds_toArray, List.set_cons_succ, List.set_cons_zero, List.getElem?_toArray, List.getElem?_cons_succ, List.getElem?_cons_zero, Option.getD_some])
    (refine h_val (v := .int .i64 a) 9 rfl (by kernel_rfl) (by kernel_rfl) (by kernel_rfl) (fun _ _ _ h => h) HS (by kernel_rfl) (fun W hW => run_loadv rfl rfl (var_cell intU rfl (cell_at hW rfl))) ?_; simp only [Act.put, Act.eval, Array.getD_eq_getD_getElem?, List.setIfInBounds_toArray, List.set_cons_succ, List.set_cons_zero, List.getElem?_toArray, List.getElem?_cons_succ, List.getElem?_cons_zero, Option.getD_some])
    (refine h_val 10 rfl (by kernel_rfl) (by kernel_rfl) (by kernel_rfl) (fun _ _ _ h => h) HS (by kernel_rfl) (fun W _ => run_field rfl rfl (fieldE2 w.heap.size) W) ?_; simp only [Act.put, Act.eval, Array.getD_eq_getD_getElem?, List.setIfInBounds_toArray, List.set_cons_succ, List.set_cons_zero, List.getElem?_toArray, List.getElem?_cons_succ, List.getElem?_cons_zero, Option.getD_some])
    (refine h_val (v := .int .u8 x) 11 rfl (by kernel_rfl) (by kernel_rfl) (by kernel_rfl) (fun _ _ _ h => h) HS (by kernel_rfl) (fun W hW => run_loadv rfl rfl (var_cell byteU rfl (cell_at hW rfl))) ?_; simp only [Act.put, Act.eval, Array.getD_eq_getD_getElem?, List.setIfInBounds_toArray, List.set_cons_succ, List.set_cons_zero, List.getElem?_toArray, List.getElem?_cons_succ, List.getElem?_cons_zero, Option.getD_some])
    refine h_call (args := #[.int .u8 x]) 5 (by kernel_rfl) rfl (by kernel_rfl) (run_callf1 (g := 13) (v := .int .u8 x) (fun _ _ => by kernel_rfl) rfl rfl _) ?_
    refine sector_ok HX0.out.1 HX0.out.2 ?_
    intro w1 hf1
    have T1 := T0.out.no (((Fr.refl No _).drew).no hf1)
    have HF1 : Fr (SS p bs bm q) w w1 := (F0.out.any.drew).no hf1
    have HS1 := hf1.keep HS (fun h => h)
    clear HS
    have HS := HS1
    refine ⟨HS, ?_⟩
    clear HS1
    simp only [Act.put, Act.eval, Array.getD_eq_getD_getElem?, List.setIfInBounds_toArray, List.set_cons_succ, List.set_cons_zero, List.getElem?_toArray, List.getElem?_cons_succ, List.getElem?_cons_zero, Option.getD_some]
    refine h_call (args := #[.pointer (some ⟨p, 0, none⟩), .int .i64 a, .agg (secOf x)]) 6 (by kernel_rfl) rfl (by kernel_rfl) (run_callf3 (g := 12) (v := .pointer (some ⟨p, 0, none⟩)) (z := .int .i64 a) (y := .agg (secOf x)) (fun _ _ => by kernel_rfl) rfl rfl rfl rfl _) ?_
    refine two_write' T1 HX.out ?_
    intro w2 T2 hf2
    have HF2 := HF1.trans hf2 (fun _ h => .inl h)
    have HS1 := hf2.keep HS NB.out
    clear HS
    have HS := HS1
    refine ⟨HS, ?_⟩
    clear HS1
    simp only [Act.put, Act.eval, Array.getD_eq_getD_getElem?, List.setIfInBounds_toArray, List.set_cons_succ, List.set_cons_zero, List.getElem?_toArray, List.getElem?_cons_succ, List.getElem?_cons_zero, Option.getD_some]
    refine h_call (args := #[.int .u8 x]) 12 (by kernel_rfl) rfl (by kernel_rfl) (run_callf1 (g := 13) (v := .int .u8 x) (fun _ _ => by kernel_rfl) rfl rfl _) ?_
    refine sector_ok HX0.out.1 HX0.out.2 ?_
    intro w3 hf3
    have T3 := T2.no hf3
    have HF3 := HF2.no hf3
    have HS1 := hf3.keep HS (fun h => h)
    clear HS
    have HS := HS1
    refine ⟨HS, ?_⟩
    clear HS1
    simp only [Act.put, Act.eval, Array.getD_eq_getD_getElem?, List.setIfInBounds_toArray, List.set_cons_succ, List.set_cons_zero, List.getElem?_toArray, List.getElem?_cons_succ, List.getElem?_cons_zero, Option.getD_some]
    refine h_call (args := #[.pointer (some ⟨q, 0, none⟩), .int .i64 a, .agg (secOf x)]) 13 (by kernel_rfl) rfl (by kernel_rfl) (run_callf3 (g := 15) (v := .pointer (some ⟨q, 0, none⟩)) (z := .int .i64 a) (y := .agg (secOf x)) (fun _ _ => by kernel_rfl) rfl rfl rfl rfl _) ?_
    refine two_writeR' T3 HX.out ?_
    intro w4 T4 hf4
    have HF4 := HF3.trans hf4 (fun _ h => .inl h)
    have HS1 := hf4.keep HS NB.out
    clear HS
    have HS := HS1
    refine ⟨HS, ?_⟩
    clear HS1
    simp only [Act.put, Act.eval, Array.getD_eq_getD_getElem?, List.setIfInBounds_toArray, List.set_cons_succ, List.set_cons_zero, List.getElem?_toArray, List.getElem?_cons_succ, List.getElem?_cons_zero, Option.getD_some]
    (refine h_val (v := .bool true) 14 rfl (by kernel_rfl) (by kernel_rfl) (by kernel_rfl) (fun _ _ _ h => h) HS (by kernel_rfl) (fun W _ => run_bin rfl rfl rfl (eqlCode _ W)) ?_; simp only [Act.put, Act.eval, Array.getD_eq_getD_getElem?, List.setIfInBounds_toArray, List.set_cons_succ, List.set_cons_zero, List.getElem?_toArray, List.getElem?_cons_succ, List.getElem?_cons_zero, Option.getD_some])
    (refine h_val 15 rfl (by kernel_rfl) (by kernel_rfl) (by kernel_rfl) (fun _ _ _ h => h) HS (by kernel_rfl) (fun W _ => run_assign rfl rfl W) ?_; simp only [Act.put, Act.eval, Array.getD_eq_getD_getElem?, List.setIfInBounds_toArray, List.set_cons_succ, List.set_cons_zero, List.getElem?_toArray, List.getElem?_cons_succ, List.getElem?_cons_zero, Option.getD_some])
    refine h_done (by kernel_rfl) ?_
    have fin := hid (HR.out w4 _ _ T4 HF4)
    clear HS T1 T2 T3 T4 HF1 HF2 HF3 HF4 hf1 hf2 hf3 hf4
    go_wp2
    exact fin.out
  by_cases k1 : k = 1
  · subst k1
    go_wp2_with (first
      | (go_at_call 16; refine two_flush T0.out ?_; intro w1 t1 hf1; have T1 := hid t1; have HF1 : Hid (Fr (SS p bs bm q) w w1) := F0.out.any.trans hf1 (fun _ h => .inl h); clear t1 hf1)
      | (go_at_call 17; refine two_flushR T1.out ?_; intro w2 t2 hf2; have T2 := hid t2; have HF2 : Hid (Fr (SS p bs bm q) w w2) := HF1.out.trans hf2 (fun _ h => .inl h); clear t2 hf2))
    exact HR.out _ _ _ T2.out HF2.out
  by_cases k2 : k = 2
  · subst k2
    obtain ⟨_, ka, kc, hkv, _⟩ := id K0.out
    have hks : ks = .slice ka m kc := hkv
    subst hks
    go_wp2
    refine region_held (n := 10) (fun W => W.heap[w.heap.size]? = some (.cells (deed 2 a x (.slice ka m kc)) 32 (0, 0))) follows (by kernel_rfl) ?_
    have HS : (fun W : World => W.heap[w.heap.size]? = some (.cells (deed 2 a x (.slice ka m kc)) 32 (0, 0))) (w.alloc (.cells (deed 2 a x (.slice ka m kc)) 32)).drew := HB.out
    (refine h_val 0 rfl (by kernel_rfl) (by kernel_rfl) (by kernel_rfl) (fun _ _ _ h => h) HS (by kernel_rfl) (fun W _ => run_move rfl rfl W) ?_; simp only [Act.put, Act.eval, Array.getD_eq_getD_getElem?, List.setIfInBounds_toArray, List.set_cons_succ, List.set_cons_zero, List.getElem?_toArray, List.getElem?_cons_succ, List.getElem?_cons_zero, Option.getD_some])
    (refine h_val 1 rfl (by kernel_rfl) (by kernel_rfl) (by kernel_rfl) (fun _ _ _ h => h) HS (by kernel_rfl) (fun W _ => run_field rfl rfl (fieldE3 w.heap.size) W) ?_; simp only [Act.put, Act.eval, Array.getD_eq_getD_getElem?, List.setIfInBounds_toArray, List.set_cons_succ, List.set_cons_zero, List.getElem?_toArray, List.getElem?_cons_succ, List.getElem?_cons_zero, Option.getD_some])
    (refine h_val (v := .slice ka m kc) 2 rfl (by kernel_rfl) (by kernel_rfl) (by kernel_rfl) (fun _ _ _ h => h) HS (by kernel_rfl) (fun W hW => run_loadv rfl rfl (var_cell intsU rfl (cell_at hW rfl))) ?_; simp only [Act.put, Act.eval, Array.getD_eq_getD_getElem?, List.setIfInBounds_toArray, List.set_cons_succ, List.set_cons_zero, List.getElem?_toArray, List.getElem?_cons_succ, List.getElem?_cons_zero, Option.getD_some])
    (refine h_val 4 rfl (by kernel_rfl) (by kernel_rfl) (by kernel_rfl) (fun _ _ _ h => h) HS (by kernel_rfl) (fun W _ => run_move rfl rfl W) ?_; simp only [Act.put, Act.eval, Array.getD_eq_getD_getElem?, List.setIfInBounds_toArray, List.set_cons_succ, List.set_cons_zero, List.getElem?_toArray, List.getElem?_cons_succ, List.getElem?_cons_zero, Option.getD_some])
    (refine h_val 5 rfl (by kernel_rfl) (by kernel_rfl) (by kernel_rfl) (fun _ _ _ h => h) HS (by kernel_rfl) (fun W _ => run_field rfl rfl (fieldE3 w.heap.size) W) ?_; simp only [Act.put, Act.eval, Array.getD_eq_getD_getElem?, List.setIfInBounds_toArray, List.set_cons_succ, List.set_cons_zero, List.getElem?_toArray, List.getElem?_cons_succ, List.getElem?_cons_zero, Option.getD_some])
    (refine h_val (v := .slice ka m kc) 6 rfl (by kernel_rfl) (by kernel_rfl) (by kernel_rfl) (fun _ _ _ h => h) HS (by kernel_rfl) (fun W hW => run_loadv rfl rfl (var_cell intsU rfl (cell_at hW rfl))) ?_; simp only [Act.put, Act.eval, Array.getD_eq_getD_getElem?, List.setIfInBounds_toArray, List.set_cons_succ, List.set_cons_zero, List.getElem?_toArray, List.getElem?_cons_succ, List.getElem?_cons_zero, Option.getD_some])
    refine h_call (args := #[.pointer (some ⟨p, 0, none⟩), .slice ka m kc]) 3 (by kernel_rfl) rfl (by kernel_rfl) (run_callf2 (g := 19) (v := .pointer (some ⟨p, 0, none⟩)) (z := .slice ka m kc) (fun _ _ => by kernel_rfl) rfl rfl rfl _) ?_
    refine two_crash (T0.out.no ((Fr.refl No _).drew)) ((K0.out.no ((Fr.refl No _).drew)).mono fun b _ hb => (T0.out.lo b hb).1) hm ?_
    intro w1 T1 hf1
    have HF1 : Fr (SS p bs bm q) w w1 := (F0.out.any.drew).trans hf1 (fun _ h => .inl h)
    have K1 := (T0.out.no ((Fr.refl No _).drew)).keep hf1 (K0.out.no ((Fr.refl No _).drew))
    have HS1 := hf1.keep HS NB.out
    clear HS
    have HS := HS1
    refine ⟨HS, ?_⟩
    clear HS1
    simp only [Act.put, Act.eval, Array.getD_eq_getD_getElem?, List.setIfInBounds_toArray, List.set_cons_succ, List.set_cons_zero, List.getElem?_toArray, List.getElem?_cons_succ, List.getElem?_cons_zero, Option.getD_some]
    refine h_call (args := #[.pointer (some ⟨q, 0, none⟩), .slice ka m kc]) 7 (by kernel_rfl) rfl (by kernel_rfl) (run_callf2 (g := 40) (v := .pointer (some ⟨q, 0, none⟩)) (z := .slice ka m kc) (fun _ _ => by kernel_rfl) rfl rfl rfl _) ?_
    refine two_crashR T1 (K1.mono fun b _ hb => (T1.lo b hb).1) hm ?_
    intro w2 T2 hf2
    have HF2 := HF1.trans hf2 (fun _ h => .inl h)
    have HS1 := hf2.keep HS NB.out
    clear HS
    have HS := HS1
    refine ⟨HS, ?_⟩
    clear HS1
    simp only [Act.put, Act.eval, Array.getD_eq_getD_getElem?, List.setIfInBounds_toArray, List.set_cons_succ, List.set_cons_zero, List.getElem?_toArray, List.getElem?_cons_succ, List.getElem?_cons_zero, Option.getD_some]
    (refine h_val (v := .bool true) 8 rfl (by kernel_rfl) (by kernel_rfl) (by kernel_rfl) (fun _ _ _ h => h) HS (by kernel_rfl) (fun W _ => run_bin rfl rfl rfl (eqlCode _ W)) ?_; simp only [Act.put, Act.eval, Array.getD_eq_getD_getElem?, List.setIfInBounds_toArray, List.set_cons_succ, List.set_cons_zero, List.getElem?_toArray, List.getElem?_cons_succ, List.getElem?_cons_zero, Option.getD_some])
    (refine h_val 9 rfl (by kernel_rfl) (by kernel_rfl) (by kernel_rfl) (fun _ _ _ h => h) HS (by kernel_rfl) (fun W _ => run_assign rfl rfl W) ?_; simp only [Act.put, Act.eval, Array.getD_eq_getD_getElem?, List.setIfInBounds_toArray, List.set_cons_succ, List.set_cons_zero, List.getElem?_toArray, List.getElem?_cons_succ, List.getElem?_cons_zero, Option.getD_some])
    refine h_done (by kernel_rfl) ?_
    have fin := hid (HR.out w2 _ _ T2 HF2)
    clear HS T1 T2 K1 HF1 HF2 hf1 hf2
    go_wp2
    exact fin.out
  have e0 : (k == 0) = false := by simpa using k0
  have e1 : (k == 1) = false := by simpa using k1
  have e2 : (k == 2) = false := by simpa using k2
  go_wp2
  exact HR.out _ _ _ T0.out F0.out.any

end Go.Proofs.Ytoffkaojhcnddaa
