/- The law's helper do: one deed on both caches. No condition beside that both lie there. -/
import Derived.Test.YtokhbjllgaaogaaCBoth
namespace Go.Proofs.Ytokhbjllgaaogaa
set_option linter.unusedSimpArgs false
open Go.RowKit Go.Maps
attribute [local irreducible] wpQuiet wpAnyH

/-- A deed as a value. -/
def deed9 (k f : Int) (b : Bool) (x : Int) : Array Value := #[.int .i64 k, .int .u32 f, .bool b, .int .i64 x]

structure D9 where
  k : Int
  f : Int
  b : Bool
  x : Int

/-- What a deed makes of a cache. -/
def step9 (n : Int) (s : St9) (d : D9) : St9 :=
  if d.k = 0 then putS n s.1 s.2.1 s.2.2 d.f else if d.k = 1 then touchS s.1 s.2.1 s.2.2 d.f else if d.k = 2 then dropS s.1 s.2.1 s.2.2 d.f
  else if d.k = 3 then markS s.1 s.2.1 s.2.2 d.f d.b else if d.k = 4 then hoardS s.1 s.2.1 s.2.2 d.f d.x else s

theorem eqlE {e : Int} (W : World) : (binOp .eql 28 (.int .i64 e) (.int .i64 e)).run Try.prog W = .ok (.bool true) W := by
  have h : (binOp .eql 28 (.int .i64 e) (.int .i64 e)).run Try.prog W = .ok (.bool (e == e)) W := by kernel_rfl
  rw [h]; simp
theorem run_eqB {o : Oper} {a : Act} {x y : Operand} {b : Bool} {t' : TypeId} (ho : o.op = .binOp .eql 4 x y t') (hx : a.eval x = .bool b) (hy : a.eval y = .bool b) (W : World) : (execOp a.eval o).run Try.prog W = .ok (.value (.bool true)) W := by
  unfold execOp
  have hg : eqGuard .eql 4 x y (.bool b) (.bool b) = pure () := rfl
  have hr : (binOp .eql 4 (.bool b) (.bool b)).run Try.prog W = .ok (.bool (b == b)) W := by kernel_rfl
  simp only [ho, hx, hy, hg, Sem.run_bind, Sem.run_pure, Result.andThen_ok, hr]
  simp

section
variable {B p q bh bd t : Nat} {w : World} {n k f y kd : Int} {x : Bool} {l : List (Int × Bool)} {dh dl : List (Int × Int)} {hl : HL} {vl vh : Value} {R : Ending → World → Prop}

set_option maxHeartbeats 4000000 in
set_option maxRecDepth 100000 in
theorem do_ok (T : TwoC B w p q n t l dh hl dl k bh bd vl vh) (ht : t < 1000) (hwf : (Lit.int .u32 f).wf = true)
    (hR : ∀ w' l dh vl vh, TwoC B w' p q n (t + 1) l dh (step9 n (hl, dl, k) ⟨kd, f, x, y⟩).1 (step9 n (hl, dl, k) ⟨kd, f, x, y⟩).2.1 (step9 n (hl, dl, k) ⟨kd, f, x, y⟩).2.2 bh bd vl vh → Fr (SB B p bh bd) w w' → R (.returned (.bool true)) w') :
    Calls Try.prog 25 #[.pointer (some ⟨p, 0, none⟩), .pointer (some ⟨q, 0, none⟩), .agg (deed9 kd f x y)] w R := by
  have HR := hid hR
  have HW := hid hwf
  have F0 : Hid (Fr (SB B p bh bd) w (w.alloc (.cells (deed9 kd f x y) 50))) := (Fr.refl _ w).alloc _
  have T0 : Hid (TwoC B (w.alloc (.cells (deed9 kd f x y) 50)) p q n t l dh hl dl k bh bd vl vh) := T.no ((Fr.refl No w).alloc _)
  have NB : Hid (¬ CacheS p bh bd w.heap.size) := fun h => Nat.lt_irrefl _ (T.c.lt _ h)
  have NSB : Hid (¬ SX p bh bd q vl w.heap.size) := fun h => Nat.lt_irrefl _ (T.sx h).2
  have XB : Hid (∀ b, SX p bh bd q vl b → SB B p bh bd b) := fun b h => (T.sx h).1
  have hb : (w.alloc (.cells (deed9 kd f x y) 50)).heap[w.heap.size]? = some (.cells (deed9 kd f x y) 50 (0, 0)) := heap_alloc_new w _
  have c0w : (w.alloc (.cells (deed9 kd f x y) 50)).cell? ⟨w.heap.size, 0, none⟩ = some (.int .i64 kd) := cell_at hb rfl
  have c1w : (w.alloc (.cells (deed9 kd f x y) 50)).cell? ⟨w.heap.size, 1, none⟩ = some (.int .u32 f) := cell_at hb rfl
  have HB := hid hb
  clear hR T hwf hb
  go_enter Try.func25, Try.ntmps25
  by_cases k0 : kd = 0
  · subst k0
    go_wp2_with (first
      | (go_at_call 12; have hc := T0.out; refine two_put hc ht HW.out ?_; intro w1 a1 e1 hf1 hsec; have HSEC := hid hsec; have c1 : w1.cell? ⟨w.heap.size, 1, none⟩ = some (.int .u32 f) := cell_at (hf1.keep HB.out NB.out) rfl; clear hsec hf1 hc c1w)
      | (go_at_call 50; have hc := HSEC.out; refine hc _ _ (Fr.refl _ _) ?_; intro w3 l3 dh3 vl3 vh3 T3 hf3; have HT3 := hid T3; have HF3 := hid hf3; clear T3 hf3 hc c1))
    exact HR.out _ _ _ _ _ (by rw [show step9 n (hl, dl, k) ⟨0, f, x, y⟩ = putS n hl dl k f from rfl]; exact HT3.out) (F0.out.trans HF3.out (fun b h => .inl (XB.out b h)))
  by_cases k1 : kd = 1
  · subst k1
    go_wp2
    have HS0 := hid (show (fun W : World => W.heap[w.heap.size]? = some (.cells (deed9 1 f x y) 50 (0, 0))) (w.alloc (.cells (deed9 1 f x y) 50)).drew from HB.out)
    have TD := hid (T0.out.no ((Fr.refl No _).drew))
    refine region_held (n := 10) (fun W : World => W.heap[w.heap.size]? = some (.cells (deed9 1 f x y) 50 (0, 0))) follows (by kernel_rfl) ?_
    have HS : (fun W : World => W.heap[w.heap.size]? = some (.cells (deed9 1 f x y) 50 (0, 0))) (w.alloc (.cells (deed9 1 f x y) 50)).drew := HB.out
    (refine h_val 0 rfl (by kernel_rfl) (by kernel_rfl) (by kernel_rfl) (fun _ _ _ h => h) HS (by kernel_rfl) (fun W _ => run_move rfl rfl W) ?_; simp only [Act.put, Act.eval, Array.getD_eq_getD_getElem?, List.setIfInBounds_toArray, List.set_cons_succ, List.set_cons_zero, List.getElem?_toArray, List.getElem?_cons_succ, List.getElem?_cons_zero, Option.getD_some])
    (refine h_val (v := .pointer (some ⟨w.heap.size, 1, none⟩)) 1 rfl (by kernel_rfl) (by kernel_rfl) (by kernel_rfl) (fun _ _ _ h => h) HS (by kernel_rfl) (fun W _ => run_field rfl rfl (fun _ => by kernel_rfl) W) ?_; simp only [Act.put, Act.eval, Array.getD_eq_getD_getElem?, List.setIfInBounds_toArray, List.set_cons_succ, List.set_cons_zero, List.getElem?_toArray, List.getElem?_cons_succ, List.getElem?_cons_zero, Option.getD_some])
    (refine h_val (v := .int .u32 f) 2 rfl (by kernel_rfl) (by kernel_rfl) (by kernel_rfl) (fun _ _ _ h => h) HS (by kernel_rfl) (fun W hW => run_loadv rfl rfl (var_cell fidU rfl (cell_at hW rfl))) ?_; simp only [Act.put, Act.eval, Array.getD_eq_getD_getElem?, List.setIfInBounds_toArray, List.set_cons_succ, List.set_cons_zero, List.getElem?_toArray, List.getElem?_cons_succ, List.getElem?_cons_zero, Option.getD_some])
    (refine h_val 4 rfl (by kernel_rfl) (by kernel_rfl) (by kernel_rfl) (fun _ _ _ h => h) HS (by kernel_rfl) (fun W _ => run_move rfl rfl W) ?_; simp only [Act.put, Act.eval, Array.getD_eq_getD_getElem?, List.setIfInBounds_toArray, List.set_cons_succ, List.set_cons_zero, List.getElem?_toArray, List.getElem?_cons_succ, List.getElem?_cons_zero, Option.getD_some])
    (refine h_val (v := .pointer (some ⟨w.heap.size, 1, none⟩)) 5 rfl (by kernel_rfl) (by kernel_rfl) (by kernel_rfl) (fun _ _ _ h => h) HS (by kernel_rfl) (fun W _ => run_field rfl rfl (fun _ => by kernel_rfl) W) ?_; simp only [Act.put, Act.eval, Array.getD_eq_getD_getElem?, List.setIfInBounds_toArray, List.set_cons_succ, List.set_cons_zero, List.getElem?_toArray, List.getElem?_cons_succ, List.getElem?_cons_zero, Option.getD_some])
    (refine h_val (v := .int .u32 f) 6 rfl (by kernel_rfl) (by kernel_rfl) (by kernel_rfl) (fun _ _ _ h => h) HS (by kernel_rfl) (fun W hW => run_loadv rfl rfl (var_cell fidU rfl (cell_at hW rfl))) ?_; simp only [Act.put, Act.eval, Array.getD_eq_getD_getElem?, List.setIfInBounds_toArray, List.set_cons_succ, List.set_cons_zero, List.getElem?_toArray, List.getElem?_cons_succ, List.getElem?_cons_zero, Option.getD_some])
    refine h_call (args := #[.pointer (some ⟨p, 0, none⟩), .int .u32 f]) 3 (by kernel_rfl) rfl (by kernel_rfl) (run_callf2 (g := 26) (v := .pointer (some ⟨p, 0, none⟩)) (z := .int .u32 f) (fun _ _ => by kernel_rfl) rfl rfl rfl _) ?_
    refine two_touch TD.out ht HW.out ?_
    intro w1 b1 hf1 hsec
    have HSEC := hid hsec
    have HF1 := hid hf1
    have HS1 := hf1.keep HS NB.out
    clear hsec hf1 HS
    have HS := HS1
    refine ⟨HS, ?_⟩
    clear HS1
    simp only [Act.put, Act.eval, Array.getD_eq_getD_getElem?, List.setIfInBounds_toArray, List.set_cons_succ, List.set_cons_zero, List.getElem?_toArray, List.getElem?_cons_succ, List.getElem?_cons_zero, Option.getD_some]
    refine h_call (args := #[.pointer (some ⟨q, 0, none⟩), .int .u32 f]) 7 (by kernel_rfl) rfl (by kernel_rfl) (run_callf2 (g := 51) (v := .pointer (some ⟨q, 0, none⟩)) (z := .int .u32 f) (fun _ _ => by kernel_rfl) rfl rfl rfl _) ?_
    refine HSEC.out _ _ (Fr.refl _ _) ?_
    intro w3 l3 dh3 vl3 vh3 T3 hf3
    have HT3 := hid T3
    have HF3 := hid hf3
    have HS1 := hf3.keep HS0.out NSB.out
    clear T3 hf3 HS
    have HS := HS1
    refine ⟨HS, ?_⟩
    clear HS1
    simp only [Act.put, Act.eval, Array.getD_eq_getD_getElem?, List.setIfInBounds_toArray, List.set_cons_succ, List.set_cons_zero, List.getElem?_toArray, List.getElem?_cons_succ, List.getElem?_cons_zero, Option.getD_some]
    (refine h_val (v := .bool true) 8 rfl (by kernel_rfl) (by kernel_rfl) (by kernel_rfl) (fun _ _ _ h => h) HS (by kernel_rfl) (fun W _ => run_eqB rfl rfl rfl W) ?_; simp only [Act.put, Act.eval, Array.getD_eq_getD_getElem?, List.setIfInBounds_toArray, List.set_cons_succ, List.set_cons_zero, List.getElem?_toArray, List.getElem?_cons_succ, List.getElem?_cons_zero, Option.getD_some])
    (refine h_val 9 rfl (by kernel_rfl) (by kernel_rfl) (by kernel_rfl) (fun _ _ _ h => h) HS (by kernel_rfl) (fun W _ => run_assign rfl rfl W) ?_; simp only [Act.put, Act.eval, Array.getD_eq_getD_getElem?, List.setIfInBounds_toArray, List.set_cons_succ, List.set_cons_zero, List.getElem?_toArray, List.getElem?_cons_succ, List.getElem?_cons_zero, Option.getD_some])
    refine h_done (by kernel_rfl) ?_
    go_wp2
    exact HR.out _ _ _ _ _ (by rw [show step9 n (hl, dl, k) ⟨1, f, x, y⟩ = touchS hl dl k f from rfl]; exact HT3.out) (F0.out.drew.trans HF3.out (fun b h => .inl (XB.out b h)))
  by_cases k2 : kd = 2
  · subst k2
    go_wp2
    have HS0 := hid (show (fun W : World => W.heap[w.heap.size]? = some (.cells (deed9 2 f x y) 50 (0, 0))) (w.alloc (.cells (deed9 2 f x y) 50)).drew from HB.out)
    have TD := hid (T0.out.no ((Fr.refl No _).drew))
    refine region_held (n := 10) (fun W : World => W.heap[w.heap.size]? = some (.cells (deed9 2 f x y) 50 (0, 0))) follows (by kernel_rfl) ?_
    have HS : (fun W : World => W.heap[w.heap.size]? = some (.cells (deed9 2 f x y) 50 (0, 0))) (w.alloc (.cells (deed9 2 f x y) 50)).drew := HB.out
    (refine h_val 0 rfl (by kernel_rfl) (by kernel_rfl) (by kernel_rfl) (fun _ _ _ h => h) HS (by kernel_rfl) (fun W _ => run_move rfl rfl W) ?_; simp only [Act.put, Act.eval, Array.getD_eq_getD_getElem?, List.setIfInBounds_toArray, List.set_cons_succ, List.set_cons_zero, List.getElem?_toArray, List.getElem?_cons_succ, List.getElem?_cons_zero, Option.getD_some])
    (refine h_val (v := .pointer (some ⟨w.heap.size, 1, none⟩)) 1 rfl (by kernel_rfl) (by kernel_rfl) (by kernel_rfl) (fun _ _ _ h => h) HS (by kernel_rfl) (fun W _ => run_field rfl rfl (fun _ => by kernel_rfl) W) ?_; simp only [Act.put, Act.eval, Array.getD_eq_getD_getElem?, List.setIfInBounds_toArray, List.set_cons_succ, List.set_cons_zero, List.getElem?_toArray, List.getElem?_cons_succ, List.getElem?_cons_zero, Option.getD_some])
    (refine h_val (v := .int .u32 f) 2 rfl (by kernel_rfl) (by kernel_rfl) (by kernel_rfl) (fun _ _ _ h => h) HS (by kernel_rfl) (fun W hW => run_loadv rfl rfl (var_cell fidU rfl (cell_at hW rfl))) ?_; simp only [Act.put, Act.eval, Array.getD_eq_getD_getElem?, List.setIfInBounds_toArray, List.set_cons_succ, List.set_cons_zero, List.getElem?_toArray, List.getElem?_cons_succ, List.getElem?_cons_zero, Option.getD_some])
    (refine h_val 4 rfl (by kernel_rfl) (by kernel_rfl) (by kernel_rfl) (fun _ _ _ h => h) HS (by kernel_rfl) (fun W _ => run_move rfl rfl W) ?_; simp only [Act.put, Act.eval, Array.getD_eq_getD_getElem?, List.setIfInBounds_toArray, List.set_cons_succ, List.set_cons_zero, List.getElem?_toArray, List.getElem?_cons_succ, List.getElem?_cons_zero, Option.getD_some])
    (refine h_val (v := .pointer (some ⟨w.heap.size, 1, none⟩)) 5 rfl (by kernel_rfl) (by kernel_rfl) (by kernel_rfl) (fun _ _ _ h => h) HS (by kernel_rfl) (fun W _ => run_field rfl rfl (fun _ => by kernel_rfl) W) ?_; simp only [Act.put, Act.eval, Array.getD_eq_getD_getElem?, List.setIfInBounds_toArray, List.set_cons_succ, List.set_cons_zero, List.getElem?_toArray, List.getElem?_cons_succ, List.getElem?_cons_zero, Option.getD_some])
    (refine h_val (v := .int .u32 f) 6 rfl (by kernel_rfl) (by kernel_rfl) (by kernel_rfl) (fun _ _ _ h => h) HS (by kernel_rfl) (fun W hW => run_loadv rfl rfl (var_cell fidU rfl (cell_at hW rfl))) ?_; simp only [Act.put, Act.eval, Array.getD_eq_getD_getElem?, List.setIfInBounds_toArray, List.set_cons_succ, List.set_cons_zero, List.getElem?_toArray, List.getElem?_cons_succ, List.getElem?_cons_zero, Option.getD_some])
    refine h_call (args := #[.pointer (some ⟨p, 0, none⟩), .int .u32 f]) 3 (by kernel_rfl) rfl (by kernel_rfl) (run_callf2 (g := 20) (v := .pointer (some ⟨p, 0, none⟩)) (z := .int .u32 f) (fun _ _ => by kernel_rfl) rfl rfl rfl _) ?_
    refine two_drop TD.out HW.out ?_
    intro w1 b1 hf1 hsec
    have HSEC := hid hsec
    have HF1 := hid hf1
    have HS1 := hf1.keep HS NB.out
    clear hsec hf1 HS
    have HS := HS1
    refine ⟨HS, ?_⟩
    clear HS1
    simp only [Act.put, Act.eval, Array.getD_eq_getD_getElem?, List.setIfInBounds_toArray, List.set_cons_succ, List.set_cons_zero, List.getElem?_toArray, List.getElem?_cons_succ, List.getElem?_cons_zero, Option.getD_some]
    refine h_call (args := #[.pointer (some ⟨q, 0, none⟩), .int .u32 f]) 7 (by kernel_rfl) rfl (by kernel_rfl) (run_callf2 (g := 52) (v := .pointer (some ⟨q, 0, none⟩)) (z := .int .u32 f) (fun _ _ => by kernel_rfl) rfl rfl rfl _) ?_
    refine HSEC.out _ _ (Fr.refl _ _) ?_
    intro w3 l3 dh3 vl3 vh3 T3 hf3
    have HT3 := hid T3
    have HF3 := hid hf3
    have HS1 := hf3.keep HS0.out NSB.out
    clear T3 hf3 HS
    have HS := HS1
    refine ⟨HS, ?_⟩
    clear HS1
    simp only [Act.put, Act.eval, Array.getD_eq_getD_getElem?, List.setIfInBounds_toArray, List.set_cons_succ, List.set_cons_zero, List.getElem?_toArray, List.getElem?_cons_succ, List.getElem?_cons_zero, Option.getD_some]
    (refine h_val (v := .bool true) 8 rfl (by kernel_rfl) (by kernel_rfl) (by kernel_rfl) (fun _ _ _ h => h) HS (by kernel_rfl) (fun W _ => run_bin rfl rfl rfl (eqlE W)) ?_; simp only [Act.put, Act.eval, Array.getD_eq_getD_getElem?, List.setIfInBounds_toArray, List.set_cons_succ, List.set_cons_zero, List.getElem?_toArray, List.getElem?_cons_succ, List.getElem?_cons_zero, Option.getD_some])
    (refine h_val 9 rfl (by kernel_rfl) (by kernel_rfl) (by kernel_rfl) (fun _ _ _ h => h) HS (by kernel_rfl) (fun W _ => run_assign rfl rfl W) ?_; simp only [Act.put, Act.eval, Array.getD_eq_getD_getElem?, List.setIfInBounds_toArray, List.set_cons_succ, List.set_cons_zero, List.getElem?_toArray, List.getElem?_cons_succ, List.getElem?_cons_zero, Option.getD_some])
    refine h_done (by kernel_rfl) ?_
    go_wp2
    exact HR.out _ _ _ _ _ (by rw [show step9 n (hl, dl, k) ⟨2, f, x, y⟩ = dropS hl dl k f from rfl]; exact HT3.out) (F0.out.drew.trans HF3.out (fun b h => .inl (XB.out b h)))
  by_cases k3 : kd = 3
  · subst k3
    go_wp2
    have HS0 := hid (show (fun W : World => W.heap[w.heap.size]? = some (.cells (deed9 3 f x y) 50 (0, 0))) (w.alloc (.cells (deed9 3 f x y) 50)).drew from HB.out)
    have TD := hid (T0.out.no ((Fr.refl No _).drew))
    refine region_held (n := 14) (fun W : World => W.heap[w.heap.size]? = some (.cells (deed9 3 f x y) 50 (0, 0))) follows (by kernel_rfl) ?_
    have HS : (fun W : World => W.heap[w.heap.size]? = some (.cells (deed9 3 f x y) 50 (0, 0))) (w.alloc (.cells (deed9 3 f x y) 50)).drew := HB.out
    (refine h_val 0 rfl (by kernel_rfl) (by kernel_rfl) (by kernel_rfl) (fun _ _ _ h => h) HS (by kernel_rfl) (fun W _ => run_move rfl rfl W) ?_; simp only [Act.put, Act.eval, Array.getD_eq_getD_getElem?, List.setIfInBounds_toArray, List.set_cons_succ, List.set_cons_zero, List.getElem?_toArray, List.getElem?_cons_succ, List.getElem?_cons_zero, Option.getD_some])
    (refine h_val (v := .pointer (some ⟨w.heap.size, 1, none⟩)) 1 rfl (by kernel_rfl) (by kernel_rfl) (by kernel_rfl) (fun _ _ _ h => h) HS (by kernel_rfl) (fun W _ => run_field rfl rfl (fun _ => by kernel_rfl) W) ?_; simp only [Act.put, Act.eval, Array.getD_eq_getD_getElem?, List.setIfInBounds_toArray, List.set_cons_succ, List.set_cons_zero, List.getElem?_toArray, List.getElem?_cons_succ, List.getElem?_cons_zero, Option.getD_some])
    (refine h_val (v := .int .u32 f) 2 rfl (by kernel_rfl) (by kernel_rfl) (by kernel_rfl) (fun _ _ _ h => h) HS (by kernel_rfl) (fun W hW => run_loadv rfl rfl (var_cell fidU rfl (cell_at hW rfl))) ?_; simp only [Act.put, Act.eval, Array.getD_eq_getD_getElem?, List.setIfInBounds_toArray, List.set_cons_succ, List.set_cons_zero, List.getElem?_toArray, List.getElem?_cons_succ, List.getElem?_cons_zero, Option.getD_some])
    (refine h_val (v := .pointer (some ⟨w.heap.size, 2, none⟩)) 3 rfl (by kernel_rfl) (by kernel_rfl) (by kernel_rfl) (fun _ _ _ h => h) HS (by kernel_rfl) (fun W _ => run_field rfl rfl (fun _ => by kernel_rfl) W) ?_; simp only [Act.put, Act.eval, Array.getD_eq_getD_getElem?, List.setIfInBounds_toArray, List.set_cons_succ, List.set_cons_zero, List.getElem?_toArray, List.getElem?_cons_succ, List.getElem?_cons_zero, Option.getD_some])
    (refine h_val (v := .bool x) 4 rfl (by kernel_rfl) (by kernel_rfl) (by kernel_rfl) (fun _ _ _ h => h) HS (by kernel_rfl) (fun W hW => run_loadv rfl rfl (var_cell boolU rfl (cell_at hW rfl))) ?_; simp only [Act.put, Act.eval, Array.getD_eq_getD_getElem?, List.setIfInBounds_toArray, List.set_cons_succ, List.set_cons_zero, List.getElem?_toArray, List.getElem?_cons_succ, List.getElem?_cons_zero, Option.getD_some])
    (refine h_val 6 rfl (by kernel_rfl) (by kernel_rfl) (by kernel_rfl) (fun _ _ _ h => h) HS (by kernel_rfl) (fun W _ => run_move rfl rfl W) ?_; simp only [Act.put, Act.eval, Array.getD_eq_getD_getElem?, List.setIfInBounds_toArray, List.set_cons_succ, List.set_cons_zero, List.getElem?_toArray, List.getElem?_cons_succ, List.getElem?_cons_zero, Option.getD_some])
    (refine h_val (v := .pointer (some ⟨w.heap.size, 1, none⟩)) 7 rfl (by kernel_rfl) (by kernel_rfl) (by kernel_rfl) (fun _ _ _ h => h) HS (by kernel_rfl) (fun W _ => run_field rfl rfl (fun _ => by kernel_rfl) W) ?_; simp only [Act.put, Act.eval, Array.getD_eq_getD_getElem?, List.setIfInBounds_toArray, List.set_cons_succ, List.set_cons_zero, List.getElem?_toArray, List.getElem?_cons_succ, List.getElem?_cons_zero, Option.getD_some])
    (refine h_val (v := .int .u32 f) 8 rfl (by kernel_rfl) (by kernel_rfl) (by kernel_rfl) (fun _ _ _ h => h) HS (by kernel_rfl) (fun W hW => run_loadv rfl rfl (var_cell fidU rfl (cell_at hW rfl))) ?_; simp only [Act.put, Act.eval, Array.getD_eq_getD_getElem?, List.setIfInBounds_toArray, List.set_cons_succ, List.set_cons_zero, List.getElem?_toArray, List.getElem?_cons_succ, List.getElem?_cons_zero, Option.getD_some])
    (refine h_val (v := .pointer (some ⟨w.heap.size, 2, none⟩)) 9 rfl (by kernel_rfl) (by kernel_rfl) (by kernel_rfl) (fun _ _ _ h => h) HS (by kernel_rfl) (fun W _ => run_field rfl rfl (fun _ => by kernel_rfl) W) ?_; simp only [Act.put, Act.eval, Array.getD_eq_getD_getElem?, List.setIfInBounds_toArray, List.set_cons_succ, List.set_cons_zero, List.getElem?_toArray, List.getElem?_cons_succ, List.getElem?_cons_zero, Option.getD_some])
    (refine h_val (v := .bool x) 10 rfl (by kernel_rfl) (by kernel_rfl) (by kernel_rfl) (fun _ _ _ h => h) HS (by kernel_rfl) (fun W hW => run_loadv rfl rfl (var_cell boolU rfl (cell_at hW rfl))) ?_; simp only [Act.put, Act.eval, Array.getD_eq_getD_getElem?, List.setIfInBounds_toArray, List.set_cons_succ, List.set_cons_zero, List.getElem?_toArray, List.getElem?_cons_succ, List.getElem?_cons_zero, Option.getD_some])
    refine h_call (args := #[.pointer (some ⟨p, 0, none⟩), .int .u32 f, .bool x]) 5 (by kernel_rfl) rfl (by kernel_rfl) (run_callf3 (g := 27) (v := .pointer (some ⟨p, 0, none⟩)) (z := .int .u32 f) (y := .bool x) (fun _ _ => by kernel_rfl) rfl rfl rfl rfl _) ?_
    refine two_mark TD.out HW.out ?_
    intro w1 b1 hf1 hsec
    have HSEC := hid hsec
    have HF1 := hid hf1
    have HS1 := hf1.keep HS NB.out
    clear hsec hf1 HS
    have HS := HS1
    refine ⟨HS, ?_⟩
    clear HS1
    simp only [Act.put, Act.eval, Array.getD_eq_getD_getElem?, List.setIfInBounds_toArray, List.set_cons_succ, List.set_cons_zero, List.getElem?_toArray, List.getElem?_cons_succ, List.getElem?_cons_zero, Option.getD_some]
    refine h_call (args := #[.pointer (some ⟨q, 0, none⟩), .int .u32 f, .bool x]) 11 (by kernel_rfl) rfl (by kernel_rfl) (run_callf3 (g := 53) (v := .pointer (some ⟨q, 0, none⟩)) (z := .int .u32 f) (y := .bool x) (fun _ _ => by kernel_rfl) rfl rfl rfl rfl _) ?_
    refine HSEC.out _ _ (Fr.refl _ _) ?_
    intro w3 l3 dh3 vl3 vh3 T3 hf3
    have HT3 := hid T3
    have HF3 := hid hf3
    have HS1 := hf3.keep HS0.out NSB.out
    clear T3 hf3 HS
    have HS := HS1
    refine ⟨HS, ?_⟩
    clear HS1
    simp only [Act.put, Act.eval, Array.getD_eq_getD_getElem?, List.setIfInBounds_toArray, List.set_cons_succ, List.set_cons_zero, List.getElem?_toArray, List.getElem?_cons_succ, List.getElem?_cons_zero, Option.getD_some]
    (refine h_val (v := .bool true) 12 rfl (by kernel_rfl) (by kernel_rfl) (by kernel_rfl) (fun _ _ _ h => h) HS (by kernel_rfl) (fun W _ => run_bin rfl rfl rfl (eqlE W)) ?_; simp only [Act.put, Act.eval, Array.getD_eq_getD_getElem?, List.setIfInBounds_toArray, List.set_cons_succ, List.set_cons_zero, List.getElem?_toArray, List.getElem?_cons_succ, List.getElem?_cons_zero, Option.getD_some])
    (refine h_val 13 rfl (by kernel_rfl) (by kernel_rfl) (by kernel_rfl) (fun _ _ _ h => h) HS (by kernel_rfl) (fun W _ => run_assign rfl rfl W) ?_; simp only [Act.put, Act.eval, Array.getD_eq_getD_getElem?, List.setIfInBounds_toArray, List.set_cons_succ, List.set_cons_zero, List.getElem?_toArray, List.getElem?_cons_succ, List.getElem?_cons_zero, Option.getD_some])
    refine h_done (by kernel_rfl) ?_
    go_wp2
    exact HR.out _ _ _ _ _ (by rw [show step9 n (hl, dl, k) ⟨3, f, x, y⟩ = markS hl dl k f x from rfl]; exact HT3.out) (F0.out.drew.trans HF3.out (fun b h => .inl (XB.out b h)))
  by_cases k4 : kd = 4
  · subst k4
    go_wp2
    have HS0 := hid (show (fun W : World => W.heap[w.heap.size]? = some (.cells (deed9 4 f x y) 50 (0, 0))) (w.alloc (.cells (deed9 4 f x y) 50)).drew from HB.out)
    have TD := hid (T0.out.no ((Fr.refl No _).drew))
    refine region_held (n := 14) (fun W : World => W.heap[w.heap.size]? = some (.cells (deed9 4 f x y) 50 (0, 0))) follows (by kernel_rfl) ?_
    have HS : (fun W : World => W.heap[w.heap.size]? = some (.cells (deed9 4 f x y) 50 (0, 0))) (w.alloc (.cells (deed9 4 f x y) 50)).drew := HB.out
    (refine h_val 0 rfl (by kernel_rfl) (by kernel_rfl) (by kernel_rfl) (fun _ _ _ h => h) HS (by kernel_rfl) (fun W _ => run_move rfl rfl W) ?_; simp only [Act.put, Act.eval, Array.getD_eq_getD_getElem?, List.setIfInBounds_toArray, List.set_cons_succ, List.set_cons_zero, List.getElem?_toArray, List.getElem?_cons_succ, List.getElem?_cons_zero, Option.getD_some])
    (refine h_val (v := .pointer (some ⟨w.heap.size, 1, none⟩)) 1 rfl (by kernel_rfl) (by kernel_rfl) (by kernel_rfl) (fun _ _ _ h => h) HS (by kernel_rfl) (fun W _ => run_field rfl rfl (fun _ => by kernel_rfl) W) ?_; simp only [Act.put, Act.eval, Array.getD_eq_getD_getElem?, List.setIfInBounds_toArray, List.set_cons_succ, List.set_cons_zero, List.getElem?_toArray, List.getElem?_cons_succ, List.getElem?_cons_zero, Option.getD_some])
    (refine h_val (v := .int .u32 f) 2 rfl (by kernel_rfl) (by kernel_rfl) (by kernel_rfl) (fun _ _ _ h => h) HS (by kernel_rfl) (fun W hW => run_loadv rfl rfl (var_cell fidU rfl (cell_at hW rfl))) ?_; simp only [Act.put, Act.eval, Array.getD_eq_getD_getElem?, List.setIfInBounds_toArray, List.set_cons_succ, List.set_cons_zero, List.getElem?_toArray, List.getElem?_cons_succ, List.getElem?_cons_zero, Option.getD_some])
    (refine h_val (v := .pointer (some ⟨w.heap.size, 3, none⟩)) 3 rfl (by kernel_rfl) (by kernel_rfl) (by kernel_rfl) (fun _ _ _ h => h) HS (by kernel_rfl) (fun W _ => run_field rfl rfl (fun _ => by kernel_rfl) W) ?_; simp only [Act.put, Act.eval, Array.getD_eq_getD_getElem?, List.setIfInBounds_toArray, List.set_cons_succ, List.set_cons_zero, List.getElem?_toArray, List.getElem?_cons_succ, List.getElem?_cons_zero, Option.getD_some])
    (refine h_val (v := .int .i64 y) 4 rfl (by kernel_rfl) (by kernel_rfl) (by kernel_rfl) (fun _ _ _ h => h) HS (by kernel_rfl) (fun W hW => run_loadv rfl rfl (var_cell intU rfl (cell_at hW rfl))) ?_; simp only [Act.put, Act.eval, Array.getD_eq_getD_getElem?, List.setIfInBounds_toArray, List.set_cons_succ, List.set_cons_zero, List.getElem?_toArray, List.getElem?_cons_succ, List.getElem?_cons_zero, Option.getD_some])
    (refine h_val 6 rfl (by kernel_rfl) (by kernel_rfl) (by kernel_rfl) (fun _ _ _ h => h) HS (by kernel_rfl) (fun W _ => run_move rfl rfl W) ?_; simp only [Act.put, Act.eval, Array.getD_eq_getD_getElem?, List.setIfInBounds_toArray, List.set_cons_succ, List.set_cons_zero, List.getElem?_toArray, List.getElem?_cons_succ, List.getElem?_cons_zero, Option.getD_some])
    (refine h_val (v := .pointer (some ⟨w.heap.size, 1, none⟩)) 7 rfl (by kernel_rfl) (by kernel_rfl) (by kernel_rfl) (fun _ _ _ h => h) HS (by kernel_rfl) (fun W _ => run_field rfl rfl (fun _ => by kernel_rfl) W) ?_; simp only [Act.put, Act.eval, Array.getD_eq_getD_getElem?, List.setIfInBounds_toArray, List.set_cons_succ, List.set_cons_zero, List.getElem?_toArray, List.getElem?_cons_succ, List.getElem?_cons_zero, Option.getD_some])
    (refine h_val (v := .int .u32 f) 8 rfl (by kernel_rfl) (by kernel_rfl) (by kernel_rfl) (fun _ _ _ h => h) HS (by kernel_rfl) (fun W hW => run_loadv rfl rfl (var_cell fidU rfl (cell_at hW rfl))) ?_; simp only [Act.put, Act.eval, Array.getD_eq_getD_getElem?, List.setIfInBounds_toArray, List.set_cons_succ, List.set_cons_zero, List.getElem?_toArray, List.getElem?_cons_succ, List.getElem?_cons_zero, Option.getD_some])
    (refine h_val (v := .pointer (some ⟨w.heap.size, 3, none⟩)) 9 rfl (by kernel_rfl) (by kernel_rfl) (by kernel_rfl) (fun _ _ _ h => h) HS (by kernel_rfl) (fun W _ => run_field rfl rfl (fun _ => by kernel_rfl) W) ?_; simp only [Act.put, Act.eval, Array.getD_eq_getD_getElem?, List.setIfInBounds_toArray, List.set_cons_succ, List.set_cons_zero, List.getElem?_toArray, List.getElem?_cons_succ, List.getElem?_cons_zero, Option.getD_some])
    (refine h_val (v := .int .i64 y) 10 rfl (by kernel_rfl) (by kernel_rfl) (by kernel_rfl) (fun _ _ _ h => h) HS (by kernel_rfl) (fun W hW => run_loadv rfl rfl (var_cell intU rfl (cell_at hW rfl))) ?_; simp only [Act.put, Act.eval, Array.getD_eq_getD_getElem?, List.setIfInBounds_toArray, List.set_cons_succ, List.set_cons_zero, List.getElem?_toArray, List.getElem?_cons_succ, List.getElem?_cons_zero, Option.getD_some])
    refine h_call (args := #[.pointer (some ⟨p, 0, none⟩), .int .u32 f, .int .i64 y]) 5 (by kernel_rfl) rfl (by kernel_rfl) (run_callf3 (g := 28) (v := .pointer (some ⟨p, 0, none⟩)) (z := .int .u32 f) (y := .int .i64 y) (fun _ _ => by kernel_rfl) rfl rfl rfl rfl _) ?_
    refine two_hoard TD.out HW.out ?_
    intro w1 b1 hf1 hsec
    have HSEC := hid hsec
    have HF1 := hid hf1
    have HS1 := hf1.keep HS NB.out
    clear hsec hf1 HS
    have HS := HS1
    refine ⟨HS, ?_⟩
    clear HS1
    simp only [Act.put, Act.eval, Array.getD_eq_getD_getElem?, List.setIfInBounds_toArray, List.set_cons_succ, List.set_cons_zero, List.getElem?_toArray, List.getElem?_cons_succ, List.getElem?_cons_zero, Option.getD_some]
    refine h_call (args := #[.pointer (some ⟨q, 0, none⟩), .int .u32 f, .int .i64 y]) 11 (by kernel_rfl) rfl (by kernel_rfl) (run_callf3 (g := 54) (v := .pointer (some ⟨q, 0, none⟩)) (z := .int .u32 f) (y := .int .i64 y) (fun _ _ => by kernel_rfl) rfl rfl rfl rfl _) ?_
    refine HSEC.out _ _ (Fr.refl _ _) ?_
    intro w3 l3 dh3 vl3 vh3 T3 hf3
    have HT3 := hid T3
    have HF3 := hid hf3
    have HS1 := hf3.keep HS0.out NSB.out
    clear T3 hf3 HS
    have HS := HS1
    refine ⟨HS, ?_⟩
    clear HS1
    simp only [Act.put, Act.eval, Array.getD_eq_getD_getElem?, List.setIfInBounds_toArray, List.set_cons_succ, List.set_cons_zero, List.getElem?_toArray, List.getElem?_cons_succ, List.getElem?_cons_zero, Option.getD_some]
    (refine h_val (v := .bool true) 12 rfl (by kernel_rfl) (by kernel_rfl) (by kernel_rfl) (fun _ _ _ h => h) HS (by kernel_rfl) (fun W _ => run_bin rfl rfl rfl (eqlE W)) ?_; simp only [Act.put, Act.eval, Array.getD_eq_getD_getElem?, List.setIfInBounds_toArray, List.set_cons_succ, List.set_cons_zero, List.getElem?_toArray, List.getElem?_cons_succ, List.getElem?_cons_zero, Option.getD_some])
    (refine h_val 13 rfl (by kernel_rfl) (by kernel_rfl) (by kernel_rfl) (fun _ _ _ h => h) HS (by kernel_rfl) (fun W _ => run_assign rfl rfl W) ?_; simp only [Act.put, Act.eval, Array.getD_eq_getD_getElem?, List.setIfInBounds_toArray, List.set_cons_succ, List.set_cons_zero, List.getElem?_toArray, List.getElem?_cons_succ, List.getElem?_cons_zero, Option.getD_some])
    refine h_done (by kernel_rfl) ?_
    go_wp2
    exact HR.out _ _ _ _ _ (by rw [show step9 n (hl, dl, k) ⟨4, f, x, y⟩ = hoardS hl dl k f y from rfl]; exact HT3.out) (F0.out.drew.trans HF3.out (fun b h => .inl (XB.out b h)))
  · go_wp2
    exact HR.out _ _ _ _ _ (by rw [show step9 n (hl, dl, k) ⟨kd, f, x, y⟩ = (hl, dl, k) from by simp only [step9]; rw [if_neg k0, if_neg k1, if_neg k2, if_neg k3, if_neg k4]]; exact T0.out.later) F0.out
end

end Go.Proofs.Ytokhbjllgaaogaa
