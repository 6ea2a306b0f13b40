/- Regions that draw their order, whose operations leave a world of a class; each operation by a law of its own. And the model's == on arrays of whole numbers. No condition beside what each law asks. -/
import Derived.Test.YtokhbjllgaaogaaBase
import Derived.ChangeKeysEq
namespace Go.Proofs.Ytokhbjllgaaogaa
set_option linter.unusedSimpArgs false
open Go.RowKit Go.Maps

section quiet
variable {P : Program} {ops : Array Oper} {rest : List Oper} {o : Oper} {a : Act} {C : World → Prop} {Q : Act → Prop} {v : Value} {x y z : Operand}

theorem region_quiet {id : Nat} {Q : Exit → Act → World → Prop} {a : Act} {w : World} {l : List Oper} (C : World → Prop) (hm : P.follows .mixedOrders = true) (hB : Region.lexB .any l.toArray = true) (hC : C w.drew)
    (h : wpQuiet P l.toArray C (fun a' => ∀ w', C w' → Q .normal a' w') l a) : (Code.region id l.toArray true).wp P Q a w :=
  wp_region_quiet (C := C) hm hB hC (by simpa using h)

theorem q_val (hw : Region.wanted o (yielded ops a.tmps) = true) (hr : ∀ W, C W → (execOp a.eval o).run P W = .ok (.value v) W) (h : wpQuiet P ops C Q rest (a.put o.dst v)) : wpQuiet P ops C Q (o :: rest) a := by
  refine wpQuiet_step fun K hK => ?_
  rw [if_pos hw]
  refine ⟨v, fun W hW => ?_, hK _ h⟩
  unfold Oper.quietAt
  rw [hr W hW]
  exact ⟨rfl, rfl⟩

theorem q_skip (hw : Region.wanted o (yielded ops a.tmps) = false) (h : wpQuiet P ops C Q rest (a.put o.dst undef)) : wpQuiet P ops C Q (o :: rest) a := by
  refine wpQuiet_step fun K hK => ?_
  rw [hw]
  exact hK _ h

theorem q_move {t : Nat} (hw : Region.wanted o (yielded ops a.tmps) = true) (ho : o.op = .move (.tmp t)) (hv : a.eval (.tmp t) = v) (h : wpQuiet P ops C Q rest (a.put o.dst v)) : wpQuiet P ops C Q (o :: rest) a :=
  q_val hw (fun W _ => by unfold execOp; simp only [ho, hv]; rfl) h

theorem q_assign {t : Nat} (hw : Region.wanted o (yielded ops a.tmps) = true) (ho : o.op = .assign (.tmp t)) (hv : a.eval (.tmp t) = v) (h : wpQuiet P ops C Q rest (a.put o.dst v)) : wpQuiet P ops C Q (o :: rest) a :=
  q_val hw (fun W _ => by unfold execOp; simp only [ho, hv]; rfl) h

theorem q_nilCheck {ad : Addr} (hw : Region.wanted o (yielded ops a.tmps) = true) (ho : o.op = .nilCheck x) (hx : a.eval x = .pointer (some ad)) (h : wpQuiet P ops C Q rest (a.put o.dst (.pointer (some ad)))) : wpQuiet P ops C Q (o :: rest) a :=
  q_val hw (fun W _ => by unfold execOp; simp only [ho, hx]; rfl) h

theorem q_pickT {t : Nat} {v : Value} (hw : Region.wanted o (yielded ops a.tmps) = true) (ho : o.op = .pick x (.tmp t) z) (hx : a.eval x = .bool true) (hv : a.eval (.tmp t) = v) (h : wpQuiet P ops C Q rest (a.put o.dst v)) : wpQuiet P ops C Q (o :: rest) a :=
  q_val hw (fun W _ => by unfold execOp; simp only [ho, hx, hv]; rfl) h

theorem q_pickTc {v : Value} (hw : Region.wanted o (yielded ops a.tmps) = true) (ho : o.op = .pick x (.const v) z) (hx : a.eval x = .bool true) (h : wpQuiet P ops C Q rest (a.put o.dst v)) : wpQuiet P ops C Q (o :: rest) a :=
  q_val hw (fun W _ => by unfold execOp; simp only [ho, hx]; rfl) h

theorem q_pickF {t : Nat} {v : Value} (hw : Region.wanted o (yielded ops a.tmps) = true) (ho : o.op = .pick x y (.tmp t)) (hx : a.eval x = .bool false) (hv : a.eval (.tmp t) = v) (h : wpQuiet P ops C Q rest (a.put o.dst v)) : wpQuiet P ops C Q (o :: rest) a :=
  q_val hw (fun W _ => by unfold execOp; simp only [ho, hx, hv]; rfl) h

theorem q_pickFc {v : Value} (hw : Region.wanted o (yielded ops a.tmps) = true) (ho : o.op = .pick x y (.const v)) (hx : a.eval x = .bool false) (h : wpQuiet P ops C Q rest (a.put o.dst v)) : wpQuiet P ops C Q (o :: rest) a :=
  q_val hw (fun W _ => by unfold execOp; simp only [ho, hx]; rfl) h

theorem q_field {t : TypeId} {k : Nat} {ad ad' : Addr} (hw : Region.wanted o (yielded ops a.tmps) = true) (ho : o.op = .fieldAddr t x k) (hx : a.eval x = .pointer (some ad)) (hf : ∀ W, (Instr.fieldAt t (.pointer (some ad)) k).run P W = .ok (.pointer (some ad')) W)
    (h : wpQuiet P ops C Q rest (a.put o.dst (.pointer (some ad')))) : wpQuiet P ops C Q (o :: rest) a :=
  q_val hw (fun W _ => by unfold execOp; simp only [ho, hx, Sem.run_bind, hf W, Result.andThen_ok, Sem.run_pure]) h

theorem q_load {t : TypeId} {ad : Addr} (hw : Region.wanted o (yielded ops a.tmps) = true) (ho : o.op = .load t x) (hx : a.eval x = .pointer (some ad)) (hv : ∀ W, C W → (loadVar t ad).run P W = .ok v W) (h : wpQuiet P ops C Q rest (a.put o.dst v)) : wpQuiet P ops C Q (o :: rest) a :=
  q_val hw (fun W hW => by unfold execOp; simp only [ho, hx, Instr.loadAt, Instr.sureAddr, Sem.run_bind, Sem.run_pure, Result.andThen_ok, hv W hW]) h

theorem q_index {t e : TypeId} {b off len cap s : Nat} {i : Int} {q : IntKind} (hw : Region.wanted o (yielded ops a.tmps) = true) (ho : o.op = .indexAddr t x y) (hx : a.eval x = .slice (some ⟨b, off, none⟩) len cap) (hy : a.eval y = .int q i)
    (hu : P.underlying t = some (.slice e)) (hs : (P.info? e).map (·.size) = some s) (h0 : 0 ≤ i) (h1 : i < len) {m : Nat} (hm : off + i.toNat * s = m) (h : wpQuiet P ops C Q rest (a.put o.dst (.pointer (some ⟨b, m, none⟩)))) : wpQuiet P ops C Q (o :: rest) a :=
  q_val hw (fun W _ => by
    unfold execOp
    cases hq : P.info? e with
    | none => simp [hq] at hs
    | some inf =>
      have hs' : inf.size = s := by simpa [hq] using hs
      have hadd : (⟨b, off, none⟩ : Addr).add (i.toNat * s) = ⟨b, m, none⟩ := by rw [← hm]; exact Addr.add_mid b off _
      simp [ho, hx, hy, Instr.indexAt, asIntOf, Sem.run_bind, run_underlying hu W, sizeOf, typeInfo, hq, hs', h0, h1, hadd]) h

theorem q_len {t e : TypeId} {ad : Option Addr} {len cap : Nat} (hw : Region.wanted o (yielded ops a.tmps) = true) (ho : o.op = .call { callee := .builtin .len, args := #[x], argTypes := #[t] }) (hx : a.eval x = .slice ad len cap) (hu : P.underlying t = some (.slice e))
    (h : wpQuiet P ops C Q rest (a.put o.dst (.int .i64 len))) : wpQuiet P ops C Q (o :: rest) a :=
  q_val hw (fun W _ => by
    unfold execOp
    simp [ho, hx, resolve, invoke, builtin, Builtin.len_, goInt, Sem.run_bind, run_underlying hu W]) h

/-- A call of a function value. -/
theorem run_callv {g : FuncId} {xs : Array Operand} {ts : Array TypeId} {caps args : Array Value} (hg : ∀ (args : Array Value) (W : World), (callFunc g args).run P W = .ok (.enter g args) W) (ho : o.op = .call { callee := .value x, args := xs, argTypes := ts }) (hx : a.eval x = .func (.func g) #[] caps)
    (hxs : xs.map a.eval = args) (W : World) : (execOp a.eval o).run P W = .ok (.enter g (args ++ caps)) W := by
  unfold execOp
  simp [ho, hx, hxs, resolve, invoke, Deferred.ofValue, hg]

theorem run_callv1 {g : FuncId} {t : Nat} {ts : Array TypeId} {caps : Array Value} {v : Value} (hg : ∀ (args : Array Value) (W : World), (callFunc g args).run P W = .ok (.enter g args) W) (ho : o.op = .call { callee := .value x, args := #[.tmp t], argTypes := ts }) (hx : a.eval x = .func (.func g) #[] caps)
    (hv : a.eval (.tmp t) = v) (W : World) : (execOp a.eval o).run P W = .ok (.enter g (#[v] ++ caps)) W :=
  run_callv hg ho hx (by simp [hv]) W

/-- A call of a named function. -/
theorem run_callf {g : FuncId} {xs : Array Operand} {ts : Array TypeId} {args : Array Value} (hg : ∀ (args : Array Value) (W : World), (callFunc g args).run P W = .ok (.enter g args) W) (ho : o.op = .call { callee := .value (.func g), args := xs, argTypes := ts })
    (hxs : xs.map a.eval = args) (W : World) : (execOp a.eval o).run P W = .ok (.enter g args) W := by
  unfold execOp
  simp [ho, hxs, resolve, invoke, Deferred.ofValue, Act.eval, hg]

theorem run_callf1 {g : FuncId} {t : Nat} {ts : Array TypeId} {v : Value} (hg : ∀ (args : Array Value) (W : World), (callFunc g args).run P W = .ok (.enter g args) W) (ho : o.op = .call { callee := .value (.func g), args := #[.tmp t], argTypes := ts })
    (hv : a.eval (.tmp t) = v) (W : World) : (execOp a.eval o).run P W = .ok (.enter g #[v]) W :=
  run_callf hg ho (by simp [hv]) W

theorem run_callf2 {g : FuncId} {t u : Nat} {ts : Array TypeId} {v z : Value} (hg : ∀ (args : Array Value) (W : World), (callFunc g args).run P W = .ok (.enter g args) W) (ho : o.op = .call { callee := .value (.func g), args := #[.tmp t, .tmp u], argTypes := ts })
    (hv : a.eval (.tmp t) = v) (hz : a.eval (.tmp u) = z) (W : World) : (execOp a.eval o).run P W = .ok (.enter g #[v, z]) W :=
  run_callf hg ho (by simp [hv, hz]) W

theorem run_callf3 {g : FuncId} {t u s : Nat} {ts : Array TypeId} {v z y : Value} (hg : ∀ (args : Array Value) (W : World), (callFunc g args).run P W = .ok (.enter g args) W) (ho : o.op = .call { callee := .value (.func g), args := #[.tmp t, .tmp u, .tmp s], argTypes := ts })
    (hv : a.eval (.tmp t) = v) (hz : a.eval (.tmp u) = z) (hy : a.eval (.tmp s) = y) (W : World) : (execOp a.eval o).run P W = .ok (.enter g #[v, z, y]) W :=
  run_callf hg ho (by simp [hv, hz, hy]) W

theorem q_call {f : FuncId} {args : Array Value} (hw : Region.wanted o (yielded ops a.tmps) = true) (hr : ∀ W, (execOp a.eval o).run P W = .ok (.enter f args) W) (hc : ∀ W, C W → Calls P f args W (fun e w' => e = .returned v ∧ C w'))
    (h : wpQuiet P ops C Q rest (a.put o.dst v)) : wpQuiet P ops C Q (o :: rest) a := by
  refine wpQuiet_step fun K hK => ?_
  rw [if_pos hw]
  refine ⟨v, fun W hW => ?_, hK _ h⟩
  unfold Oper.quietAt
  rw [hr W]
  exact ⟨rfl, hc W hW⟩

theorem q_bin {op : BinOp} {t t' : TypeId} {q q' : IntKind} {i j : Int} (hw : Region.wanted o (yielded ops a.tmps) = true) (ho : o.op = .binOp op t x y t') (hx : a.eval x = .int q i) (hy : a.eval y = .int q' j) (hr : ∀ W, (binOp op t (.int q i) (.int q' j)).run P W = .ok v W)
    (h : wpQuiet P ops C Q rest (a.put o.dst v)) : wpQuiet P ops C Q (o :: rest) a :=
  q_val hw (fun W _ => by
    unfold execOp
    have hg : eqGuard op t x y (.int q i) (.int q' j) = pure () := by unfold eqGuard; cases op <;> rfl
    simp only [ho, hx, hy, hg, Sem.run_bind, Sem.run_pure, Result.andThen_ok, hr W]) h

end quiet

/-! ### == on arrays of whole numbers -/

theorem eqItems_ints {P : Program} {e : TypeId} {q : IntKind} (he : P.underlying e = some (.int q)) (d : Nat) {xs ys : Array Value} (hx : ∀ v ∈ xs, ∃ n, v = .int q n) (hy : ∀ v ∈ ys, ∃ n, v = .int q n) (w : World) :
    ∀ is : List Nat, (∀ i ∈ is, i < xs.size ∧ i < ys.size) → ∃ r, (Op.eqItems (d + 1) e 1 xs ys is).run P w = .ok r w ∧ (r = true ↔ ∀ i ∈ is, xs[i]? = ys[i]?)
  | [], _ => ⟨true, rfl, by simp⟩
  | i :: is, h => by
    have hi := h i List.mem_cons_self
    obtain ⟨r, ih, hr⟩ := eqItems_ints he d hx hy w is (fun j hj => h j (List.mem_cons_of_mem _ hj))
    have hagg : (isAgg e).run P w = .ok false w := by unfold isAgg; rw [Sem.run_bind, run_underlying he w]; rfl
    obtain ⟨m, hm⟩ := hx xs[i] (Array.getElem_mem _)
    obtain ⟨n, hn⟩ := hy ys[i] (Array.getElem_mem _)
    have h1 : xs[i]? = some (.int q m) := by rw [Array.getElem?_eq_getElem hi.1, hm]
    have h2 : ys[i]? = some (.int q n) := by rw [Array.getElem?_eq_getElem hi.2, hn]
    have p1 : (part e xs (i * 1)).run P w = .ok (.int q m) w := by unfold part; simp [Sem.run_bind, hagg, h1]
    have p2 : (part e ys (i * 1)).run P w = .ok (.int q n) w := by unfold part; simp [Sem.run_bind, hagg, h2]
    simp only [Op.eqItems, Sem.run_bind, p1, p2, Result.andThen_ok, run_equalIn_int w d e q q m n he]
    by_cases hmn : m = n
    · subst hmn
      refine ⟨r, by simpa using ih, ?_⟩
      rw [hr]
      simp [h1, h2]
    · have hb : (m == n) = false := by simp [hmn]
      refine ⟨false, by simp [hb], ?_⟩
      simp [h1, h2, hmn]

theorem run_eql_ints {P : Program} {t e : TypeId} {q : IntKind} {n : Nat} (hu : P.underlying t = some (.array n e)) (he : P.underlying e = some (.int q)) (hc : P.cellsOf e = 1) (hi : (P.info? e).isSome = true) (xs ys : Array Value) (hx : ∀ v ∈ xs, ∃ n, v = .int q n) (hy : ∀ v ∈ ys, ∃ n, v = .int q n)
    (sx : xs.size = n) (sy : ys.size = n) {r : Bool} (hr : r = true ↔ xs = ys) (w : World) : (Op.equal t (.agg xs) (.agg ys)).run P w = .ok r w := by
  obtain ⟨i, hi⟩ := Option.isSome_iff_exists.1 hi
  obtain ⟨r', h1, h2⟩ := eqItems_ints he 9998 hx hy w (List.range n) (fun j hj => by have := List.mem_range.1 hj; omega)
  unfold Op.equal
  rw [show Op.maxDepth = 9999 + 1 from rfl, run_equalIn_array w 9999 xs ys hu hi, hc, h1]
  congr 1
  rw [Bool.eq_iff_iff, h2, hr]
  constructor
  · intro h
    refine Array.ext_getElem? fun j => ?_
    rcases Nat.lt_or_ge j n with hj | hj
    · exact h j (List.mem_range.2 hj)
    · rw [Array.getElem?_eq_none (by omega), Array.getElem?_eq_none (by omega)]
  · rintro rfl j _; rfl

theorem run_bin_eql {P : Program} {t : TypeId} {xs ys : Array Value} {r : Bool} {w : World} (h : (Op.equal t (.agg xs) (.agg ys)).run P w = .ok r w) : (binOp .eql t (.agg xs) (.agg ys)).run P w = .ok (.bool r) w := by
  unfold binOp
  simp [h]

theorem run_bin_neq {P : Program} {t : TypeId} {xs ys : Array Value} {r : Bool} {w : World} (h : (Op.equal t (.agg xs) (.agg ys)).run P w = .ok r w) : (binOp .neq t (.agg xs) (.agg ys)).run P w = .ok (.bool (!r)) w := by
  unfold binOp
  simp [h]

theorem run_guard_agg {P : Program} {op : BinOp} {t : TypeId} {x y : Operand} {xs ys : Array Value} {w : World} (h : P.eqGuardType P.depth t = false) : (eqGuard op t x y (.agg xs) (.agg ys)).run P w = .ok () w := by
  unfold eqGuard
  cases op <;> simp [Sem.run_bind, program, Sem.run, h]

/-- 'x == y', 'x != y' at arrays of whole numbers, at an operation. -/
theorem run_cmp_ints {P : Program} {o : Oper} {a : Act} {op : BinOp} {t t' : TypeId} {x y : Operand} {xs ys : Array Value} {w : World} {v : Value} (ho : o.op = .binOp op t x y t') (hx : a.eval x = .agg xs) (hy : a.eval y = .agg ys) (hg : P.eqGuardType P.depth t = false)
    (hb : (binOp op t (.agg xs) (.agg ys)).run P w = .ok v w) : (execOp a.eval o).run P w = .ok (.value v) w := by
  unfold execOp
  simp only [ho, hx, hy, Sem.run_bind, run_guard_agg hg, Result.andThen_ok, hb, Sem.run_pure]

end Go.Proofs.Ytokhbjllgaaogaa
