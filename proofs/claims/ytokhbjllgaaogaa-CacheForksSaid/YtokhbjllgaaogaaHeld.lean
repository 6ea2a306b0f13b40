/- Regions that draw their order and hold calls or writes: what only reads is taken first, under a condition on the world; what is left comes up one by one. No condition beside what each law asks. -/
import Derived.Test.YtokhbjllgaaogaaQuiet
import Derived.OrdersHeld
namespace Go.Proofs.Ytokhbjllgaaogaa
set_option linter.unusedSimpArgs false
open Go.RowKit Go.Maps

/-- The n-th operation: found by looking. -/
def nthO : List Oper → Nat → Option Oper
  | [], _ => none
  | v :: _, 0 => some v
  | _ :: r, n + 1 => nthO r n

theorem nthO_eq : ∀ {l : List Oper} {n : Nat} {o : Oper}, nthO l n = some o → l.toArray[n]? = some o
  | [], n, o, h => by simp [nthO] at h
  | v :: _, 0, o, h => by simpa [nthO] using h
  | _ :: r, n + 1, o, h => by have := nthO_eq (l := r) (n := n) h; simpa using this

section held
variable {P : Program} {ops : List Oper} {o : Oper} {a : Act} {w : World} {S : World → Prop} {Q : Exit → Act → World → Prop} {v : Value} {x y z : Operand} {fuel : Nat} {listed : Array Bool}

theorem region_held {id : Nat} {l : List Oper} (S : World → Prop) (hm : P.follows .mixedOrders = true) {n : Nat} (hn : l.toArray.size = n) (h : wpAnyH P .any l.toArray Q S n (Array.replicate n false) a w.drew) : (Code.region id l.toArray true).wp P Q a w := by
  subst hn
  exact wp_region_held hm h

theorem h_val (i : Nat) (hi : nthO ops i = some o) (hs : Region.noSelect ops.toArray = true) (hf : Region.free .any ops.toArray listed i = true) (hr : (Region.ready .any ops.toArray listed).contains i = true) (hQ : ∀ c a w, Q (.panic c) (a.put o.dst v) w → Q (.panic c) a w)
    (hS : S w) (hw : Region.wanted o (yielded ops.toArray a.tmps) = true) (hv : ∀ W, S W → (execOp a.eval o).run P W = .ok (.value v) W) (h : wpAnyH P .any ops.toArray Q S fuel (listed.setIfInBounds i true) (a.put o.dst v) w) : wpAnyH P .any ops.toArray Q S (fuel + 1) listed a w :=
  wpAnyH_take (nthO_eq hi) hs hf hr hQ (.inl ⟨hw, hv⟩) hS h

theorem h_skip (i : Nat) (hi : nthO ops i = some o) (hs : Region.noSelect ops.toArray = true) (hf : Region.free .any ops.toArray listed i = true) (hr : (Region.ready .any ops.toArray listed).contains i = true) (hQ : ∀ c a w, Q (.panic c) (a.put o.dst undef) w → Q (.panic c) a w)
    (hS : S w) (hw : Region.wanted o (yielded ops.toArray a.tmps) = false) (h : wpAnyH P .any ops.toArray Q S fuel (listed.setIfInBounds i true) (a.put o.dst undef) w) : wpAnyH P .any ops.toArray Q S (fuel + 1) listed a w :=
  wpAnyH_take (nthO_eq hi) hs hf hr hQ (.inr ⟨hw, rfl⟩) hS h

theorem run_move (ho : o.op = .move x) (hv : a.eval x = v) (W : World) : (execOp a.eval o).run P W = .ok (.value v) W := by
  unfold execOp; simp only [ho, hv]; rfl
theorem run_assign (ho : o.op = .assign x) (hv : a.eval x = v) (W : World) : (execOp a.eval o).run P W = .ok (.value v) W := by
  unfold execOp; simp only [ho, hv]; rfl
theorem run_nilCheck {ad : Addr} (ho : o.op = .nilCheck x) (hx : a.eval x = .pointer (some ad)) (W : World) : (execOp a.eval o).run P W = .ok (.value (.pointer (some ad))) W := by
  unfold execOp; simp only [ho, hx]; rfl
theorem run_field {t : TypeId} {k : Nat} {ad ad' : Addr} (ho : o.op = .fieldAddr t x k) (hx : a.eval x = .pointer (some ad)) (hf : ∀ W, (Instr.fieldAt t (.pointer (some ad)) k).run P W = .ok (.pointer (some ad')) W) (W : World) : (execOp a.eval o).run P W = .ok (.value (.pointer (some ad'))) W := by
  unfold execOp; simp only [ho, hx, Sem.run_bind, hf W, Result.andThen_ok, Sem.run_pure]
theorem run_box {t : TypeId} {c : Array Value} (ho : o.op = .box t x) (hx : a.eval x = .agg c) (W : World) : (execOp a.eval o).run P W = .ok (.value (.pointer (some ⟨W.heap.size, 0, none⟩))) (W.alloc (.cells c t)) := by
  unfold execOp
  simp only [ho, hx, Instr.box, newVar, newRow, newObj, Value.cells]
  rfl
theorem run_loadv {t : TypeId} {ad : Addr} (ho : o.op = .load t x) (hx : a.eval x = .pointer (some ad)) {W : World} (hv : (loadVar t ad).run P W = .ok v W) : (execOp a.eval o).run P W = .ok (.value v) W := by
  unfold execOp; simp only [ho, hx, Instr.loadAt, Instr.sureAddr, Sem.run_bind, Sem.run_pure, Result.andThen_ok, hv]
theorem run_index {t e : TypeId} {b off len cap s : Nat} {i : Int} {q : IntKind} {m : Nat} (ho : o.op = .indexAddr t x y) (hx : a.eval x = .slice (some ⟨b, off, none⟩) len cap) (hy : a.eval y = .int q i)
    (hu : P.underlying t = some (.slice e)) (hs : (P.info? e).map (·.size) = some s) (h0 : 0 ≤ i) (h1 : i < len) (hm : off + i.toNat * s = m) (W : World) : (execOp a.eval o).run P W = .ok (.value (.pointer (some ⟨b, m, none⟩))) W := by
  unfold execOp
  cases hq : P.info? e with
  | none => simp [hq] at hs
  | some inf =>
    have hs' : inf.size = s := by simpa [hq] using hs
    have hadd : (⟨b, off, none⟩ : Addr).add (i.toNat * s) = ⟨b, m, none⟩ := by rw [← hm]; exact Addr.add_mid b off _
    simp [ho, hx, hy, Instr.indexAt, asIntOf, Sem.run_bind, run_underlying hu W, sizeOf, typeInfo, hq, hs', h0, h1, hadd]
theorem run_lens {t e : TypeId} {ad : Option Addr} {len cap : Nat} (ho : o.op = .call { callee := .builtin .len, args := #[x], argTypes := #[t] }) (hx : a.eval x = .slice ad len cap) (hu : P.underlying t = some (.slice e)) (W : World) : (execOp a.eval o).run P W = .ok (.value (.int .i64 len)) W := by
  unfold execOp
  simp [ho, hx, resolve, invoke, builtin, Builtin.len_, goInt, Sem.run_bind, run_underlying hu W]
theorem run_pickT (ho : o.op = .pick x y z) (hx : a.eval x = .bool true) (hv : a.eval y = v) (W : World) : (execOp a.eval o).run P W = .ok (.value v) W := by
  unfold execOp; simp only [ho, hx, hv]; rfl
theorem run_pickF (ho : o.op = .pick x y z) (hx : a.eval x = .bool false) (hv : a.eval z = v) (W : World) : (execOp a.eval o).run P W = .ok (.value v) W := by
  unfold execOp; simp only [ho, hx, hv]; rfl
theorem run_bin {op : BinOp} {t t' : TypeId} {q q' : IntKind} {i j : Int} (ho : o.op = .binOp op t x y t') (hx : a.eval x = .int q i) (hy : a.eval y = .int q' j) {W : World} (hr : (binOp op t (.int q i) (.int q' j)).run P W = .ok v W) : (execOp a.eval o).run P W = .ok (.value v) W := by
  unfold execOp
  have hg : eqGuard op t x y (.int q i) (.int q' j) = pure () := by unfold eqGuard; cases op <;> rfl
  simp only [ho, hx, hy, hg, Sem.run_bind, Sem.run_pure, Result.andThen_ok, hr]

/-- One operation alone may come up now: it yields a value, and the world turns. -/
theorem h_one (i : Nat) {w' : World} (hr : Region.ready .any ops.toArray listed = [i]) (hi : nthO ops i = some o) (hw : Region.wanted o (yielded ops.toArray a.tmps) = true) (hrun : (execOp a.eval o).run P w = .ok (.value v) w') (hS : S w')
    (h : wpAnyH P .any ops.toArray Q S fuel (listed.setIfInBounds i true) (a.put o.dst v) w') : wpAnyH P .any ops.toArray Q S (fuel + 1) listed a w := by
  refine wpAnyH_all hr (by simp) fun j hj => ?_
  obtain rfl : j = i := by simpa using hj
  unfold wpOp
  simp only [nthO_eq hi, hw, if_true]
  refine .inl ?_
  unfold Oper.wp
  rw [hrun]
  exact ⟨hS, h⟩

/-- One operation alone may come up now: it yields nothing, and the world turns. -/
theorem h_oneU (i : Nat) {w' : World} (hr : Region.ready .any ops.toArray listed = [i]) (hi : nthO ops i = some o) (hw : Region.wanted o (yielded ops.toArray a.tmps) = true) (hrun : (execOp a.eval o).run P w = .ok .skip w') (hS : S w')
    (h : wpAnyH P .any ops.toArray Q S fuel (listed.setIfInBounds i true) (a.put o.dst undef) w') : wpAnyH P .any ops.toArray Q S (fuel + 1) listed a w := by
  refine wpAnyH_all hr (by simp) fun j hj => ?_
  obtain rfl : j = i := by simpa using hj
  unfold wpOp
  simp only [nthO_eq hi, hw, if_true]
  refine .inl ?_
  unfold Oper.wp
  rw [hrun]
  exact ⟨hS, h⟩

/-- One operation alone may come up now: a call. -/
theorem h_call (i : Nat) {f : FuncId} {args : Array Value} (hr : Region.ready .any ops.toArray listed = [i]) (hi : nthO ops i = some o) (hw : Region.wanted o (yielded ops.toArray a.tmps) = true) (hrun : (execOp a.eval o).run P w = .ok (.enter f args) w)
    (h : Calls P f args w fun
      | .returned v, w'' => S w'' ∧ wpAnyH P .any ops.toArray Q S fuel (listed.setIfInBounds i true) (a.put o.dst v) w''
      | .panicked chain, w'' => Q (.panic chain) a w''
      | .outgrown, _ => LetsOut Q) : wpAnyH P .any ops.toArray Q S (fuel + 1) listed a w := by
  refine wpAnyH_all hr (by simp) fun j hj => ?_
  obtain rfl : j = i := by simpa using hj
  unfold wpOp
  simp only [nthO_eq hi, hw, if_true]
  refine .inl ?_
  unfold Oper.wp
  rw [hrun, Oper.upon_enter]
  exact h

/-- Two operations may come up now: each yields a value, and the world turns. -/
theorem h_two (i j : Nat) {oi oj : Oper} (hr : Region.ready .any ops.toArray listed = [i, j]) (hi : nthO ops i = some oi) (hj : nthO ops j = some oj) (hwi : Region.wanted oi (yielded ops.toArray a.tmps) = true) (hwj : Region.wanted oj (yielded ops.toArray a.tmps) = true)
    (h1 : ∃ v w', (execOp a.eval oi).run P w = .ok (.value v) w' ∧ S w' ∧ wpAnyH P .any ops.toArray Q S fuel (listed.setIfInBounds i true) (a.put oi.dst v) w')
    (h2 : ∃ v w', (execOp a.eval oj).run P w = .ok (.value v) w' ∧ S w' ∧ wpAnyH P .any ops.toArray Q S fuel (listed.setIfInBounds j true) (a.put oj.dst v) w') : wpAnyH P .any ops.toArray Q S (fuel + 1) listed a w := by
  refine wpAnyH_all hr (by simp) fun k hk => ?_
  rcases List.mem_cons.1 hk with rfl | hk
  · obtain ⟨v, w', hrun, hS, h⟩ := h1
    unfold wpOp
    simp only [nthO_eq hi, hwi, if_true]
    refine .inl ?_
    unfold Oper.wp
    rw [hrun]
    exact ⟨hS, h⟩
  · obtain rfl : k = j := by simpa using hk
    obtain ⟨v, w', hrun, hS, h⟩ := h2
    unfold wpOp
    simp only [nthO_eq hj, hwj, if_true]
    refine .inl ?_
    unfold Oper.wp
    rw [hrun]
    exact ⟨hS, h⟩

theorem h_done (hr : Region.ready .any ops.toArray listed = []) (h : Q .normal a w) : wpAnyH P .any ops.toArray Q S fuel listed a w := wpAnyH_done hr h fuel

end held
end Go.Proofs.Ytokhbjllgaaogaa
