/- append([]T{}, s...): a row of the call's own that holds what s holds. -/
import Derived.Test.YtoffkaojhcnddaaPush
import Derived.Deep.Upon
namespace Go.Proofs.Ytoffkaojhcnddaa
set_option linter.unusedSimpArgs false
open Go.RowKit Go.Maps

theorem wpList_built0 {P : Program} {ops : Array Oper} {rest : List Oper} {o : Oper} {a : Act} {w : World} {Q : Exit → Act → World → Prop} (T e : TypeId) (sz bytes : Nat) (hT : Hid (ElemT P T e sz bytes)) (hg : o.guard = none) (ho : o.op = .buildSlice T 0 #[])
    (h : ∀ v w', Hid (w'.ownsRow w.heap.size e sz v 0 []) → Hid (Fr No w w') → Hid (v ≠ .slice none 0 0) → wpList P ops Q rest (a.put o.dst v) w') : wpList P ops Q (o :: rest) a w := by
  obtain ⟨w', v, hr, h1, h2, h3⟩ := run_built0 (w := w) hT.out
  refine wpList_ok hg ?_ (h v w' h1 ((Fr.refl No w).grown h2 (fun k hk => by cases hk)) h3)
  unfold execOp
  simp only [ho, List.map_toArray, List.map_nil, Sem.run_bind, hr, Result.andThen_ok]
  rfl

/-- Its cells. -/
theorem owns_cells {w : World} {base : Nat} {e : TypeId} {sz : Nat} {v : Value} {n : Nat} {xs : List Value} (h : w.ownsRow base e sz v n xs) (hv : v ≠ .slice none 0 0) :
    ∃ g cap cur, v = .slice (some ⟨g, 0, none⟩) n cap ∧ base ≤ g ∧ w.heap[g]? = some (.cells cur e (0, 0)) ∧ n * sz ≤ cur.size ∧ ∀ j, j < n * sz → cur[j]? = xs[j]? := by
  rcases h.2 with ⟨rfl, _⟩ | ⟨g, cap, cur, rfl, hb, hg, hn, _, hs, ht⟩
  · exact absurd rfl hv
  · refine ⟨g, cap, cur, rfl, hb, hg, by rw [hs]; exact Nat.mul_le_mul_right _ hn, fun j hj => ?_⟩
    rw [← ht, List.getElem?_take, if_pos hj, Array.getElem?_toList]

theorem wpList_copyRow {P : Program} {ops : Array Oper} {rest : List Oper} {o : Oper} {a : Act} {w : World} {Q : Exit → Act → World → Prop} (T e : TypeId) (sz bytes : Nat) (hT : Hid (ElemT P T e sz bytes)) (hsz : 0 < sz)
    (hg : o.guard = none) (s x : Operand) (ho : o.op = .call { callee := .builtin .append, args := #[s, x], argTypes := #[T, T] })
    (v : Value) (hs : a.eval s = v) (b n cap : Nat) (hx : a.eval x = .slice (some ⟨b, 0, none⟩) n cap)
    (cs : Array Value) (t : TypeId) (hb : w.heap[b]? = some (.cells cs t (0, 0))) (hn : Hid (n * sz ≤ cs.size)) (h1 : Hid (∀ j u, j < n * sz → cs[j]? = some u → u.oneCell' = true))
    (w0 : World) (base : Nat) (hb0 : Hid (base = w0.heap.size)) (hf : Hid (Fr No w0 w)) (hown : Hid (w.ownsRow base e sz v 0 [])) (hv : Hid (v ≠ .slice none 0 0)) (h63 : n ≤ maxLen) (hbytes : n * bytes ≤ 140737488355328)
    (h : ∀ g cap' cur w', Hid (w0.heap.size ≤ g) → Hid (w'.heap[g]? = some (.cells cur e (0, 0))) → Hid (n * sz ≤ cur.size) → Hid (∀ j, j < n * sz → cur[j]? = cs[j]?) → Hid (Fr No w0 w') → wpList P ops Q rest (a.put o.dst (.slice (some ⟨g, 0, none⟩) n cap')) w') : wpList P ops Q (o :: rest) a w := by
  obtain ⟨i, z, hu, hi, hz, hsize, hby, hzs⟩ := hT.out.get
  have hbase : base ≤ w.heap.size := by rw [hb0.out]; exact hf.out.size
  have hlen : (cs.toList.take (n * sz)).length = n * sz := by have := hn.out; simp; omega
  refine wpList_append_own _ hg s x T ho base e i z sz bytes hu hi hz hsize hby hzs hsz v 0 [] hs hown.out ⟨b, 0, none⟩ n cap (cs.toList.take (n * sz)) hx hlen (fun j u hu => ?_) (fun u hu => ?_) (by omega) (by rw [Nat.zero_add]; exact hbytes) hbase (fun v' w' h1 h2 h3 => ?_)
  · rw [List.getElem?_take] at hu
    split at hu
    · rw [show (⟨b, 0, none⟩ : Addr).add j = ⟨b, j, none⟩ by simp only [Addr.add]; split <;> simp_all]
      exact cell_at hb (by simpa using hu)
    · cases hu
  · obtain ⟨j, hj⟩ := List.mem_iff_getElem?.1 hu
    rw [List.getElem?_take] at hj
    split at hj
    · rename_i hlt; exact h1.out j u hlt (by simpa using hj)
    · cases hj
  · have hne : v' ≠ .slice none 0 0 := fun e => hv.out (h3.1 e).1
    rw [Nat.zero_add, List.nil_append] at h1
    obtain ⟨g, cap', cur, rfl, hbg, hhg, hsg, hcg⟩ := owns_cells h1 hne
    refine h g cap' cur w' (by show _ ≤ _; rw [← hb0.out]; exact hbg) hhg hsg (fun j hj => ?_) (Fr.of_grown hf.out (Nat.le_of_eq hb0.out.symm) hown.out h2)
    rw [hcg j hj, List.getElem?_take, if_pos hj, Array.getElem?_toList]

theorem RowsAt.of_owns_lt {w : World} {base : Nat} {e : TypeId} {sz : Nat} {v : Value} {n : Nat} {cs : List Value} (h : w.ownsRow base e sz v n cs) {S : Nat → Prop} (hS : ∀ b, base ≤ b → b < w.heap.size → ¬ S b) : RowsAt S w v n sz cs := by
  have := RowsAt.of_owns (S := fun b => S b ∧ b < w.heap.size ∧ base ≤ b) h (fun b hb hs => hS b hb hs.2.1 hs.1)
  obtain ⟨hl, a, cap, hv, hr⟩ := this
  refine ⟨hl, a, cap, hv, hr.imp id ?_⟩
  rintro ⟨b, off, rfl, hS', hb, hc⟩
  refine ⟨b, off, rfl, fun hs => ?_, hb, hc⟩
  rcases h.2 with ⟨rfl, _⟩ | ⟨g, cap', cur, rfl, hg, _⟩
  · simp at hv
  · simp at hv
    exact hS' ⟨hs, hb, by rw [← hv.1.1]; exact hg⟩

theorem owns_low {w : World} {base base' : Nat} {e : TypeId} {sz : Nat} {v : Value} {n : Nat} {cs : List Value} (h : w.ownsRow base e sz v n cs) (hb : base' ≤ base) : w.ownsRow base' e sz v n cs :=
  ⟨h.1, h.2.imp id fun ⟨g, cap, cur, h1, h2, h3⟩ => ⟨g, cap, cur, h1, Nat.le_trans hb h2, h3⟩⟩

theorem owns_ne {w : World} {b1 b2 : Nat} {e1 e2 : TypeId} {s1 s2 : Nat} {v1 v2 : Value} {n1 n2 : Nat} {c1 c2 : List Value} (h1 : w.ownsRow b1 e1 s1 v1 n1 c1) (h2 : w.ownsRow b2 e2 s2 v2 n2 c2) (he : e1 ≠ e2) (hv : v1 ≠ .slice none 0 0) : v1.ownBlock ≠ v2.ownBlock := by
  rcases h1.2 with ⟨rfl, _⟩ | ⟨g, cap, cur, rfl, _, hg, _⟩
  · exact absurd rfl hv
  · rcases h2.2 with ⟨rfl, _⟩ | ⟨g', cap', cur', rfl, _, hg', _⟩
    · simp [Value.ownBlock]
    · simp only [Value.ownBlock, ne_eq, Option.some.injEq]
      rintro rfl
      rw [hg] at hg'
      simp at hg'
      exact he hg'.2

theorem run_op_built0 {P : Program} {o : Oper} {a : Act} {w : World} {T e : TypeId} {sz bytes : Nat} (hT : ElemT P T e sz bytes) (ho : o.op = .buildSlice T 0 #[]) :
    ∃ v w', (execOp a.eval o).run P w = .ok (.value v) w' ∧ w'.ownsRow w.heap.size e sz v 0 [] ∧ w.grownBy w' none ∧ v ≠ .slice none 0 0 := by
  obtain ⟨w', v, hr, h1, h2, h3⟩ := run_built0 (w := w) hT
  refine ⟨v, w', ?_, h1, h2, h3⟩
  unfold execOp
  simp only [ho, List.map_toArray, List.map_nil, Sem.run_bind, hr, Result.andThen_ok]
  rfl

/-- append(v, x...), v a row of the call's own that holds nothing. -/
theorem run_copy {P : Program} {o : Oper} {a : Act} {w : World} {T e : TypeId} {sz bytes : Nat} (hT : ElemT P T e sz bytes) (hsz : 0 < sz) {s x : Operand} (ho : o.op = .call { callee := .builtin .append, args := #[s, x], argTypes := #[T, T] })
    {v xv : Value} (hs : a.eval s = v) (hx : a.eval x = xv) {n : Nat} {xs : List Value} {S : Nat → Prop} (hrow : RowsAt S w xv n sz xs) (h1 : ∀ u ∈ xs, u.oneCell' = true) {base : Nat} (hown : w.ownsRow base e sz v 0 []) (hv : v ≠ .slice none 0 0) (hbase : base ≤ w.heap.size) (h63 : n ≤ maxLen) (hbytes : n * bytes ≤ 140737488355328) :
    ∃ v' w', (execOp a.eval o).run P w = .ok (.value v') w' ∧ w'.ownsRow base e sz v' n xs ∧ w.grownBy w' v.ownBlock ∧ v' ≠ .slice none 0 0 := by
  obtain ⟨i, z, hu, hi, hz, hsize, hby, hzs⟩ := hT.get
  obtain ⟨hl, xa, cap, rfl, hr⟩ := hrow
  have key : ∃ v' w', (Builtin.append_ #[T, T] o.type #[v, .slice xa n cap]).run P w = .ok v' w' ∧ w'.ownsRow base e sz v' n xs ∧ w.grownBy w' v.ownBlock ∧ v' ≠ .slice none 0 0 := by
    cases xa with
    | none =>
      obtain rfl : n = 0 := by
        rcases hr with h | ⟨b, off, h, _⟩
        · exact h
        · cases h
      obtain rfl : xs = [] := List.eq_nil_of_length_eq_zero (by simpa using hl)
      rcases id hown.2 with ⟨rfl, _⟩ | ⟨g, cap', cur, rfl, hg⟩
      · exact absurd rfl hv
      · exact ⟨_, w, run_append_nothing w T T o.type e i hu hi _ 0 cap' (Nat.zero_le _) _ (Src.ofNil _ hu cap), hown, ⟨rfl, rfl, rfl, Nat.le_refl _, fun _ _ _ => rfl⟩, hv⟩
    | some ad =>
      have hcells : ∀ j u, xs[j]? = some u → w.cell? (ad.add j) = some u := by
        intro j u hj
        rcases hr with h | ⟨b, off, h, _, _, hc⟩
        · subst h
          have : xs = [] := List.eq_nil_of_length_eq_zero (by simpa using hl)
          subst this; simp at hj
        · simp only [Option.some.injEq] at h
          subst h
          rw [Addr.add_mid]
          exact hc j u hj
      obtain ⟨v', w', h1, h2, h3, h4⟩ := run_append_own (P := P) w base T o.type e i z sz bytes hu hi hz hsize hby hzs hsz v 0 [] hown ad n cap xs hl hcells h1 (by omega) (by rw [Nat.zero_add]; exact hbytes) hbase
      rw [Nat.zero_add, List.nil_append] at h2
      exact ⟨v', w', h1, h2, h3, fun e => hv (h4.1 e).1⟩
  obtain ⟨v', w', hk, h⟩ := key
  refine ⟨v', w', ?_, h⟩
  unfold execOp
  simp only [ho, resolve, invoke, builtin, Sem.run_bind, Sem.run_pure, Result.andThen_ok, List.map_toArray, List.map_cons, List.map_nil, hs, hx, hk]

end Go.Proofs.Ytoffkaojhcnddaa
