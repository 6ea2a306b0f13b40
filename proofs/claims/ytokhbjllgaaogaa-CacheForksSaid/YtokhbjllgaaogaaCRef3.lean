/- The reference's cache: Touch, Drop, Mark. No condition beside that it lies there. -/
import Derived.Test.YtokhbjllgaaogaaCRef2
namespace Go.Proofs.Ytokhbjllgaaogaa
set_option linter.unusedSimpArgs false
open Go.RowKit Go.Maps
attribute [local irreducible] wpQuiet wpAnyH

theorem step_ex {X : Value → World → Prop} {A : Value → World → Prop} {B : Value → World → Prop} (h : ∃ v w', X v w' ∧ A v w') (k : ∀ v w', A v w' → B v w') : ∃ v w', X v w' ∧ B v w' := by
  obtain ⟨v, w', h1, h2⟩ := h
  exact ⟨v, w', h1, k v w' h2⟩

section held
variable {P : Program} {ops : List Oper} {o : Oper} {a : Act} {w : World} {S : World → Prop} {Q : Exit → Act → World → Prop} {v : Value} {x y z : Operand} {fuel : Nat} {listed : Array Bool}

theorem h_ex (i : Nat) (hr : Region.ready .any ops.toArray listed = [i]) (hi : nthO ops i = some o) (hw : Region.wanted o (yielded ops.toArray a.tmps) = true)
    (h : ∃ v w', (execOp a.eval o).run P w = .ok (.value v) w' ∧ S w' ∧ wpAnyH P .any ops.toArray Q S fuel (listed.setIfInBounds i true) (a.put o.dst v) w') : wpAnyH P .any ops.toArray Q S (fuel + 1) listed a w := by
  obtain ⟨v, w', h1, h2, h3⟩ := h
  exact h_one i hr hi hw h1 h2 h3

/-- Two operations may come up now: a call, and one that yields a value. -/
theorem h_callOp (i j : Nat) {oi oj : Oper} {f : FuncId} {args : Array Value} (hr : Region.ready .any ops.toArray listed = [i, j]) (hi : nthO ops i = some oi) (hj : nthO ops j = some oj) (hwi : Region.wanted oi (yielded ops.toArray a.tmps) = true) (hwj : Region.wanted oj (yielded ops.toArray a.tmps) = true)
    (hrun : (execOp a.eval oi).run P w = .ok (.enter f args) w)
    (h1 : Calls P f args w fun
      | .returned v, w'' => S w'' ∧ wpAnyH P .any ops.toArray Q S fuel (listed.setIfInBounds i true) (a.put oi.dst v) w''
      | .panicked chain, w'' => Q (.panic chain) a w''
      | .outgrown, _ => LetsOut Q)
    (h2 : ∃ v w', (execOp a.eval oj).run P w = .ok (.value v) w' ∧ S w' ∧ wpAnyH P .any ops.toArray Q S fuel (listed.setIfInBounds j true) (a.put oj.dst v) w') : wpAnyH P .any ops.toArray Q S (fuel + 1) listed a w := by
  refine wpAnyH_all hr (by simp) fun k hk => ?_
  rcases List.mem_cons.1 hk with rfl | hk
  · unfold wpOp
    simp only [nthO_eq hi, hwi, if_true]
    refine .inl ?_
    unfold Oper.wp
    rw [hrun, Oper.upon_enter]
    exact h1
  · obtain rfl : k = j := by simpa using hk
    obtain ⟨v, w', hrun, hS, h⟩ := h2
    unfold wpOp
    simp only [nthO_eq hj, hwj, if_true]
    refine .inl ?_
    unfold Oper.wp
    rw [hrun]
    exact ⟨hS, h⟩
end held

theorem heap_setRow_at {w : World} {b : Nat} {cs : Array Value} {t : TypeId} {fr : Nat × Nat} (h : w.heap[b]? = some (.cells cs t fr)) (c : Array Value) : (w.setRow b c).heap[b]? = some (.cells c t fr) := by
  simp [World.setRow, Array.getElem?_modify, h]

/-- One cell is put. -/
theorem run_set1 {P : Program} {w : World} {b k : Nat} {cs cs' : Array Value} {v : Value} {e ty : TypeId} (hb : w.heap[b]? = some (.cells cs e (0, 0))) (hk : decide (k < cs.size) = true) (hi : (P.info? ty).map (·.size) = some 1) (h1 : v.oneCell' = true) (hc : mput cs k #[v] = cs') :
    (storeVar ty ⟨b, k, none⟩ v).run P w = .ok () (w.setRow b cs') := by
  have hv : v.cells = (Value.agg #[v]).cells := by cases v <;> first | rfl | cases h1
  have := run_mput (P := P) (ty := ty) (c := #[v]) hb (of_decide_eq_true hk) hi (by simpa using h1)
  unfold storeVar at this ⊢
  rw [hv, ← hc]; exact this

theorem owns_one {w : World} {base : Nat} {e : TypeId} {sz : Nat} {v : Value} {n : Nat} {xs : List Value} (h : w.ownsRow base e sz v n xs) : v.oneCell' = true := by
  rcases h.2 with ⟨rfl, _⟩ | ⟨g, cap, cur, rfl, _⟩ <;> rfl

/-- A slice literal of one entry. -/
theorem run_lit1 {P : Program} {o : Oper} {a : Act} {w : World} {T e : TypeId} {sz bytes : Nat} (hT : ElemT P T e sz bytes) (hsz : 0 < sz) (hsmall : sz ≤ 16777216) {x : Operand} (ho : o.op = .buildSlice T 1 #[(0, x)]) {nv : Array Value} (hx : a.eval x = .agg nv) (hnv : nv.size = sz) :
    (execOp a.eval o).run P w = .ok (.value (.slice (some ⟨w.heap.size, 0, none⟩) 1 1)) (w.alloc (.cells nv e)) := by
  obtain ⟨i, z, hu, hi, hz, hsize, hby, hzs⟩ := hT.get
  subst hsize
  have h := run_buildSlice (P := P) w T e 1 #[(0, .agg nv)] nv i z hu hi hz (by omega) (by omega) (by
    have := Great.fill_whole hsz [Value.agg nv] ((Array.range (1 * i.size)).map (z.cells[· % z.cells.size]!)) (by intro v hv; simp at hv; subst hv; exact hnv) (by simp)
    simpa [Value.cells] using this)
  unfold execOp
  simp only [ho, List.map_toArray, List.map_cons, List.map_nil, hx, Sem.run_bind, h, Result.andThen_ok]
  rfl

/-- append(v, x...), v a row of the call's own, x of one entry. -/
theorem run_push1 {P : Program} {o : Oper} {a : Act} {w : World} {T e : TypeId} {sz bytes : Nat} (hT : ElemT P T e sz bytes) (hsz : 0 < sz) {s x : Operand} (ho : o.op = .call { callee := .builtin .append, args := #[s, x], argTypes := #[T, T] })
    {v : Value} (hs : a.eval s = v) {b : Nat} (hx : a.eval x = .slice (some ⟨b, 0, none⟩) 1 1) {nv : Array Value} {ty : TypeId} {fr : Nat × Nat} (hb : w.heap[b]? = some (.cells nv ty fr)) (hnv : nv.size = sz) (h1 : ∀ u ∈ nv.toList, u.oneCell' = true) {base n : Nat} {xs : List Value} (hown : w.ownsRow base e sz v n xs) (hbase : base ≤ w.heap.size) (h63 : n + 1 ≤ maxLen) (hbytes : (n + 1) * bytes ≤ 140737488355328) :
    ∃ v' w', (execOp a.eval o).run P w = .ok (.value v') w' ∧ w'.ownsRow base e sz v' (n + 1) (xs ++ nv.toList) ∧ w.grownBy w' v.ownBlock ∧ v' ≠ .slice none 0 0 := by
  obtain ⟨i, z, hu, hi, hz, hsize, hby, hzs⟩ := hT.get
  obtain ⟨v', w', hr, h2, h3, h4⟩ := run_append_own (P := P) w base T o.type e i z sz bytes hu hi hz hsize hby hzs hsz v n xs hown ⟨b, 0, none⟩ 1 1 nv.toList (by simpa using hnv)
    (fun j u hj => by
      rw [show (⟨b, 0, none⟩ : Addr).add j = ⟨b, j, none⟩ by simp only [Addr.add]; split <;> simp_all]
      exact cell_at hb (by simpa using hj)) h1 h63 hbytes hbase
  refine ⟨v', w', ?_, h2, h3, fun e => by have := (h4.1 e).2; omega⟩
  unfold execOp
  simp only [ho, resolve, invoke, builtin, Sem.run_bind, Sem.run_pure, Result.andThen_ok, List.map_toArray, List.map_cons, List.map_nil, hs, hx, hr]

/-- A row stands when a block of another type is turned. -/
theorem owns_setRow {w : World} {b : Nat} {cs c : Array Value} {t : TypeId} {fr : Nat × Nat} (hb : w.heap[b]? = some (.cells cs t fr)) {base : Nat} {e : TypeId} {sz : Nat} {v : Value} {n : Nat} {xs : List Value} (ho : w.ownsRow base e sz v n xs) (he : t ≠ e) : (w.setRow b c).ownsRow base e sz v n xs := by
  refine ⟨ho.1, ?_⟩
  rcases ho.2 with hn | ⟨g, cap, cur, rfl, hb', hg, rest⟩
  · exact .inl hn
  · refine .inr ⟨g, cap, cur, rfl, hb', setRow_keep hg b c (fun e' => ?_), rest⟩
    subst e'
    rw [hb] at hg
    simp at hg
    exact he hg.2.1
theorem owns_setCell {w : World} {b o : Nat} {cs : Array Value} {t : TypeId} {fr : Nat × Nat} {u : Value} (hb : w.heap[b]? = some (.cells cs t fr)) {base : Nat} {e : TypeId} {sz : Nat} {v : Value} {n : Nat} {xs : List Value} (ho : w.ownsRow base e sz v n xs) (he : t ≠ e) : (w.setCell ⟨b, o, none⟩ u).ownsRow base e sz v n xs := by
  refine ⟨ho.1, ?_⟩
  rcases ho.2 with hn | ⟨g, cap, cur, rfl, hb', hg, rest⟩
  · exact .inl hn
  · refine .inr ⟨g, cap, cur, rfl, hb', setCell_keep hg _ _ (fun e' => ?_), rest⟩
    dsimp only at e'
    subst e'
    rw [hb] at hg
    simp at hg
    exact he hg.2.1

theorem ritems1 : (Try.prog.info? 82).map (·.size) = some 1 := by kernel_rfl
theorem rdears1 : (Try.prog.info? 83).map (·.size) = some 1 := by kernel_rfl
theorem rbool1 : (Try.prog.info? 4).map (·.size) = some 1 := by kernel_rfl
theorem zeroItem (w : World) : (zeroValue 97).run Try.prog w = .ok (.agg #[.int .u32 0, .bool false]) w := by kernel_rfl
theorem rfieldC1 (b : Nat) (W : World) : (Instr.fieldAt 85 (.pointer (some ⟨b, 0, none⟩)) 1).run Try.prog W = .ok (.pointer (some ⟨b, 1, none⟩)) W := by kernel_rfl

section
variable {B : Nat} {w w' W : World} {q : Nat} {m : Int} {l l1 l2 : List (Int × Bool)} {dh d1 d2 : List (Int × Int)} {vl vh v : Value} {R : Ending → World → Prop} {f y n : Int} {d x : Bool}

theorem RefC.lt (C : RefC B w q m l dh vl vh) : B ≤ w.heap.size := Nat.le_trans C.lo (Nat.le_of_lt (lt_of_heap C.head))
theorem RefC.newl (C : RefC B w q m l dh vl vh) (ho : w.ownsRow B 97 2 v l1.length (cells2 encB l1)) : RefC B (w.setRow q #[.int .i64 m, v, vh]) q m l1 dh v vh :=
  ⟨heap_setRow_at C.head _, C.lo, owns_setRow C.head ho (by decide), owns_setRow C.head C.dears (by decide)⟩
theorem RefC.newd (C : RefC B w q m l dh vl vh) (ho : w.ownsRow B 99 2 v d1.length (cells2 encD d1)) : RefC B (w.setRow q #[.int .i64 m, vl, v]) q m l d1 vl v :=
  ⟨heap_setRow_at C.head _, C.lo, owns_setRow C.head C.items (by decide), owns_setRow C.head ho (by decide)⟩
theorem RefC.fr1 (_ : RefC B w q m l dh vl vh) (hf : Fr No w W) (cs : Array Value) : Fr (RefS q vl) w (W.setRow q cs) := hf.any.setRow (.inl (.inl rfl)) cs

set_option maxRecDepth 100000 in
theorem rtouch_no (C : RefC B w q m l dh vl vh) (hlen : l.length < 1000) (hf : aget l f = none) (hR : R (.returned (.bool false)) w) :
    Calls Try.prog 51 #[.pointer (some ⟨q, 0, none⟩), .int .u32 f] w R := by
  have HR := hid hR
  have HG := hid (aget_none.1 hf)
  have HC := hid C
  clear hR hf C
  go_enter Try.func51, Try.ntmps51
  go_wp2_with (go_at_call 66; refine rat_no HC.out hlen HG.out ?_)
  exact HR.out

set_option maxHeartbeats 4000000 in
set_option maxRecDepth 100000 in
theorem rtouch_yes (C : RefC B w q m l dh vl vh) (hl : l = l1 ++ (f, d) :: l2) (hlen : l.length < 1000) (hf : ∀ x ∈ l1, x.1 ≠ f)
    (hR : ∀ w' v, RefC B w' q m (l1 ++ l2 ++ [(f, d)]) dh v vh → Fr (RefS q vl) w w' → R (.returned (.bool true)) w') :
    Calls Try.prog 51 #[.pointer (some ⟨q, 0, none⟩), .int .u32 f] w R := by
  have HR := hid hR
  have HG := hid hf
  have HC := hid C
  have HL := hid hl
  have hx : l[l1.length]? = some (f, d) := by rw [hl, List.getElem?_append_right (Nat.le_refl _), Nat.sub_self]; rfl
  have hlt : l1.length < l.length := (List.getElem?_eq_some_iff.1 hx).1
  obtain ⟨g, cap, rfl, _, _, hc1, hc2⟩ := row_at C.items hx
  have Q2 := hid (And.intro hc1 hc2)
  have c1 : w.cell? ⟨q, 1, none⟩ = some (.slice (some ⟨g, 0, none⟩) l.length cap) := cell_at C.head rfl
  have HF : Hid (∀ W v, Fr No w W → W.ownsRow w.heap.size 97 2 v (l1 ++ l2 ++ [(f, d)]).length (cells2 encB (l1 ++ l2 ++ [(f, d)])) → R (.returned (.bool true)) (W.setRow q #[.int .i64 m, v, vh])) := fun W v hF ho =>
    hR _ v ((C.no hF).newl (owns_low ho C.lt)) (C.fr1 hF _)
  have HN : Hid ((l1 ++ l2).length + 1 < 1000) := by show _ < _; rw [hl] at hlen; simp at hlen ⊢; omega
  clear hR hf C hl hc1 hc2 hx
  go_enter Try.func51, Try.ntmps51
  go_wp2_with (first
    | (go_at_call 66; refine rat_yes (l1 := l1) (l2 := l2) (d := d) (by rw [← HL.out]; exact HC.out) (by rw [← HL.out]; exact hlen) HG.out ?_)
    | (refine wpList_loadVar (x := .tmp 17) rfl rfl rfl (var_two Q2.out itemR itemI) ?_)
    | (refine wpList_allocRow rfl rfl (zeroItem _) ?_)
    | (refine wpList_storeNew (x := .tmp 6) rfl rfl rfl rfl (heap_alloc_new _ _) (by rw [itemI]; rfl) rfl rfl (World.setRow_alloc_new _ _ _ _) ?_))
  have box : (w.alloc (.cells #[.int .u32 f, .bool d] 97)).heap[w.heap.size]? = some (.cells #[.int .u32 f, .bool d] 97 (0, 0)) := heap_alloc_new _ _
  have F1 : Fr No w (w.alloc (.cells #[.int .u32 f, .bool d] 97)) := (Fr.refl No w).alloc _
  obtain ⟨w1, hw1⟩ : ∃ w1, w1 = w.alloc (.cells #[.int .u32 f, .bool d] 97) := ⟨_, rfl⟩
  rw [← hw1] at box F1 ⊢
  clear hw1 c1
  refine region_held (n := 10) (Fr (fun b => b = q) w1) follows (by kernel_rfl) ?_
  have HS : Fr (fun b => b = q) w1 w1.drew := (Fr.refl _ w1).drew
  have hgq : w.heap.size ≠ q := fun e => by have := lt_of_heap HC.out.head; omega
  have hs1 : w.heap.size < w1.heap.size := lt_of_heap box
  have one : ∀ u ∈ (#[Value.int .u32 f, .bool d] : Array Value).toList, u.oneCell' = true := fun u hu => by simp at hu; rcases hu with rfl | rfl <;> rfl
  (refine h_val 0 rfl (by kernel_rfl) (by kernel_rfl) (by kernel_rfl) (fun _ _ _ h => h) HS (by kernel_rfl) (fun W _ => run_move rfl rfl W) ?_; simp only [Act.put, Act.eval, Array.getD_eq_getD_getElem?, List.setIfInBounds_toArray, List.set_cons_succ, List.set_cons_zero, List.getElem?_toArray, List.getElem?_cons_succ, List.getElem?_cons_zero, Option.getD_some])
  (refine h_val 1 rfl (by kernel_rfl) (by kernel_rfl) (by kernel_rfl) (fun _ _ _ h => h) HS (by kernel_rfl) (fun W _ => run_move rfl rfl W) ?_; simp only [Act.put, Act.eval, Array.getD_eq_getD_getElem?, List.setIfInBounds_toArray, List.set_cons_succ, List.set_cons_zero, List.getElem?_toArray, List.getElem?_cons_succ, List.getElem?_cons_zero, Option.getD_some])
  (refine h_val 2 rfl (by kernel_rfl) (by kernel_rfl) (by kernel_rfl) (fun _ _ _ h => h) HS (by kernel_rfl) (fun W _ => run_move rfl rfl W) ?_; simp only [Act.put, Act.eval, Array.getD_eq_getD_getElem?, List.setIfInBounds_toArray, List.set_cons_succ, List.set_cons_zero, List.getElem?_toArray, List.getElem?_cons_succ, List.getElem?_cons_zero, Option.getD_some])
  (refine h_val (v := .agg #[.int .u32 f, .bool d]) 4 rfl (by kernel_rfl) (by kernel_rfl) (by kernel_rfl) (fun _ _ _ h => h) HS (by kernel_rfl) (fun W hW => run_loadv rfl rfl (var_two ⟨cell_at (hW.keep box hgq) rfl, cell_at (hW.keep box hgq) rfl⟩ itemR itemI)) ?_; simp only [Act.put, Act.eval, Array.getD_eq_getD_getElem?, List.setIfInBounds_toArray, List.set_cons_succ, List.set_cons_zero, List.getElem?_toArray, List.getElem?_cons_succ, List.getElem?_cons_zero, Option.getD_some])
  refine h_callOp (f := 68) (args := #[.pointer (some ⟨q, 0, none⟩), .int .i64 l1.length]) 3 5 (by kernel_rfl) rfl rfl (by kernel_rfl) (by kernel_rfl) (run_callf2 (g := 68) (v := .pointer (some ⟨q, 0, none⟩)) (z := .int .i64 l1.length) (fun _ _ => by kernel_rfl) rfl rfl rfl _) ?_ ?_
  · refine rwithout_ok (l1 := l1) (l2 := l2) (x := (f, d)) (by rw [← HL.out]; exact HC.out.no F1.drew) (by rw [← HL.out]; exact hlen) ?_
    intro v w2 ho hF0
    · have HS2 : Fr (fun b => b = q) w1 w2 := HS.trans hF0 (fun _ h => h.elim)
      refine ⟨HS2, ?_⟩
      simp only [Act.put, Act.eval, Array.getD_eq_getD_getElem?, List.setIfInBounds_toArray, List.set_cons_succ, List.set_cons_zero, List.getElem?_toArray, List.getElem?_cons_succ, List.getElem?_cons_zero, Option.getD_some]
      refine h_one 5 (by kernel_rfl) rfl (by kernel_rfl) (run_lit1 itemT (by decide) (by decide) rfl (nv := #[.int .u32 f, .bool d]) rfl rfl) (HS2.alloc _) ?_
      have HB := heap_alloc_new w2 (.cells #[.int .u32 f, .bool d] 97)
      have HF2 : Fr No w (w2.alloc (.cells #[.int .u32 f, .bool d] 97)) := (F1.drew.trans hF0 (fun _ h => h.elim)).alloc _
      have HO : (w2.alloc (.cells #[.int .u32 f, .bool d] 97)).ownsRow w1.heap.size 97 2 v (l1 ++ l2).length (cells2 encB (l1 ++ l2)) := ho.alloc _
      have HLE : w1.heap.size ≤ (w2.alloc (.cells #[.int .u32 f, .bool d] 97)).heap.size := (HS2.alloc _).size
      have HS1 := HS2.alloc (.cells #[.int .u32 f, .bool d] 97)
      clear HS
      have HS := HS1
      clear HS1
      simp only [Act.put, Act.eval, Array.getD_eq_getD_getElem?, List.setIfInBounds_toArray, List.set_cons_succ, List.set_cons_zero, List.getElem?_toArray, List.getElem?_cons_succ, List.getElem?_cons_zero, Option.getD_some]
      refine h_ex 6 (by kernel_rfl) rfl (by kernel_rfl) ?_
      refine step_ex (run_push1 (nv := #[.int .u32 f, .bool d]) itemT (by decide) rfl rfl rfl HB rfl one HO HLE (by have := HN.out; simp only [maxLen]; omega) (by have := HN.out; omega)) ?_
      rintro v' w3 ⟨ho', hg', _⟩
      have HF3 : Fr No w w3 := Fr.of_grown HF2 (Nat.le_of_lt hs1) HO hg'
      have HS3 : Fr (fun b => b = q) w1 w3 := HS.grown hg' (fun k hk => .inr (by have := (HO.lt k hk).1; omega))
      refine ⟨HS3, ?_⟩
      clear HS
      have HS := HS3
      simp only [Act.put, Act.eval, Array.getD_eq_getD_getElem?, List.setIfInBounds_toArray, List.set_cons_succ, List.set_cons_zero, List.getElem?_toArray, List.getElem?_cons_succ, List.getElem?_cons_zero, Option.getD_some]
      (refine h_val 7 rfl (by kernel_rfl) (by kernel_rfl) (by kernel_rfl) (fun _ _ _ h => h) HS (by kernel_rfl) (fun W _ => run_nilCheck rfl rfl W) ?_; simp only [Act.put, Act.eval, Array.getD_eq_getD_getElem?, List.setIfInBounds_toArray, List.set_cons_succ, List.set_cons_zero, List.getElem?_toArray, List.getElem?_cons_succ, List.getElem?_cons_zero, Option.getD_some])
      (refine h_val 8 rfl (by kernel_rfl) (by kernel_rfl) (by kernel_rfl) (fun _ _ _ h => h) HS (by kernel_rfl) (fun W _ => run_field rfl rfl (rfieldC1 q) W) ?_; simp only [Act.put, Act.eval, Array.getD_eq_getD_getElem?, List.setIfInBounds_toArray, List.set_cons_succ, List.set_cons_zero, List.getElem?_toArray, List.getElem?_cons_succ, List.getElem?_cons_zero, Option.getD_some])
      (refine h_oneU 9 (by kernel_rfl) rfl (by kernel_rfl) (run_stores rfl rfl rfl (run_set1 (HF3.keep HC.out.head (fun h => h)) rfl ritems1 (owns_one ho') rfl)) (HS.setRow (.inl rfl) _) ?_; simp only [Act.put, Act.eval, Array.getD_eq_getD_getElem?, List.setIfInBounds_toArray, List.set_cons_succ, List.set_cons_zero, List.getElem?_toArray, List.getElem?_cons_succ, List.getElem?_cons_zero, Option.getD_some])
      refine h_done (by kernel_rfl) ?_
      go_wp2
      exact HF.out w3 v' HF3 (by rw [cells2_snoc, List.length_append]; exact owns_low ho' (by omega))
  · refine ⟨_, _, run_lit1 itemT (by decide) (by decide) rfl (nv := #[.int .u32 f, .bool d]) rfl rfl, HS.alloc _, ?_⟩
    · have HB2 := heap_alloc_new w1.drew (.cells #[.int .u32 f, .bool d] 97)
      have HF1 : Fr No w (w1.drew.alloc (.cells #[.int .u32 f, .bool d] 97)) := F1.drew.alloc _
      have HS2 := HS.alloc (.cells #[.int .u32 f, .bool d] 97)
      clear HS
      simp only [Act.put, Act.eval, Array.getD_eq_getD_getElem?, List.setIfInBounds_toArray, List.set_cons_succ, List.set_cons_zero, List.getElem?_toArray, List.getElem?_cons_succ, List.getElem?_cons_zero, Option.getD_some]
      refine h_call (args := #[.pointer (some ⟨q, 0, none⟩), .int .i64 l1.length]) 3 (by kernel_rfl) rfl (by kernel_rfl) (run_callf2 (g := 68) (v := .pointer (some ⟨q, 0, none⟩)) (z := .int .i64 l1.length) (fun _ _ => by kernel_rfl) rfl rfl rfl _) ?_
      refine rwithout_ok (l1 := l1) (l2 := l2) (x := (f, d)) (by rw [← HL.out]; exact HC.out.no HF1) (by rw [← HL.out]; exact hlen) ?_
      intro v w2 ho hF0
      have HS : Fr (fun b => b = q) w1 w2 := HS2.trans hF0 (fun _ h => h.elim)
      refine ⟨HS, ?_⟩
      have HB := hF0.keep HB2 (fun h => h)
      have HF2 : Fr No w w2 := HF1.trans hF0 (fun _ h => h.elim)
      have HLE : w1.heap.size ≤ w2.heap.size := HS.size
      have HO : w2.ownsRow w1.heap.size 97 2 v (l1 ++ l2).length (cells2 encB (l1 ++ l2)) := owns_low ho HS2.size
      simp only [Act.put, Act.eval, Array.getD_eq_getD_getElem?, List.setIfInBounds_toArray, List.set_cons_succ, List.set_cons_zero, List.getElem?_toArray, List.getElem?_cons_succ, List.getElem?_cons_zero, Option.getD_some]
      refine h_ex 6 (by kernel_rfl) rfl (by kernel_rfl) ?_
      refine step_ex (run_push1 (nv := #[.int .u32 f, .bool d]) itemT (by decide) rfl rfl rfl HB rfl one HO HLE (by have := HN.out; simp only [maxLen]; omega) (by have := HN.out; omega)) ?_
      rintro v' w3 ⟨ho', hg', _⟩
      have HF3 : Fr No w w3 := Fr.of_grown HF2 (Nat.le_of_lt hs1) HO hg'
      have HS3 : Fr (fun b => b = q) w1 w3 := HS.grown hg' (fun k hk => .inr (by have := (HO.lt k hk).1; omega))
      refine ⟨HS3, ?_⟩
      clear HS
      have HS := HS3
      simp only [Act.put, Act.eval, Array.getD_eq_getD_getElem?, List.setIfInBounds_toArray, List.set_cons_succ, List.set_cons_zero, List.getElem?_toArray, List.getElem?_cons_succ, List.getElem?_cons_zero, Option.getD_some]
      (refine h_val 7 rfl (by kernel_rfl) (by kernel_rfl) (by kernel_rfl) (fun _ _ _ h => h) HS (by kernel_rfl) (fun W _ => run_nilCheck rfl rfl W) ?_; simp only [Act.put, Act.eval, Array.getD_eq_getD_getElem?, List.setIfInBounds_toArray, List.set_cons_succ, List.set_cons_zero, List.getElem?_toArray, List.getElem?_cons_succ, List.getElem?_cons_zero, Option.getD_some])
      (refine h_val 8 rfl (by kernel_rfl) (by kernel_rfl) (by kernel_rfl) (fun _ _ _ h => h) HS (by kernel_rfl) (fun W _ => run_field rfl rfl (rfieldC1 q) W) ?_; simp only [Act.put, Act.eval, Array.getD_eq_getD_getElem?, List.setIfInBounds_toArray, List.set_cons_succ, List.set_cons_zero, List.getElem?_toArray, List.getElem?_cons_succ, List.getElem?_cons_zero, Option.getD_some])
      (refine h_oneU 9 (by kernel_rfl) rfl (by kernel_rfl) (run_stores rfl rfl rfl (run_set1 (HF3.keep HC.out.head (fun h => h)) rfl ritems1 (owns_one ho') rfl)) (HS.setRow (.inl rfl) _) ?_; simp only [Act.put, Act.eval, Array.getD_eq_getD_getElem?, List.setIfInBounds_toArray, List.set_cons_succ, List.set_cons_zero, List.getElem?_toArray, List.getElem?_cons_succ, List.getElem?_cons_zero, Option.getD_some])
      refine h_done (by kernel_rfl) ?_
      go_wp2
      exact HF.out w3 v' HF3 (by rw [cells2_snoc, List.length_append]; exact owns_low ho' (by omega))

/-! ### Drop -/

set_option maxRecDepth 100000 in
theorem rdrop_no (C : RefC B w q m l dh vl vh) (hlen : l.length < 1000) (hf : aget l f = none) (hR : R (.returned (.int .i64 5)) w) :
    Calls Try.prog 52 #[.pointer (some ⟨q, 0, none⟩), .int .u32 f] w R := by
  have HR := hid hR
  have HG := hid (aget_none.1 hf)
  have HC := hid C
  clear hR hf C
  go_enter Try.func52, Try.ntmps52
  go_wp2_with (go_at_call 66; refine rat_no HC.out hlen HG.out ?_)
  exact HR.out

set_option maxHeartbeats 1000000 in
set_option maxRecDepth 100000 in
theorem rdrop_dirty (C : RefC B w q m l dh vl vh) (hl : l = l1 ++ (f, true) :: l2) (hlen : l.length < 1000) (hf : ∀ x ∈ l1, x.1 ≠ f) (hR : R (.returned (.int .i64 13)) w) :
    Calls Try.prog 52 #[.pointer (some ⟨q, 0, none⟩), .int .u32 f] w R := by
  have HR := hid hR
  have HG := hid hf
  have HC := hid C
  have HL := hid hl
  have hx : l[l1.length]? = some (f, true) := by rw [hl, List.getElem?_append_right (Nat.le_refl _), Nat.sub_self]; rfl
  have hlt : l1.length < l.length := (List.getElem?_eq_some_iff.1 hx).1
  obtain ⟨g, cap, rfl, _, _, _, hc2⟩ := row_at C.items hx
  have c1 : w.cell? ⟨q, 1, none⟩ = some (.slice (some ⟨g, 0, none⟩) l.length cap) := cell_at C.head rfl
  clear hR hf C hl hx
  go_enter Try.func52, Try.ntmps52
  go_wp2_with (go_at_call 66; refine rat_yes (l1 := l1) (l2 := l2) (d := true) (by rw [← HL.out]; exact HC.out) (by rw [← HL.out]; exact hlen) HG.out ?_)
  exact HR.out

set_option maxHeartbeats 1000000 in
set_option maxRecDepth 100000 in
theorem rdrop_ok (C : RefC B w q m l dh vl vh) (hl : l = l1 ++ (f, false) :: l2) (hlen : l.length < 1000) (hf : ∀ x ∈ l1, x.1 ≠ f)
    (hR : ∀ w' v, RefC B w' q m (l1 ++ l2) dh v vh → Fr (RefS q vl) w w' → R (.returned (.int .i64 0)) w') :
    Calls Try.prog 52 #[.pointer (some ⟨q, 0, none⟩), .int .u32 f] w R := by
  have HR := hid hR
  have HG := hid hf
  have HC := hid C
  have HL := hid hl
  have hx : l[l1.length]? = some (f, false) := by rw [hl, List.getElem?_append_right (Nat.le_refl _), Nat.sub_self]; rfl
  have hlt : l1.length < l.length := (List.getElem?_eq_some_iff.1 hx).1
  obtain ⟨g, cap, rfl, _, _, _, hc2⟩ := row_at C.items hx
  have c1 : w.cell? ⟨q, 1, none⟩ = some (.slice (some ⟨g, 0, none⟩) l.length cap) := cell_at C.head rfl
  have HF : Hid (∀ W v, Fr No w W → W.ownsRow w.heap.size 97 2 v (l1 ++ l2).length (cells2 encB (l1 ++ l2)) → R (.returned (.int .i64 0)) (W.setRow q #[.int .i64 m, v, vh])) := fun W v hF ho =>
    hR _ v ((C.no hF).newl (owns_low ho C.lt)) (C.fr1 hF _)
  clear hR hf C hl hx
  go_enter Try.func52, Try.ntmps52
  go_wp2_with (first
    | (go_at_call 66; refine rat_yes (l1 := l1) (l2 := l2) (d := false) (by rw [← HL.out]; exact HC.out) (by rw [← HL.out]; exact hlen) HG.out ?_)
    | (go_at_call 68; refine rwithout_ok (l1 := l1) (l2 := l2) (x := (f, false)) (by rw [← HL.out]; exact HC.out) (by rw [← HL.out]; exact hlen) ?_; intro v w2 ho hF0; have HO := hid ho; have H1 := hid (owns_one ho); have HD := hid (hF0.keep HC.out.head (fun h => h)); have HF0 := hid hF0; clear ho hF0)
    | (refine wpList_storeVar (x := .tmp 29) rfl rfl rfl rfl (run_set1 HD.out rfl ritems1 H1.out rfl) ?_))
  exact HF.out _ _ HF0.out HO.out

/-! ### Mark -/

set_option maxRecDepth 100000 in
theorem rmark_no (C : RefC B w q m l dh vl vh) (hlen : l.length < 1000) (hf : aget l f = none) (hR : R (.returned (.int .i64 5)) w) :
    Calls Try.prog 53 #[.pointer (some ⟨q, 0, none⟩), .int .u32 f, .bool x] w R := by
  have HR := hid hR
  have HG := hid (aget_none.1 hf)
  have HC := hid C
  clear hR hf C
  go_enter Try.func53, Try.ntmps53
  go_wp2_with (go_at_call 66; refine rat_no HC.out hlen HG.out ?_)
  exact HR.out

set_option maxHeartbeats 1000000 in
set_option maxRecDepth 100000 in
theorem rmark_ok (C : RefC B w q m l dh vl vh) (hl : l = l1 ++ (f, d) :: l2) (hlen : l.length < 1000) (hf : ∀ x ∈ l1, x.1 ≠ f)
    (hR : ∀ w', RefC B w' q m (l1 ++ (f, x) :: l2) dh vl vh → Fr (RefS q vl) w w' → R (.returned (.int .i64 0)) w') :
    Calls Try.prog 53 #[.pointer (some ⟨q, 0, none⟩), .int .u32 f, .bool x] w R := by
  have HG := hid hf
  have HC := hid C
  have HL := hid hl
  have hx : l[l1.length]? = some (f, d) := by rw [hl, List.getElem?_append_right (Nat.le_refl _), Nat.sub_self]; rfl
  have hlt : l1.length < l.length := (List.getElem?_eq_some_iff.1 hx).1
  obtain ⟨g, cap, rfl, hgB, hgl, _, hc2⟩ := row_at C.items hx
  have c1 : w.cell? ⟨q, 1, none⟩ = some (.slice (some ⟨g, 0, none⟩) l.length cap) := cell_at C.head rfl
  have f1 : w.frozen? ⟨g, l1.length * 2 + 1, none⟩ = false := C.items.frozenAt _
  have HF : Hid (R (.returned (.int .i64 0)) (w.setCell ⟨g, l1.length * 2 + 1, none⟩ (.bool x))) := by
    have hgh : ∃ cur, w.heap[g]? = some (.cells cur 97 (0, 0)) := by
      rcases C.items.2 with ⟨h, _⟩ | ⟨g', cap', cur, h, _, hg, _⟩
      · simp at h
      · simp only [Value.slice.injEq, Option.some.injEq, Addr.mk.injEq, and_true, true_and] at h
        obtain ⟨rfl, rfl⟩ := h
        exact ⟨cur, hg⟩
    obtain ⟨cur, hg⟩ := hgh
    have hne : q ≠ g := fun e => by
      subst e
      have := C.head
      rw [hg] at this
      simp at this
    refine hR _ ⟨setCell_keep C.head _ _ hne, C.lo, ?_, owns_setCell hg C.dears (by decide)⟩ ((Fr.refl _ w).setCell (p := ⟨g, _, none⟩) (.inl (.inr rfl)) _)
    have := (C.items.stored (l1.length * 2 + 1) (.bool x)).1
    rw [hl, cells2_set] at this
    rw [hl]
    simpa using this
  clear hR hf C hl hx
  go_enter Try.func53, Try.ntmps53
  go_wp2_with (go_at_call 66; refine rat_yes (l1 := l1) (l2 := l2) (d := d) (by rw [← HL.out]; exact HC.out) (by rw [← HL.out]; exact hlen) HG.out ?_)
  exact HF.out

end

end Go.Proofs.Ytokhbjllgaaogaa
