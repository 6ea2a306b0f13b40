/- The reference's disk: Write. No condition beside that it lies there. -/
import Derived.Test.YtoffkaojhcnddaaRef3
import Derived.Test.YtoffkaojhcnddaaPush
namespace Go.Proofs.Ytoffkaojhcnddaa
set_option linter.unusedSimpArgs false
open Go.RowKit Go.Maps

theorem looseT : ElemT Try.prog 66 70 33 40 := ⟨by kernel_rfl, by kernel_rfl⟩

theorem run_mkLoose {w : World} {i : Int} {c : Array Value} (hc : c.size = 32) : (Instr.build 70 #[(0, .int .i64 i), (1, .agg c)]).run Try.prog w = .ok (.agg (row (i, c))) w :=
  run_build w _ _ _ (by rw [built_loose]; exact fill_loose hc)

theorem rwrite_nil {i : Int} {c : Array Value} {w : World} {R : Ending → World → Prop} (hR : ∀ w', Fr No w w' → R (.returned (.int .i64 1)) w') :
    Calls Try.prog 15 #[.pointer none, .int .i64 i, .agg c] w R := by
  have HR := hid hR
  clear hR
  go_enter Try.func15, Try.ntmps15
  go_wp2
  exact HR.out _ ((Fr.refl No w).alloc _)

set_option maxHeartbeats 400000 in
set_option maxRecDepth 100000 in
theorem rwrite_no {p n m : Nat} {sa : Option Addr} {i : Int} {c : Array Value} {w : World} {R : Ending → World → Prop} (h0 : w.cell? ⟨p, 0, none⟩ = some (.slice sa n m)) (h1 : i < 0 ∨ (n : Int) ≤ i)
    (hR : ∀ w', Fr No w w' → R (.returned (.int .i64 2)) w') :
    Calls Try.prog 15 #[.pointer (some ⟨p, 0, none⟩), .int .i64 i, .agg c] w R := by
  have c0' := cell_alloc h0 (.cells c 41)
  have HR := hid hR
  clear hR
  by_cases h : i < 0
  · clear h1
    go_enter Try.func15, Try.ntmps15
    go_wp2
    exact HR.out _ ((Fr.refl No w).alloc _)
  · have h2 : (n : Int) ≤ i := by omega
    clear h1
    go_enter Try.func15, Try.ntmps15
    go_wp2
    exact HR.out _ ((Fr.refl No w).alloc _)

theorem wpList_mkLoose {ops : Array Oper} {rest : List Oper} {o : Oper} {a : Act} {w : World} {Q : Exit → Act → World → Prop} {x y : Operand} {i : Int} {c : Array Value} (hc : Hid (IsSec c)) (hg : o.guard = none) (ho : o.op = .build 70 #[(0, x), (1, y)])
    (hx : a.eval x = .int .i64 i) (hy : a.eval y = .agg c) (h : wpList Try.prog ops Q rest (a.put o.dst (.agg (row (i, c)))) w) : wpList Try.prog ops Q (o :: rest) a w := by
  refine wpList_ok hg ?_ h
  unfold execOp
  simp only [ho, List.map_toArray, List.map_cons, List.map_nil, hx, hy, Sem.run_bind, run_mkLoose hc.out.1, Result.andThen_ok]
  rfl

theorem heap_setRow_at {w : World} {b : Nat} {cs : Array Value} {t : TypeId} {fr : Nat × Nat} (h : w.heap[b]? = some (.cells cs t fr)) (c : Array Value) : (w.setRow b c).heap[b]? = some (.cells c t fr) := by
  simp [World.setRow, Array.getElem?_modify, h]

/-- One cell is put. -/
theorem run_set1 {P : Program} {w : World} {b k : Nat} {cs cs' : Array Value} {v : Value} {e ty : TypeId} (hb : w.heap[b]? = some (.cells cs e (0, 0))) (hk : decide (k < cs.size) = true) (hi : (P.info? ty).map (·.size) = some 1) (h1 : v.oneCell' = true) (hc : mput cs k #[v] = cs') :
    (storeVar ty ⟨b, k, none⟩ v).run P w = .ok () (w.setRow b cs') := by
  have hv : v.cells = (Value.agg #[v]).cells := by cases v <;> first | rfl | cases h1
  have := run_mput (P := P) (ty := ty) (c := #[v]) hb (of_decide_eq_true hk) hi (by simpa using h1)
  unfold storeVar at this ⊢
  rw [hv, ← hc]; exact this

theorem rlooses1 : (Try.prog.info? 66).map (·.size) = some 1 := by kernel_rfl
theorem owns_one {w : World} {base : Nat} {e : TypeId} {sz : Nat} {v : Value} {n : Nat} {xs : List Value} (h : w.ownsRow base e sz v n xs) : v.oneCell' = true := by
  rcases h.2 with ⟨rfl, _⟩ | ⟨g, cap, cur, rfl, _⟩ <;> rfl

/-- The k-th entry's cells, all. -/
theorem buf_row {S : Nat → Prop} {w : World} {bv : Value} {l : List (Int × Array Value)} (h : RowsAt S w bv l.length 33 (flat l)) (hv : ∀ x ∈ l, IsSec x.2) {k : Nat} {x : Int × Array Value} (hx : l[k]? = some x) {b off cap : Nat} (hbv : bv = .slice (some ⟨b, off, none⟩) l.length cap) : w.rangeAt b (off + k * 33) (row x).toList := by
  obtain ⟨b', off', cap', e, _, _, h0, h1⟩ := buf_at h hv hx
  rw [hbv] at e
  simp only [Value.slice.injEq, true_and, Option.some.injEq, Addr.mk.injEq, and_true] at e
  obtain ⟨⟨rfl, rfl⟩, rfl⟩ := e
  intro j v hj
  cases j with
  | zero => simp [row] at hj; subst hj; exact h0
  | succ j =>
    simp [row] at hj
    rw [show off + k * 33 + (j + 1) = off + k * 33 + 1 + j by omega]
    exact h1 j v (by simpa using hj)

theorem Fr.range {S : Nat → Prop} {w w' : World} (h : Fr S w w') {b o : Nat} {cs : List Value} (hb : b < w.heap.size) (hS : ¬ S b) (hr : w.rangeAt b o cs) : w'.rangeAt b o cs := fun j v hj => (h.cell hb hS).trans (hr j v hj)

theorem srt_any {l : List (Int × Array Value)} (h : Srt l) {k : Nat} {x : Int × Array Value} (hx : l[k]? = some x) {i : Int} (ha : (l.take k).any (fun y => decide (i ≤ y.1)) = true) : i < x.1 := by
  obtain ⟨y, hy, hi⟩ := any_true ha
  obtain ⟨j, hj⟩ := List.mem_iff_getElem?.1 hy
  have hjk : j < k := by
    have := (List.getElem?_eq_some_iff.1 hj).1
    simp at this; omega
  rw [List.getElem?_take, if_pos hjk] at hj
  obtain ⟨hk, rfl⟩ := List.getElem?_eq_some_iff.1 hx
  obtain ⟨hj', rfl⟩ := List.getElem?_eq_some_iff.1 hj
  have := List.pairwise_iff_getElem.1 h j k hj' hk hjk
  omega

theorem aput_len {α : Type} (l : List (Int × α)) (i : Int) (c : α) : (aput l i c).length ≤ l.length + 1 := by
  induction l with
  | nil => simp [aput]
  | cons y r ih =>
    simp only [aput]
    split
    · simp
    · split
      · simp
      · simp only [List.length_cons]; omega
theorem wout_len {α : Type} (l : List (Int × α)) (i : Int) (c : α) : (wout l i c).length ≤ l.length + 1 := by
  unfold wout
  split
  · exact aput_len l i c
  · omega

theorem row33 {x : Int × Array Value} (h : Hid (IsSec x.2)) : (Value.agg (row x)).cells.size = 33 := row_size h.out
theorem rowone {x : Int × Array Value} (h : Hid (IsSec x.2)) : Hid (∀ u ∈ (Value.agg (row x)).cells.toList, u.oneCell' = true) := row_one h.out
theorem rloosesU : (Try.prog.underlying 70).map (·.isRow) = some true := by kernel_rfl
theorem run_row33 {w : World} {b o : Nat} {x : Int × Array Value} (hx : Hid (IsSec x.2)) (h : Hid (w.rangeAt b o (row x).toList)) : (loadVar 70 ⟨b, o, none⟩).run Try.prog w = .ok (.agg (row x)) w := by
  cases hu : Try.prog.underlying 70 with
  | none => have := rloosesU; simp [hu] at this
  | some d =>
    have h2 := rloosesU
    simp only [hu, Option.map_some, Option.some.injEq] at h2
    have := run_loadVar_mid (P := Try.prog) w b o _ (row x).toList _ h.out hu h2 (by rw [looseI, Array.length_toList, row_size hx.out])
    rwa [Array.toArray_toList] at this

set_option maxHeartbeats 4000000 in
set_option maxRecDepth 100000 in
theorem rwrite_ok {S : Nat → Prop} {p n cap : Nat} {cs : Array Value} {l : List (Int × Array Value)} {bs : Nat} {bv : Value} {i : Nat} {c : Array Value} {w : World} {R : Ending → World → Prop} (H : RefAt S w p n cap cs l bs bv) (hc : IsSec c) (h1 : i < n) (hS : ∀ b, S b → b < w.heap.size)
    (hR : ∀ w' bv', RefAt S w' p n cap cs (aput l i c) bs bv' → Fr (fun b => b = p) w w' → R (.returned (.int .i64 0)) w') :
    Calls Try.prog 15 #[.pointer (some ⟨p, 0, none⟩), .int .i64 i, .agg c] w R := by
  have c0' := cell_alloc (cell_at (o := 0) H.head rfl) (.cells c 41)
  simp only [List.getElem_toArray, List.getElem_cons_zero] at c0'
  have F1 : Hid (Fr No w (w.alloc (.cells c 41))) := (Fr.refl No w).alloc _
  have B1 : Hid ((w.alloc (.cells c 41)).heap[w.heap.size]? = some (.cells c 41 (0, 0))) := heap_alloc_new w _
  have Z1 : Hid (w.heap.size + 1 = (w.alloc (.cells c 41)).heap.size) := by show _ = _; simp
  have HS := hid hS
  have HC := hid hc
  have h1' : (i : Int) < n := by omega
  have h0' : 0 ≤ (i : Int) := by omega
  have HR := hid hR
  have HH := hid H
  have hfew := H.few
  have hmost := H.most
  obtain ⟨_, ba, bc, rfl, _⟩ := H.buf
  clear hR H hS hc
  go_enter Try.func15, Try.ntmps15
  go_wp2
  generalize hW1 : w.alloc (.cells c 41) = w1 at *
  have HR1 : Hid (RefAt S w1 p n cap cs l bs (.slice ba l.length bc)) := HH.out.no F1.out
  clear c0' hW1
  go_loopw [7, 8, 9] (fun t7 t8 t9 wr => ∃ k : Nat, k ≤ l.length ∧ t9 = .int .i64 k ∧ t8 = .bool ((l.take k).any (fun y => decide ((i : Int) ≤ y.1))) ∧ Hid (wr.ownsRow (w.heap.size + 1) 70 33 t7 (wout (l.take k) (i : Int) c).length (flat (wout (l.take k) (i : Int) c))) ∧ Hid (Fr No w1 wr)) (fun _ _ t9 _ => l.length - (intOf t9).toNat)
  case atStart => exact ⟨0, Nat.zero_le _, rfl, rfl, World.ownsRow_nil _ _ _ _, Fr.refl _ _⟩
  case round =>
    obtain ⟨k, hk, rfl, rfl, ho, hf⟩ := hrel
    have HF := hid hf.out
    have HO := hid ho.out
    clear hf ho
    have q0 : wr.cell? ⟨p, 1, none⟩ = some (.slice ba l.length bc) := cell_at (o := 1) (HF.out.keep HR1.out.head (fun h => h)) rfl
    have HL : Hid ((wout (l.take k) (i : Int) c).length ≤ k + 1) := Nat.le_trans (wout_len _ _ _) (by simp; omega)
    by_cases hlt : k < l.length
    · obtain ⟨x, hx⟩ : ∃ x, l[k]? = some x := ⟨l[k], List.getElem?_eq_getElem hlt⟩
      obtain ⟨b, off, cp, e, hbl, _, hcell1, _⟩ := buf_at HR1.out.buf HR1.out.vals hx
      have hrow := buf_row HR1.out.buf HR1.out.vals hx e
      simp only [Value.slice.injEq, true_and] at e
      obtain ⟨rfl, rfl⟩ := e
      have HQ : Hid (∀ W, Fr No w1 W → W.cell? ⟨p, 1, none⟩ = some (.slice (some ⟨b, off, none⟩) l.length bc) ∧ W.cell? ⟨b, off + k * 33, none⟩ = some (.int .i64 x.1) ∧ W.rangeAt b (off + k * 33) (row x).toList ∧ W.heap[w.heap.size]? = some (.cells c 41 (0, 0))) :=
        fun W h => ⟨cell_at (o := 1) (h.keep HR1.out.head (fun h => h)) rfl, (h.cell hbl (fun h => h)).trans hcell1, h.range hbl (fun h => h) hrow, h.keep B1.out (fun h => h)⟩
      clear hcell1 hrow hbl
      obtain ⟨_, q1, q2, q3⟩ := HQ.out wr HF.out
      have Q2 := hid q2
      clear q2
      have HX : Hid (IsSec x.2) := HR1.out.vals _ (List.mem_of_getElem? hx)
      have HIC : Hid (IsSec ((i : Int), c).2) := HC.out
      have HT := hid looseT
      have hkl : k ≤ 2048 := by omega
      have HTK := hid (take_snoc' hx)
      cases hany : (l.take k).any (fun y => decide ((i : Int) ≤ y.1)) with
      | true =>
        have hix : (i : Int) < x.1 := srt_any HR1.out.srt hx hany
        have hne : ((i : Int) == x.1) = false := by simp; omega
        have HY := hid (wout_in (x := x) (c := c) hany)
        clear hx hany
        go_wp2_with (first
          | (refine wpList_loadVar (x := .tmp 70) rfl rfl rfl (run_row33 HX Q2) ?_)
          | (refine wpList_push _ _ 33 40 HT (by decide) (by decide) rfl _ rfl _ rfl rfl _ rfl _ rfl (row33 HX) (rowone HX) _ (fun _ => rfl) (fun _ => rfl) w1 (w.heap.size + 1) Z1 HF _ _ HO (by have := HL.out; simp only [maxLen]; omega) (by have := HL.out; omega) ?_; intro v' w' ho' hf' hn'; obtain ⟨q1', q2', q3', q4'⟩ := HQ.out w' hf'.out; clear q1 q0 q3 Q2 HO HF; have q0 := q1'; clear q1'; have q1 := q2'; clear q2'; have q3 := q4'; clear q4'; have Q2 := hid q3'; clear q3'; have HO := ho'; clear ho'; have HF := hf'; clear hf'))
        go_roundw
        case rel => exact ⟨_, _, _, ⟨k + 1, by omega, by go_num, by rw [HTK.out, HY.out.2], by rw [HTK.out, HY.out.1]; rw [flat_snoc, List.length_append]; exact HO⟩, rfl, rfl, rfl⟩
        case measure => simp [intOf]; omega
      | false =>
        rcases Int.lt_trichotomy (i : Int) x.1 with hix | hix | hix
        · have hne : ((i : Int) == x.1) = false := by simp; omega
          have hle : (i : Int) ≤ x.1 := by omega
          have HY := hid (wout_lt (x := x) (c := c) hany hix)
          clear hx hany
          go_wp2_with (first
            | (refine wpList_loadVar (x := .tmp 5) rfl rfl rfl (load_row (by assumption) rsectorU HC.out.rinfo) ?_)
            | (refine wpList_mkLoose HC rfl rfl rfl rfl ?_)
            | (refine wpList_loadVar (x := .tmp 70) rfl rfl rfl (run_row33 HX Q2) ?_)
            | (refine wpList_push _ _ 33 40 HT (by decide) (by decide) rfl _ rfl _ rfl rfl _ rfl _ rfl (row33 (x := ((i : Int), c)) HIC) (rowone (x := ((i : Int), c)) HIC) _ (fun _ => rfl) (fun _ => rfl) w1 (w.heap.size + 1) Z1 HF _ _ HO (by have := HL.out; simp only [maxLen]; omega) (by have := HL.out; omega) ?_; intro v' w' ho' hf' hn'; obtain ⟨q1', q2', q3', q4'⟩ := HQ.out w' hf'.out; clear q1 q0 q3 Q2 HO HF; have q0 := q1'; clear q1'; have q1 := q2'; clear q2'; have q3 := q4'; clear q4'; have Q2 := hid q3'; clear q3'; have HO := ho'; clear ho'; have HF := hf'; clear hf')
            | (refine wpList_push _ _ 33 40 HT (by decide) (by decide) rfl _ rfl _ rfl rfl _ rfl _ rfl (row33 HX) (rowone HX) _ (fun _ => rfl) (fun _ => rfl) w1 (w.heap.size + 1) Z1 HF _ _ HO (by have := HL.out; simp only [maxLen]; omega) (by have := HL.out; omega) ?_; intro v' w' ho' hf' hn'; obtain ⟨q1', q2', q3', q4'⟩ := HQ.out w' hf'.out; clear q1 q0 q3 Q2 HO HF; have q0 := q1'; clear q1'; have q1 := q2'; clear q2'; have q3 := q4'; clear q4'; have Q2 := hid q3'; clear q3'; have HO := ho'; clear ho'; have HF := hf'; clear hf'))
          go_roundw
          case rel => exact ⟨_, _, _, ⟨k + 1, by omega, by go_num, by rw [HTK.out, HY.out.2], by rw [HTK.out, HY.out.1]; rw [flat_snoc, flat_snoc, List.length_append, List.length_append]; exact HO⟩, rfl, rfl, rfl⟩
          case measure => simp [intOf]; omega
        · have hne : ((i : Int) == x.1) = true := by simpa using hix
          have hle : (i : Int) ≤ x.1 := by omega
          have HIX := hid hix
          have HY := hid (wout_eq (x := x) (c := c) hany hix)
          clear hx hany
          go_wp2_with (first
            | (refine wpList_loadVar (x := .tmp 5) rfl rfl rfl (load_row (by assumption) rsectorU HC.out.rinfo) ?_)
            | (refine wpList_mkLoose HC rfl rfl rfl rfl ?_)
            | (refine wpList_push _ _ 33 40 HT (by decide) (by decide) rfl _ rfl _ rfl rfl _ rfl _ rfl (row33 (x := ((i : Int), c)) HIC) (rowone (x := ((i : Int), c)) HIC) _ (fun _ => rfl) (fun _ => rfl) w1 (w.heap.size + 1) Z1 HF _ _ HO (by have := HL.out; simp only [maxLen]; omega) (by have := HL.out; omega) ?_; intro v' w' ho' hf' hn'; obtain ⟨q1', q2', q3', q4'⟩ := HQ.out w' hf'.out; clear q1 q0 q3 Q2 HO HF; have q0 := q1'; clear q1'; have q1 := q2'; clear q2'; have q3 := q4'; clear q4'; have Q2 := hid q3'; clear q3'; have HO := ho'; clear ho'; have HF := hf'; clear hf'))
          go_roundw
          case rel => exact ⟨_, _, _, ⟨k + 1, by omega, by go_num, by rw [HTK.out, ← HIX.out, HY.out.2], by rw [HTK.out, ← HIX.out, HY.out.1]; rw [flat_snoc, List.length_append]; exact HO⟩, rfl, rfl, rfl⟩
          case measure => simp [intOf]; omega
        · have hne : ((i : Int) == x.1) = false := by simp; omega
          have hle : ¬ (i : Int) ≤ x.1 := by omega
          have HY := hid (wout_gt (x := x) (c := c) hany hix)
          clear hx hany
          go_wp2_with (first
            | (refine wpList_loadVar (x := .tmp 70) rfl rfl rfl (run_row33 HX Q2) ?_)
            | (refine wpList_push _ _ 33 40 HT (by decide) (by decide) rfl _ rfl _ rfl rfl _ rfl _ rfl (row33 HX) (rowone HX) _ (fun _ => rfl) (fun _ => rfl) w1 (w.heap.size + 1) Z1 HF _ _ HO (by have := HL.out; simp only [maxLen]; omega) (by have := HL.out; omega) ?_; intro v' w' ho' hf' hn'; obtain ⟨q1', q2', q3', q4'⟩ := HQ.out w' hf'.out; clear q1 q0 q3 Q2 HO HF; have q0 := q1'; clear q1'; have q1 := q2'; clear q2'; have q3 := q4'; clear q4'; have Q2 := hid q3'; clear q3'; have HO := ho'; clear ho'; have HF := hf'; clear hf'))
          go_roundw
          case rel => exact ⟨_, _, _, ⟨k + 1, by omega, by go_num, by rw [HTK.out, HY.out.2], by rw [HTK.out, HY.out.1]; rw [flat_snoc, List.length_append]; exact HO⟩, rfl, rfl, rfl⟩
          case measure => simp [intOf]; omega
    · obtain rfl : k = l.length := by omega
      rw [List.take_length] at HO HL ⊢
      have HT := hid looseT
      have HIC : Hid (IsSec ((i : Int), c).2) := HC.out
      have q3 : wr.heap[w.heap.size]? = some (.cells c 41 (0, 0)) := HF.out.keep B1.out (fun h => h)
      have hkl : l.length ≤ 2048 := by omega
      have HQ : Hid (∀ W, Fr No w1 W → W.cell? ⟨p, 1, none⟩ = some (.slice ba l.length bc) ∧ W.heap[p]? = some (.cells #[.slice (some ⟨bs, 0, none⟩) n cap, .slice ba l.length bc] 68 (0, 0))) :=
        fun W h => ⟨cell_at (o := 1) (h.keep HR1.out.head (fun h => h)) rfl, h.keep HR1.out.head (fun h => h)⟩
      have FIN : Hid (∀ W v, Fr No w1 W → W.ownsRow (w.heap.size + 1) 70 33 v (aput l (i : Int) c).length (flat (aput l (i : Int) c)) → R (.returned (.int .i64 0)) (W.setRow p #[.slice (some ⟨bs, 0, none⟩) n cap, v])) := by
        intro W v hF hO
        have hF2 : Fr No w W := F1.out.no hF
        have hh := HR1.out
        have hB : ∀ b, w.heap.size + 1 ≤ b → ¬ S b := fun b hb hs => by have := HS.out b hs; omega
        have hF3 : Fr (fun b => b = p) W (W.setRow p #[.slice (some ⟨bs, 0, none⟩) n cap, v]) := (Fr.refl (fun b => b = p) W).setRow (.inl rfl) _
        refine HR.out _ v ⟨?_, setRow_keep (hF.keep hh.secs (fun h => h)) _ _ (fun e => hh.outS (by rw [e]; exact hh.inS)), hh.size, hh.most, hh.byte, ?_, Srt.put hh.srt _ _, fun y hy => ?_, fun y hy => ?_, hh.inS, hh.outS⟩ (hF2.any.trans hF3 (fun _ h => .inl h))
        · exact heap_setRow_at (hF.keep hh.head (fun h => h)) _
        · exact (RowsAt.of_owns hO hB).fr hF3 (fun b hb => by rw [hb]; exact hh.inS)
        · rcases aput_mem hy with rfl | hy
          · exact ⟨by omega, by omega⟩
          · exact hh.keys y hy
        · rcases aput_mem hy with rfl | hy
          · exact HC.out
          · exact hh.vals y hy
      have HO1 := hid (owns_one HO.out)
      have q5 : wr.heap[p]? = some (.cells #[.slice (some ⟨bs, 0, none⟩) n cap, .slice ba l.length bc] 68 (0, 0)) := HF.out.keep HR1.out.head (fun h => h)
      have HE := hid (wout_end (m := l) (i := (i : Int)) (c := c))
      cases hany : l.any (fun y => decide ((i : Int) ≤ y.1)) with
      | true =>
        go_wp2_with (refine wpList_storeVar (x := .tmp 85) rfl rfl rfl rfl (run_set1 q5 rfl rlooses1 HO1.out rfl) ?_)
        refine FIN.out _ _ HF.out ?_
        have := HE.out
        rw [hany, if_pos rfl] at this
        rw [← this]; exact HO.out
      | false =>
        go_wp2_with (first
          | (refine wpList_storeVar (x := .tmp 85) rfl rfl rfl rfl (run_set1 q5 rfl rlooses1 HO1.out rfl) ?_)
          | (refine wpList_loadVar (x := .tmp 5) rfl rfl rfl (load_row (by assumption) rsectorU HC.out.rinfo) ?_)
          | (refine wpList_mkLoose HC rfl rfl rfl rfl ?_)
          | (refine wpList_push _ _ 33 40 HT (by decide) (by decide) rfl _ rfl _ rfl rfl _ rfl _ rfl (row33 (x := ((i : Int), c)) HIC) (rowone (x := ((i : Int), c)) HIC) _ (fun _ => rfl) (fun _ => rfl) w1 (w.heap.size + 1) Z1 HF _ _ HO (by have := HL.out; simp only [maxLen]; omega) (by have := HL.out; omega) ?_; intro v' w' ho' hf' hn'; have q0' := HQ.out w' hf'.out; clear q0 q3 q5 HF HO HO1; obtain ⟨q0, q5⟩ := q0'; have HO := ho'; have HF := hf'; have HO1 := hid (owns_one HO.out); clear ho' hf'))
        refine FIN.out _ _ HF.out ?_
        have := HE.out
        rw [hany, if_neg (by simp)] at this
        rw [← this, flat_snoc, List.length_append]; exact HO.out

end Go.Proofs.Ytoffkaojhcnddaa
