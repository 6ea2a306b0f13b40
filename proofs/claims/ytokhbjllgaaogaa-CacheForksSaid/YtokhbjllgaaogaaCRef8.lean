/- The reference's cache: Walk, Fork. No condition beside that it lies there. -/
import Derived.Test.YtokhbjllgaaogaaCRef7
namespace Go.Proofs.Ytokhbjllgaaogaa
set_option linter.unusedSimpArgs false
open Go.RowKit Go.Maps
attribute [local irreducible] wpQuiet wpAnyH

theorem Fr.of_none {w w' : World} (h : w.grownBy w' none) : Fr No w w' := (Fr.refl No w).grown h (fun _ hk => by cases hk)
theorem owns_keep {w w' : World} {b : Nat} {e : TypeId} {sz : Nat} {v : Value} {n : Nat} {cs : List Value} (h : w.ownsRow b e sz v n cs) (hg : w.grownBy w' none) : w'.ownsRow b e sz v n cs :=
  h.kept hg (by cases hv : v.ownBlock <;> simp)

/-- append(v, x...), v a row of the call's own, x any row. -/
theorem wpList_join {P : Program} {ops : Array Oper} {rest : List Oper} {o : Oper} {a : Act} {w : World} {Q : Exit → Act → World → Prop} (T e : TypeId) (sz bytes : Nat) (hT : Hid (ElemT P T e sz bytes)) (hsz : 0 < sz)
    (hg : o.guard = none) (s x : Operand) (ho : o.op = .call { callee := .builtin .append, args := #[s, x], argTypes := #[T, T] })
    (v : Value) (hs : a.eval s = v) (xv : Value) (hx : a.eval x = xv) (n m : Nat) (xs ys : List Value) (hrow : Hid (RowsAt No w xv m sz ys)) (h1 : Hid (∀ u ∈ ys, u.oneCell' = true))
    (w0 : World) (base : Nat) (hb0 : Hid (base = w0.heap.size)) (hf : Hid (Fr No w0 w)) (hown : Hid (w.ownsRow base e sz v n xs)) (h63 : n + m ≤ maxLen) (hbytes : (n + m) * bytes ≤ 140737488355328)
    (h : ∀ v' w', Hid (w'.ownsRow base e sz v' (n + m) (xs ++ ys)) → Hid (Fr No w0 w') → wpList P ops Q rest (a.put o.dst v') w') : wpList P ops Q (o :: rest) a w := by
  obtain ⟨i, z, hu, hi, hz, hsize, hby, hzs⟩ := hT.out.get
  obtain ⟨hl, xa, cap, rfl, hr⟩ := hrow.out
  have key : ∃ v' w', (Builtin.append_ #[T, T] o.type #[v, .slice xa m cap]).run P w = .ok v' w' ∧ w'.ownsRow base e sz v' (n + m) (xs ++ ys) ∧ w.grownBy w' v.ownBlock := by
    cases xa with
    | none =>
      obtain rfl : m = 0 := by
        rcases hr with h | ⟨b, off, h, _⟩
        · exact h
        · cases h
      obtain rfl : ys = [] := List.eq_nil_of_length_eq_zero (by simpa using hl)
      rcases id hown.out.2 with ⟨rfl, rfl⟩ | ⟨g, cap', cur, rfl, hg, hh, hle, _⟩
      · exact ⟨_, w, run_append_nothing w T T o.type e i hu hi _ 0 0 (Nat.le_refl _) _ (Src.ofNil _ hu cap), by rw [List.append_nil]; exact hown.out, ⟨rfl, rfl, rfl, Nat.le_refl _, fun _ _ _ => rfl⟩⟩
      · exact ⟨_, w, run_append_nothing w T T o.type e i hu hi _ n cap' hle _ (Src.ofNil _ hu cap), by rw [List.append_nil]; exact hown.out, ⟨rfl, rfl, rfl, Nat.le_refl _, fun _ _ _ => rfl⟩⟩
    | some ad =>
      have hcells : ∀ j u, ys[j]? = some u → w.cell? (ad.add j) = some u := by
        intro j u hj
        rcases hr with h | ⟨b, off, h, _, _, hc⟩
        · subst h
          have : ys = [] := List.eq_nil_of_length_eq_zero (by simpa using hl)
          subst this; simp at hj
        · simp only [Option.some.injEq] at h
          subst h
          rw [Addr.add_mid]
          exact hc j u hj
      obtain ⟨v', w', h1, h2, h3, _⟩ := run_append_own (P := P) w base T o.type e i z sz bytes hu hi hz hsize hby hzs hsz v n xs hown.out ad m cap ys hl hcells h1.out h63 hbytes (by rw [hb0.out]; exact hf.out.size)
      exact ⟨v', w', h1, h2, h3⟩
  obtain ⟨v', w', hk, h2, h3⟩ := key
  refine wpList_ok hg ?_ (h v' w' h2 (Fr.of_grown hf.out (Nat.le_of_eq hb0.out.symm) hown.out h3))
  unfold execOp
  simp only [ho, resolve, invoke, builtin, Sem.run_bind, Sem.run_pure, Result.andThen_ok, List.map_toArray, List.map_cons, List.map_nil, hs, hx, hk]

theorem encU_one (l : List Int) : ∀ u ∈ l.map encU, u.oneCell' = true := fun u hu => by
  obtain ⟨x, _, rfl⟩ := List.mem_map.1 hu
  rfl

/-- Those as dear as n, and not at hand. -/
def sel (l : List (Int × Bool)) (n : Int) (dh : List (Int × Int)) : List Int := (dh.filter fun x => decide (x.2 = n) && (aget l x.1).isNone).map (·.1)
theorem sel_len (l : List (Int × Bool)) (n : Int) (dh : List (Int × Int)) : (sel l n dh).length ≤ dh.length := by unfold sel; rw [List.length_map]; exact List.length_filter_le _ _
theorem sel_snoc_yes {l : List (Int × Bool)} {n : Int} {dh : List (Int × Int)} {x : Int × Int} (h1 : x.2 = n) (h2 : aget l x.1 = none) : sel l n (dh ++ [x]) = sel l n dh ++ [x.1] := by
  unfold sel
  rw [List.filter_append, List.filter_cons_of_pos (by simp [h1, h2]), List.filter_nil, List.map_append]
  rfl
theorem sel_snoc_no {l : List (Int × Bool)} {n : Int} {dh : List (Int × Int)} {x : Int × Int} (h : ¬ (x.2 = n ∧ aget l x.1 = none)) : sel l n (dh ++ [x]) = sel l n dh := by
  unfold sel
  rw [List.filter_append, List.filter_cons_of_neg (by simp; intro h1 h2; exact h ⟨h1, h2⟩), List.filter_nil, List.append_nil]

/-- What the reference's Walk holds behind some rounds. -/
def rwk (l : List (Int × Bool)) (dh : List (Int × Int)) : Nat → List Int
  | 0 => []
  | j + 1 => rwk l dh j ++ insAll (sel l (100 - (j : Nat)) dh)
theorem rwk_len (l : List (Int × Bool)) (dh : List (Int × Int)) : ∀ j, (rwk l dh j).length ≤ j * dh.length
  | 0 => by simp [rwk]
  | j + 1 => by
    have h1 := rwk_len l dh j
    have h2 := sel_len l (100 - (j : Nat)) dh
    simp only [rwk, List.length_append, insAll_len, Nat.add_mul]
    omega

theorem rdearsU : Try.prog.underlying 83 = some (.slice 99) := by kernel_rfl

section
variable {B : Nat} {w : World} {q : Nat} {m : Int} {l : List (Int × Bool)} {dh : List (Int × Int)} {vl vh : Value} {R : Ending → World → Prop}

set_option maxHeartbeats 8000000 in
set_option maxRecDepth 100000 in
theorem rwalk_ok (C : RefC B w q m l dh vl vh) (hlen : l.length < 900) (hdl : dh.length ≤ 8) (hR : ∀ w' v, Reads w' v (rwk l dh 100) → Fr No w w' → R (.returned v) w') :
    Calls Try.prog 49 #[.pointer (some ⟨q, 0, none⟩)] w R := by
  have HR := hid hR
  have HC := hid C
  have HT := hid fidT
  have HLEN : Hid (l.length < 1000) := by show _ < _; omega
  have HD8 := hid hdl
  obtain ⟨sb, cb, rfl⟩ := owns_shape C.dears
  clear hR C hlen
  go_enter Try.func49, Try.ntmps49
  go_wp2
  go_loopw [3, 4] (fun t3 t4 wr => ∃ j : Nat, j ≤ 100 ∧ t4 = .int .i64 (100 - (j : Nat)) ∧ Hid (wr.ownsRow w.heap.size 27 1 t3 (rwk l dh j).length ((rwk l dh j).map encU)) ∧ Hid (Fr No w wr)) (fun _ t4 _ => (intOf t4).toNat)
  case atStart => exact ⟨0, Nat.zero_le _, rfl, World.ownsRow_nil _ _ _ _, Fr.refl _ _⟩
  case round =>
    obtain ⟨j, hj, rfl, ho, hf⟩ := hrel
    rename World => wr
    have HO := hid ho.out
    have HF := hid hf.out
    clear ho hf
    by_cases hlt : j < 100
    · obtain ⟨n, hn⟩ : ∃ n : Int, n = 100 - (j : Nat) := ⟨_, rfl⟩
      have HN := hid hn
      have hn0 : 0 < n := by omega
      have hn1 : n ≤ 100 := by omega
      rw [← hn]
      clear hn
      go_wp2
      go_loopw [5, 6] (fun t5 t6 ws => ∃ k : Nat, k ≤ dh.length ∧ t6 = .int .i64 (k : Nat) ∧ Hid (Reads ws t5 (insAll (sel l n (dh.take k)))) ∧ Hid (Fr No wr ws)) (fun _ t6 _ => dh.length - (intOf t6).toNat)
      case atStart => exact ⟨0, Nat.zero_le _, rfl, reads_nil _ _ _, Fr.refl _ _⟩
      case round =>
        obtain ⟨k, hk, rfl, hr, hf⟩ := hrel
        rename World => ws
        have HRD := hid hr.out
        have HFS := hid hf.out
        have HFW := hid (HF.out.no hf.out)
        clear hr hf
        have C1 := HC.out.no HFW.out
        have c1 : ws.cell? ⟨q, 2, none⟩ = some (.slice sb dh.length cb) := cell_at C1.head rfl
        have hd8 := HD8.out
        by_cases hkl : k < dh.length
        · obtain ⟨x, hx⟩ : ∃ x, dh[k]? = some x := ⟨dh[k], List.getElem?_eq_getElem hkl⟩
          obtain ⟨g, cap', e, _, _, hc0, hc1⟩ := row_at C1.dears hx
          simp only [Value.slice.injEq, true_and] at e
          obtain ⟨rfl, rfl⟩ := e
          have HTK : Hid (dh.take (k + 1) = dh.take k ++ [x]) := by show _ = _; rw [List.take_add_one, hx]; rfl
          have HLN : Hid ((insAll (sel l n (dh.take k))).length < 1000) := by
            show _ < _
            have := sel_len l n (dh.take k)
            rw [insAll_len]
            rw [List.length_take] at this
            omega
          have HC1 := hid C1
          clear hx C1
          by_cases hxn : x.2 = n
          · have HXN := hid hxn
            have hxb : (x.2 == n) = true := by simpa using hxn
            clear hxn
            cases hg : aget l x.1 with
            | some d =>
              have HNO : Hid (sel l n (dh.take (k + 1)) = sel l n (dh.take k)) := by show _ = _; rw [HTK.out]; exact sel_snoc_no (fun h => by rw [hg] at h; cases h.2)
              have HG : Hid ((aget l x.1).isSome = true) := by show _ = _; rw [hg]; rfl
              clear hg
              go_wp2_with (go_at_call 44; refine rhas_ok HC1.out HLEN.out ?_; rw [HG.out])
              go_roundw
              case rel => exact ⟨k + 1, by omega, by go_num, by rw [HNO.out]; exact HRD, HFS⟩
              case measure => simp [intOf]; omega
            | none =>
              have HYES : Hid (sel l n (dh.take (k + 1)) = sel l n (dh.take k) ++ [x.1]) := by show _ = _; rw [HTK.out]; exact sel_snoc_yes HXN.out hg
              have HG : Hid ((aget l x.1).isSome = false) := by show _ = _; rw [hg]; rfl
              clear hg
              go_wp2_with (first
                | (go_at_call 44; refine rhas_ok HC1.out HLEN.out ?_; rw [HG.out])
                | (go_at_call 67; refine insert_ok HRD.out HLN.out ?_; intro v2 w2 ho hf; have HO2 := hid (reads_own ho); have HF2 := hid (HFS.out.no hf); clear ho hf))
              go_roundw
              case rel => exact ⟨k + 1, by omega, by go_num, by rw [HYES.out, insAll_snoc]; exact HO2, HF2⟩
              case measure => simp [intOf]; omega
          · have HNO : Hid (sel l n (dh.take (k + 1)) = sel l n (dh.take k)) := by show _ = _; rw [HTK.out]; exact sel_snoc_no (fun h => hxn h.1)
            have hxb : (x.2 == n) = false := by simpa using hxn
            clear hxn
            go_wp2
            go_roundw
            case rel => exact ⟨k + 1, by omega, by go_num, by rw [HNO.out]; exact HRD, HFS⟩
            case measure => simp [intOf]; omega
        · obtain rfl : k = dh.length := by omega
          rw [List.take_length] at HRD
          have HONE := hid (encU_one (insAll (sel l n dh)))
          have HOW : Hid (ws.ownsRow w.heap.size 27 1 _ (rwk l dh j).length ((rwk l dh j).map encU)) := HFS.out.owns HO.out (fun _ _ _ h => h)
          have HB1 : (rwk l dh j).length ≤ 800 := by
            have h1 := rwk_len l dh j
            have h2 : j * dh.length ≤ 100 * 8 := Nat.mul_le_mul (by omega) hd8
            omega
          have HB2 : (insAll (sel l n dh)).length ≤ 8 := by have := sel_len l n dh; rw [insAll_len]; omega
          have HE : Hid (rwk l dh (j + 1) = rwk l dh j ++ insAll (sel l n dh)) := by show rwk l dh (j + 1) = _; simp only [rwk]; rw [HN.out]
          clear C1
          go_wp2_with (refine wpList_join _ _ 1 4 HT (by decide) rfl _ _ rfl _ rfl _ rfl _ _ _ _ HRD HONE w w.heap.size (hid rfl) HFW HOW (by simp only [maxLen]; omega) (by omega) ?_; intro v5 w5 o5 f5; have H5 := hid o5.out; have F5 := hid f5.out; clear o5 f5)
          go_roundw
          case rel => exact ⟨j + 1, by omega, by have := HN.out; congr 1; omega, by show Hid _; rw [HE.out, List.length_append, List.map_append]; exact H5, F5⟩
          case measure => simp [intOf]; omega
    · obtain rfl : j = 100 := by omega
      go_wp2
      exact HR.out _ _ (reads_own HO.out) HF.out

theorem rmostU : Try.prog.underlying 35 = some (.pointer 85) := by kernel_rfl
theorem var_rdears {w : World} {p : Nat} {c : Array Value} {t : TypeId} {fr : Nat × Nat} {v : Value} {o : Nat} (h : w.heap[p]? = some (.cells c t fr)) (hv : c[o]? = some v) : (loadVar 83 ⟨p, o, none⟩).run Try.prog w = .ok v w := var_cell rdearsU rfl (cell_at h hv)
theorem rfieldC2 (b : Nat) (W : World) : (Instr.fieldAt 85 (.pointer (some ⟨b, 0, none⟩)) 2).run Try.prog W = .ok (.pointer (some ⟨b, 2, none⟩)) W := by kernel_rfl

set_option maxHeartbeats 8000000 in
set_option maxRecDepth 100000 in
theorem rfork_ok (C : RefC B w q m l dh vl vh) (hlen : l.length < 900) (hdl : dh.length ≤ 8) (hR : ∀ w' q' vl' vh', RefC w.heap.size w' q' m l dh vl' vh' → Fr No w w' → R (.returned (.pointer (some ⟨q', 0, none⟩))) w') :
    Calls Try.prog 24 #[.pointer (some ⟨q, 0, none⟩)] w R := by
  have HR := hid hR
  have HC := hid C
  obtain ⟨sa, ca, rfl⟩ := owns_shape C.items
  obtain ⟨sb, cb, rfl⟩ := owns_shape C.dears
  have hitems : Hid (∀ W, Fr No w W → RowsAt No W (.slice sa l.length ca) l.length 2 (cells2 encB l)) := fun W hW => RowsAt.of_owns (S := No) (HC.out.no hW).items (fun _ _ h => h)
  have hdears : Hid (∀ W, Fr No w W → RowsAt No W (.slice sb dh.length cb) dh.length 2 (cells2 encD dh)) := fun W hW => RowsAt.of_owns (S := No) (HC.out.no hW).dears (fun _ _ h => h)
  have honeI : Hid (∀ u ∈ cells2 encB l, u.oneCell' = true) := cells2_one (fun b => rfl)
  have honeD : Hid (∀ u ∈ cells2 encD dh, u.oneCell' = true) := cells2_one (fun b => rfl)
  clear hR C
  go_enter Try.func24, Try.ntmps24
  go_wp2
  refine region_held (n := 19) (Fr No w) follows (by kernel_rfl) ?_
  have HS : Fr No w w.drew := (Fr.refl No w).drew
  (refine h_val 0 rfl (by kernel_rfl) (by kernel_rfl) (by kernel_rfl) (fun _ _ _ h => h) HS (by kernel_rfl) (fun W _ => run_move rfl rfl W) ?_; simp only [Act.put, Act.eval, Array.getD_eq_getD_getElem?, List.setIfInBounds_toArray, List.set_cons_succ, List.set_cons_zero, List.getElem?_toArray, List.getElem?_cons_succ, List.getElem?_cons_zero, Option.getD_some])
  (refine h_val 1 rfl (by kernel_rfl) (by kernel_rfl) (by kernel_rfl) (fun _ _ _ h => h) HS (by kernel_rfl) (fun W _ => run_nilCheck rfl rfl W) ?_; simp only [Act.put, Act.eval, Array.getD_eq_getD_getElem?, List.setIfInBounds_toArray, List.set_cons_succ, List.set_cons_zero, List.getElem?_toArray, List.getElem?_cons_succ, List.getElem?_cons_zero, Option.getD_some])
  (refine h_val 2 rfl (by kernel_rfl) (by kernel_rfl) (by kernel_rfl) (fun _ _ _ h => h) HS (by kernel_rfl) (fun W _ => run_field rfl rfl (rfieldC0 q) W) ?_; simp only [Act.put, Act.eval, Array.getD_eq_getD_getElem?, List.setIfInBounds_toArray, List.set_cons_succ, List.set_cons_zero, List.getElem?_toArray, List.getElem?_cons_succ, List.getElem?_cons_zero, Option.getD_some])
  (refine h_val (v := .int .i64 m) 3 rfl (by kernel_rfl) (by kernel_rfl) (by kernel_rfl) (fun _ _ _ h => h) HS (by kernel_rfl) (fun W hW => run_loadv rfl rfl (var_cell rintU rfl (cell_at (hW.keep HC.out.head (fun h => h)) rfl))) ?_; simp only [Act.put, Act.eval, Array.getD_eq_getD_getElem?, List.setIfInBounds_toArray, List.set_cons_succ, List.set_cons_zero, List.getElem?_toArray, List.getElem?_cons_succ, List.getElem?_cons_zero, Option.getD_some])
  (refine h_val 5 rfl (by kernel_rfl) (by kernel_rfl) (by kernel_rfl) (fun _ _ _ h => h) HS (by kernel_rfl) (fun W _ => run_move rfl rfl W) ?_; simp only [Act.put, Act.eval, Array.getD_eq_getD_getElem?, List.setIfInBounds_toArray, List.set_cons_succ, List.set_cons_zero, List.getElem?_toArray, List.getElem?_cons_succ, List.getElem?_cons_zero, Option.getD_some])
  (refine h_val 6 rfl (by kernel_rfl) (by kernel_rfl) (by kernel_rfl) (fun _ _ _ h => h) HS (by kernel_rfl) (fun W _ => run_nilCheck rfl rfl W) ?_; simp only [Act.put, Act.eval, Array.getD_eq_getD_getElem?, List.setIfInBounds_toArray, List.set_cons_succ, List.set_cons_zero, List.getElem?_toArray, List.getElem?_cons_succ, List.getElem?_cons_zero, Option.getD_some])
  (refine h_val 7 rfl (by kernel_rfl) (by kernel_rfl) (by kernel_rfl) (fun _ _ _ h => h) HS (by kernel_rfl) (fun W _ => run_field rfl rfl (rfieldC1 q) W) ?_; simp only [Act.put, Act.eval, Array.getD_eq_getD_getElem?, List.setIfInBounds_toArray, List.set_cons_succ, List.set_cons_zero, List.getElem?_toArray, List.getElem?_cons_succ, List.getElem?_cons_zero, Option.getD_some])
  (refine h_val (v := .slice sa l.length ca) 8 rfl (by kernel_rfl) (by kernel_rfl) (by kernel_rfl) (fun _ _ _ h => h) HS (by kernel_rfl) (fun W hW => run_loadv rfl rfl (var_ritems (hW.keep HC.out.head (fun h => h)) rfl)) ?_; simp only [Act.put, Act.eval, Array.getD_eq_getD_getElem?, List.setIfInBounds_toArray, List.set_cons_succ, List.set_cons_zero, List.getElem?_toArray, List.getElem?_cons_succ, List.getElem?_cons_zero, Option.getD_some])
  (refine h_val 11 rfl (by kernel_rfl) (by kernel_rfl) (by kernel_rfl) (fun _ _ _ h => h) HS (by kernel_rfl) (fun W _ => run_move rfl rfl W) ?_; simp only [Act.put, Act.eval, Array.getD_eq_getD_getElem?, List.setIfInBounds_toArray, List.set_cons_succ, List.set_cons_zero, List.getElem?_toArray, List.getElem?_cons_succ, List.getElem?_cons_zero, Option.getD_some])
  (refine h_val 12 rfl (by kernel_rfl) (by kernel_rfl) (by kernel_rfl) (fun _ _ _ h => h) HS (by kernel_rfl) (fun W _ => run_nilCheck rfl rfl W) ?_; simp only [Act.put, Act.eval, Array.getD_eq_getD_getElem?, List.setIfInBounds_toArray, List.set_cons_succ, List.set_cons_zero, List.getElem?_toArray, List.getElem?_cons_succ, List.getElem?_cons_zero, Option.getD_some])
  (refine h_val 13 rfl (by kernel_rfl) (by kernel_rfl) (by kernel_rfl) (fun _ _ _ h => h) HS (by kernel_rfl) (fun W _ => run_field rfl rfl (rfieldC2 q) W) ?_; simp only [Act.put, Act.eval, Array.getD_eq_getD_getElem?, List.setIfInBounds_toArray, List.set_cons_succ, List.set_cons_zero, List.getElem?_toArray, List.getElem?_cons_succ, List.getElem?_cons_zero, Option.getD_some])
  (refine h_val (v := .slice sb dh.length cb) 14 rfl (by kernel_rfl) (by kernel_rfl) (by kernel_rfl) (fun _ _ _ h => h) HS (by kernel_rfl) (fun W hW => run_loadv rfl rfl (var_rdears (hW.keep HC.out.head (fun h => h)) rfl)) ?_; simp only [Act.put, Act.eval, Array.getD_eq_getD_getElem?, List.setIfInBounds_toArray, List.set_cons_succ, List.set_cons_zero, List.getElem?_toArray, List.getElem?_cons_succ, List.getElem?_cons_zero, Option.getD_some])
  refine h_two 4 10 (by kernel_rfl) rfl rfl (by kernel_rfl) (by kernel_rfl) ?_ ?_
  · refine step_ex (run_op_built0 itemT rfl) ?_
    rintro v4 wb4 ⟨ob, gb, n4⟩
    have O4 := owns_low ob HS.size
    have HS1 := HS.no (Fr.of_none gb)
    refine ⟨HS1, ?_⟩
    clear HS ob gb
    have HS := HS1
    clear HS1
    simp only [Act.put, Act.eval, Array.getD_eq_getD_getElem?, List.setIfInBounds_toArray, List.set_cons_succ, List.set_cons_zero, List.getElem?_toArray, List.getElem?_cons_succ, List.getElem?_cons_zero, Option.getD_some]
    refine h_two 9 10 (by kernel_rfl) rfl rfl (by kernel_rfl) (by kernel_rfl) ?_ ?_
    · refine step_ex (run_copy (v := v4) (xv := .slice sa l.length ca) itemT (by decide) rfl rfl rfl (hitems.out _ HS) honeI.out O4 n4 HS.size (by simp only [maxLen]; omega) (by omega)) ?_
      rintro v9 wb9 ⟨O9, gb, n9⟩
      have HS1 := Fr.of_grown HS (Nat.le_refl _) O4 gb
      refine ⟨HS1, ?_⟩
      clear HS gb O4
      have HS := HS1
      clear HS1
      simp only [Act.put, Act.eval, Array.getD_eq_getD_getElem?, List.setIfInBounds_toArray, List.set_cons_succ, List.set_cons_zero, List.getElem?_toArray, List.getElem?_cons_succ, List.getElem?_cons_zero, Option.getD_some]
      refine h_ex 10 (by kernel_rfl) rfl (by kernel_rfl) ?_
      refine step_ex (run_op_built0 dearT rfl) ?_
      rintro v10 wb10 ⟨ob, gb, n10⟩
      have O10 := owns_low ob HS.size
      have O9' := owns_keep O9 gb
      clear O9
      have O9 := O9'
      clear O9'
      have HS1 := HS.no (Fr.of_none gb)
      refine ⟨HS1, ?_⟩
      clear HS ob gb
      have HS := HS1
      clear HS1
      simp only [Act.put, Act.eval, Array.getD_eq_getD_getElem?, List.setIfInBounds_toArray, List.set_cons_succ, List.set_cons_zero, List.getElem?_toArray, List.getElem?_cons_succ, List.getElem?_cons_zero, Option.getD_some]
      refine h_ex 15 (by kernel_rfl) rfl (by kernel_rfl) ?_
      refine step_ex (run_copy (v := v10) (xv := .slice sb dh.length cb) dearT (by decide) rfl rfl rfl (hdears.out _ HS) honeD.out O10 n10 HS.size (by simp only [maxLen]; omega) (by omega)) ?_
      rintro v15 wb15 ⟨O15, gb, n15⟩
      have O9' := O9.kept gb (.inr (owns_ne O9 O10 (by decide) n9))
      clear O9
      have O9 := O9'
      clear O9'
      have HS1 := Fr.of_grown HS (Nat.le_refl _) O10 gb
      refine ⟨HS1, ?_⟩
      clear HS gb O10
      have HS := HS1
      clear HS1
      simp only [Act.put, Act.eval, Array.getD_eq_getD_getElem?, List.setIfInBounds_toArray, List.set_cons_succ, List.set_cons_zero, List.getElem?_toArray, List.getElem?_cons_succ, List.getElem?_cons_zero, Option.getD_some]
      obtain ⟨va, c9, rfl⟩ := owns_shape O9
      obtain ⟨vb, c15, rfl⟩ := owns_shape O15
      (refine h_val (v := .agg #[.int .i64 m, .slice va l.length c9, .slice vb dh.length c15]) 16 rfl (by kernel_rfl) (by kernel_rfl) (by kernel_rfl) (fun _ _ _ h => h) HS (by kernel_rfl) (fun W _ => by kernel_rfl) ?_; simp only [Act.put, Act.eval, Array.getD_eq_getD_getElem?, List.setIfInBounds_toArray, List.set_cons_succ, List.set_cons_zero, List.getElem?_toArray, List.getElem?_cons_succ, List.getElem?_cons_zero, Option.getD_some])
      (refine h_one 17 (by kernel_rfl) rfl (by kernel_rfl) (run_box rfl rfl _) (HS.alloc _) ?_; simp only [Act.put, Act.eval, Array.getD_eq_getD_getElem?, List.setIfInBounds_toArray, List.set_cons_succ, List.set_cons_zero, List.getElem?_toArray, List.getElem?_cons_succ, List.getElem?_cons_zero, Option.getD_some])
      have HS3 : Fr No w (wb15.alloc (.cells #[.int .i64 m, .slice va l.length c9, .slice vb dh.length c15] 85)) := HS.alloc _
      have hsz := HS.size
      clear HS
      have HS := HS3
      (refine h_val 18 rfl (by kernel_rfl) (by kernel_rfl) (by kernel_rfl) (fun _ _ _ h => h) HS (by kernel_rfl) (fun W _ => run_assign rfl rfl W) ?_; simp only [Act.put, Act.eval, Array.getD_eq_getD_getElem?, List.setIfInBounds_toArray, List.set_cons_succ, List.set_cons_zero, List.getElem?_toArray, List.getElem?_cons_succ, List.getElem?_cons_zero, Option.getD_some])
      refine h_done (by kernel_rfl) ?_
      go_wp2
      exact HR.out _ _ _ _ ⟨heap_alloc_new _ _, hsz, O9.alloc _, O15.alloc _⟩ HS3
    · refine step_ex (run_op_built0 dearT rfl) ?_
      rintro v10 wb10 ⟨ob, gb, n10⟩
      have O10 := owns_low ob HS.size
      have O4' := owns_keep O4 gb
      clear O4
      have O4 := O4'
      clear O4'
      have HS1 := HS.no (Fr.of_none gb)
      refine ⟨HS1, ?_⟩
      clear HS ob gb
      have HS := HS1
      clear HS1
      simp only [Act.put, Act.eval, Array.getD_eq_getD_getElem?, List.setIfInBounds_toArray, List.set_cons_succ, List.set_cons_zero, List.getElem?_toArray, List.getElem?_cons_succ, List.getElem?_cons_zero, Option.getD_some]
      refine h_ex 9 (by kernel_rfl) rfl (by kernel_rfl) ?_
      refine step_ex (run_copy (v := v4) (xv := .slice sa l.length ca) itemT (by decide) rfl rfl rfl (hitems.out _ HS) honeI.out O4 n4 HS.size (by simp only [maxLen]; omega) (by omega)) ?_
      rintro v9 wb9 ⟨O9, gb, n9⟩
      have O10' := O10.kept gb (.inr (owns_ne O10 O4 (by decide) n10))
      clear O10
      have O10 := O10'
      clear O10'
      have HS1 := Fr.of_grown HS (Nat.le_refl _) O4 gb
      refine ⟨HS1, ?_⟩
      clear HS gb O4
      have HS := HS1
      clear HS1
      simp only [Act.put, Act.eval, Array.getD_eq_getD_getElem?, List.setIfInBounds_toArray, List.set_cons_succ, List.set_cons_zero, List.getElem?_toArray, List.getElem?_cons_succ, List.getElem?_cons_zero, Option.getD_some]
      refine h_ex 15 (by kernel_rfl) rfl (by kernel_rfl) ?_
      refine step_ex (run_copy (v := v10) (xv := .slice sb dh.length cb) dearT (by decide) rfl rfl rfl (hdears.out _ HS) honeD.out O10 n10 HS.size (by simp only [maxLen]; omega) (by omega)) ?_
      rintro v15 wb15 ⟨O15, gb, n15⟩
      have O9' := O9.kept gb (.inr (owns_ne O9 O10 (by decide) n9))
      clear O9
      have O9 := O9'
      clear O9'
      have HS1 := Fr.of_grown HS (Nat.le_refl _) O10 gb
      refine ⟨HS1, ?_⟩
      clear HS gb O10
      have HS := HS1
      clear HS1
      simp only [Act.put, Act.eval, Array.getD_eq_getD_getElem?, List.setIfInBounds_toArray, List.set_cons_succ, List.set_cons_zero, List.getElem?_toArray, List.getElem?_cons_succ, List.getElem?_cons_zero, Option.getD_some]
      obtain ⟨va, c9, rfl⟩ := owns_shape O9
      obtain ⟨vb, c15, rfl⟩ := owns_shape O15
      (refine h_val (v := .agg #[.int .i64 m, .slice va l.length c9, .slice vb dh.length c15]) 16 rfl (by kernel_rfl) (by kernel_rfl) (by kernel_rfl) (fun _ _ _ h => h) HS (by kernel_rfl) (fun W _ => by kernel_rfl) ?_; simp only [Act.put, Act.eval, Array.getD_eq_getD_getElem?, List.setIfInBounds_toArray, List.set_cons_succ, List.set_cons_zero, List.getElem?_toArray, List.getElem?_cons_succ, List.getElem?_cons_zero, Option.getD_some])
      (refine h_one 17 (by kernel_rfl) rfl (by kernel_rfl) (run_box rfl rfl _) (HS.alloc _) ?_; simp only [Act.put, Act.eval, Array.getD_eq_getD_getElem?, List.setIfInBounds_toArray, List.set_cons_succ, List.set_cons_zero, List.getElem?_toArray, List.getElem?_cons_succ, List.getElem?_cons_zero, Option.getD_some])
      have HS3 : Fr No w (wb15.alloc (.cells #[.int .i64 m, .slice va l.length c9, .slice vb dh.length c15] 85)) := HS.alloc _
      have hsz := HS.size
      clear HS
      have HS := HS3
      (refine h_val 18 rfl (by kernel_rfl) (by kernel_rfl) (by kernel_rfl) (fun _ _ _ h => h) HS (by kernel_rfl) (fun W _ => run_assign rfl rfl W) ?_; simp only [Act.put, Act.eval, Array.getD_eq_getD_getElem?, List.setIfInBounds_toArray, List.set_cons_succ, List.set_cons_zero, List.getElem?_toArray, List.getElem?_cons_succ, List.getElem?_cons_zero, Option.getD_some])
      refine h_done (by kernel_rfl) ?_
      go_wp2
      exact HR.out _ _ _ _ ⟨heap_alloc_new _ _, hsz, O9.alloc _, O15.alloc _⟩ HS3
  · refine step_ex (run_op_built0 dearT rfl) ?_
    rintro v10 wb10 ⟨ob, gb, n10⟩
    have O10 := owns_low ob HS.size
    have HS1 := HS.no (Fr.of_none gb)
    refine ⟨HS1, ?_⟩
    clear HS ob gb
    have HS := HS1
    clear HS1
    simp only [Act.put, Act.eval, Array.getD_eq_getD_getElem?, List.setIfInBounds_toArray, List.set_cons_succ, List.set_cons_zero, List.getElem?_toArray, List.getElem?_cons_succ, List.getElem?_cons_zero, Option.getD_some]
    refine h_ex 4 (by kernel_rfl) rfl (by kernel_rfl) ?_
    refine step_ex (run_op_built0 itemT rfl) ?_
    rintro v4 wb4 ⟨ob, gb, n4⟩
    have O4 := owns_low ob HS.size
    have O10' := owns_keep O10 gb
    clear O10
    have O10 := O10'
    clear O10'
    have HS1 := HS.no (Fr.of_none gb)
    refine ⟨HS1, ?_⟩
    clear HS ob gb
    have HS := HS1
    clear HS1
    simp only [Act.put, Act.eval, Array.getD_eq_getD_getElem?, List.setIfInBounds_toArray, List.set_cons_succ, List.set_cons_zero, List.getElem?_toArray, List.getElem?_cons_succ, List.getElem?_cons_zero, Option.getD_some]
    refine h_ex 9 (by kernel_rfl) rfl (by kernel_rfl) ?_
    refine step_ex (run_copy (v := v4) (xv := .slice sa l.length ca) itemT (by decide) rfl rfl rfl (hitems.out _ HS) honeI.out O4 n4 HS.size (by simp only [maxLen]; omega) (by omega)) ?_
    rintro v9 wb9 ⟨O9, gb, n9⟩
    have O10' := O10.kept gb (.inr (owns_ne O10 O4 (by decide) n10))
    clear O10
    have O10 := O10'
    clear O10'
    have HS1 := Fr.of_grown HS (Nat.le_refl _) O4 gb
    refine ⟨HS1, ?_⟩
    clear HS gb O4
    have HS := HS1
    clear HS1
    simp only [Act.put, Act.eval, Array.getD_eq_getD_getElem?, List.setIfInBounds_toArray, List.set_cons_succ, List.set_cons_zero, List.getElem?_toArray, List.getElem?_cons_succ, List.getElem?_cons_zero, Option.getD_some]
    refine h_ex 15 (by kernel_rfl) rfl (by kernel_rfl) ?_
    refine step_ex (run_copy (v := v10) (xv := .slice sb dh.length cb) dearT (by decide) rfl rfl rfl (hdears.out _ HS) honeD.out O10 n10 HS.size (by simp only [maxLen]; omega) (by omega)) ?_
    rintro v15 wb15 ⟨O15, gb, n15⟩
    have O9' := O9.kept gb (.inr (owns_ne O9 O10 (by decide) n9))
    clear O9
    have O9 := O9'
    clear O9'
    have HS1 := Fr.of_grown HS (Nat.le_refl _) O10 gb
    refine ⟨HS1, ?_⟩
    clear HS gb O10
    have HS := HS1
    clear HS1
    simp only [Act.put, Act.eval, Array.getD_eq_getD_getElem?, List.setIfInBounds_toArray, List.set_cons_succ, List.set_cons_zero, List.getElem?_toArray, List.getElem?_cons_succ, List.getElem?_cons_zero, Option.getD_some]
    obtain ⟨va, c9, rfl⟩ := owns_shape O9
    obtain ⟨vb, c15, rfl⟩ := owns_shape O15
    (refine h_val (v := .agg #[.int .i64 m, .slice va l.length c9, .slice vb dh.length c15]) 16 rfl (by kernel_rfl) (by kernel_rfl) (by kernel_rfl) (fun _ _ _ h => h) HS (by kernel_rfl) (fun W _ => by kernel_rfl) ?_; simp only [Act.put, Act.eval, Array.getD_eq_getD_getElem?, List.setIfInBounds_toArray, List.set_cons_succ, List.set_cons_zero, List.getElem?_toArray, List.getElem?_cons_succ, List.getElem?_cons_zero, Option.getD_some])
    (refine h_one 17 (by kernel_rfl) rfl (by kernel_rfl) (run_box rfl rfl _) (HS.alloc _) ?_; simp only [Act.put, Act.eval, Array.getD_eq_getD_getElem?, List.setIfInBounds_toArray, List.set_cons_succ, List.set_cons_zero, List.getElem?_toArray, List.getElem?_cons_succ, List.getElem?_cons_zero, Option.getD_some])
    have HS3 : Fr No w (wb15.alloc (.cells #[.int .i64 m, .slice va l.length c9, .slice vb dh.length c15] 85)) := HS.alloc _
    have hsz := HS.size
    clear HS
    have HS := HS3
    (refine h_val 18 rfl (by kernel_rfl) (by kernel_rfl) (by kernel_rfl) (fun _ _ _ h => h) HS (by kernel_rfl) (fun W _ => run_assign rfl rfl W) ?_; simp only [Act.put, Act.eval, Array.getD_eq_getD_getElem?, List.setIfInBounds_toArray, List.set_cons_succ, List.set_cons_zero, List.getElem?_toArray, List.getElem?_cons_succ, List.getElem?_cons_zero, Option.getD_some])
    refine h_done (by kernel_rfl) ?_
    go_wp2
    exact HR.out _ _ _ _ ⟨heap_alloc_new _ _, hsz, O9.alloc _, O15.alloc _⟩ HS3
end

end Go.Proofs.Ytokhbjllgaaogaa
