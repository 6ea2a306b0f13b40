/- slices.IndexFunc, slices.DeleteFunc at fids, by a bound method that tells of each. No condition beside what each law asks. -/
import Derived.Test.YtokhbjllgaaogaaCWSort
import Derived.Lib.SliceRun
namespace Go.Proofs.Ytokhbjllgaaogaa
set_option linter.unusedSimpArgs false
open Go.RowKit Go.Maps
attribute [local irreducible] wpQuiet wpAnyH

theorem heap_setCells {g : Nat} {t : TypeId} {fr : Nat × Nat} : ∀ (vs : List Value) (o : Nat) (w : World) (cs : Array Value), w.heap[g]? = some (.cells cs t fr) → ∃ cs', (w.setCells g o vs).heap[g]? = some (.cells cs' t fr) ∧ cs'.size = cs.size ∧ ∀ k, k < o → cs'[k]? = cs[k]?
  | [], _, _, cs, h => ⟨cs, h, rfl, fun _ _ => rfl⟩
  | v :: vs, o, w, cs, h => by
    obtain ⟨cs', h1, h2, h3⟩ := heap_setCells vs (o + 1) (w.setCell ⟨g, o, none⟩ v) _ (heap_setAt h v rfl)
    exact ⟨cs', h1, by rw [h2]; simp, fun k hk => by rw [h3 k (by omega), Array.getElem?_setIfInBounds_ne (by omega)]⟩

theorem Fr.setCells {S : Nat → Prop} {a : World} {g : Nat} (hg : S g ∨ a.heap.size ≤ g) : ∀ (vs : List Value) (o : Nat) (w : World), Fr S a w → Fr S a (w.setCells g o vs)
  | [], _, _, h => h
  | v :: vs, o, _, h => Fr.setCells hg vs (o + 1) _ (h.setCell (p := ⟨g, o, none⟩) hg v)

theorem wpList_callK {P : Program} {ops : Array Oper} {rest : List Oper} {o : Oper} {a : Act} {w : World} {Q : Exit → Act → World → Prop} {f : FuncId} {args : Array Value} (hg : o.guard = none) (hrun : (execOp a.eval o).run P w = .ok (.enter f args) w)
    (hc : Calls P f args w fun e w'' => ∃ v, e = .returned v ∧ wpList P ops Q rest (a.put o.dst v) w'') : wpList P ops Q (o :: rest) a w := by
  refine wpList_plain hg fun K hK => ?_
  unfold Oper.wp
  rw [hrun, Oper.upon_enter]
  refine hc.mono fun e w'' hh => ?_
  obtain ⟨v, rfl, h⟩ := hh
  exact hK _ _ h

theorem run_callb1 {P : Program} {o : Oper} {a : Act} {x : Operand} {g : FuncId} {t : Nat} {ts : Array TypeId} {bs : Array Value} {v : Value} (hg : ∀ (args : Array Value) (W : World), (callFunc g args).run P W = .ok (.enter g args) W) (ho : o.op = .call { callee := .value x, args := #[.tmp t], argTypes := ts }) (hx : a.eval x = .func (.func g) bs #[])
    (hv : a.eval (.tmp t) = v) (W : World) : (execOp a.eval o).run P W = .ok (.enter g (bs ++ #[v])) W := by
  unfold execOp
  simp [ho, hx, hv, resolve, invoke, Deferred.ofValue, hg]

section
variable {g cap G : Nat} {bs : Array Value} {xs : Array Int} {w : World} {R : Ending → World → Prop} {p : Int → Bool}

/-- A bound method tells of a fid, in whatever world that is w but for new blocks and the row. -/
def Tells (G : Nat) (bs : Array Value) (p : Int → Bool) (g : Nat) (xs : Array Int) (w : World) : Prop :=
  ∀ (W : World) (x : Int) (R' : Ending → World → Prop), Fr (fun b => b = g) w W → x ∈ xs.toList → (∀ W', Fr No W W' → R' (.returned (.bool (p x))) W') → Calls Try.prog G (bs ++ #[.int .u32 x]) W R'

theorem getD_mem {xs : Array Int} {k : Nat} (hk : k < xs.size) : xs.getD k 0 ∈ xs.toList := mem_getD (List.Perm.refl _) hk

set_option maxHeartbeats 4000000 in
set_option maxRecDepth 100000 in
theorem indexF_ok (eg : ∀ (args : Array Value) (W : World), (callFunc G args).run Try.prog W = .ok (.enter G args) W) (hn : xs.size ≤ 1000) (H : Row32 w g cap xs) (hp : Tells G bs p g xs w)
    (hR : ∀ w' (i : Int), Fr No w w' → ((i = -1 ∧ ∀ x ∈ xs.toList, p x = false) ∨ ∃ k : Nat, i = k ∧ k < xs.size ∧ p (xs.getD k 0) = true ∧ ∀ j, j < k → p (xs.getD j 0) = false) → R (.returned (.int .i64 i)) w') :
    Calls Try.prog 59 #[.slice (some ⟨g, 0, none⟩) xs.size cap, .func (.func G) bs #[]] w R := by
  have HR := hid hR
  have HH := hid H
  have HP := hid hp
  have HEG := hid eg
  obtain ⟨n, hN⟩ : ∃ n, n = xs.size := ⟨_, rfl⟩
  rw [← hN]
  have HN := hid hN
  have hn' : n ≤ 1000 := by omega
  have HL : Hid (g < w.heap.size) := by obtain ⟨cs, h, _⟩ := H; exact lt_of_heap h
  clear hR H hp eg hn hN
  go_enter Try.func59, Try.ntmps59
  go_wp2
  go_loopw [8] (fun t8 wr => ∃ k : Nat, k ≤ n ∧ t8 = .int .i64 (k : Nat) ∧ Hid (∀ j, j < k → p (xs.getD j 0) = false) ∧ Hid (Fr No w wr)) (fun t8 _ => n - (intOf t8).toNat)
  case atStart => exact ⟨0, Nat.zero_le _, rfl, fun j hj => by omega, Fr.refl _ _⟩
  case round =>
    obtain ⟨k, hk, rfl, hno, hf⟩ := hrel
    rename World => wr
    have HNO := hid hno.out
    have HF := hid hf.out
    clear hno hf
    by_cases hlt : k < n
    · obtain ⟨y, hy⟩ : ∃ y, xs.getD k 0 = y := ⟨_, rfl⟩
      have HY := hid hy
      have q1 : wr.cell? ⟨g, k, none⟩ = some (.int .u32 y) := by rw [← hy]; exact (HH.out.no HF.out).cell (by have := HN.out; omega)
      have HM : Hid (y ∈ xs.toList) := by rw [← hy]; exact getD_mem (by have := HN.out; omega)
      clear hy
      cases hpy : p y with
      | true =>
        have HPY := hid hpy
        clear hpy
        go_wp2_with (first
          | (refine wpList_callK rfl (run_callb1 HEG.out rfl rfl rfl _) ?_; refine HP.out _ _ _ HF.out.any HM.out ?_; intro w2 hf2; rw [HPY.out]; refine ⟨_, rfl, ?_⟩; have HF2 := hid (HF.out.no hf2); clear hf2))
        exact HR.out _ _ HF2.out (.inr ⟨k, rfl, by have := HN.out; omega, by rw [HY.out]; exact HPY.out, HNO.out⟩)
      | false =>
        have HPY := hid hpy
        clear hpy
        go_wp2_with (first
          | (refine wpList_callK rfl (run_callb1 HEG.out rfl rfl rfl _) ?_; refine HP.out _ _ _ HF.out.any HM.out ?_; intro w2 hf2; rw [HPY.out]; refine ⟨_, rfl, ?_⟩; have HF2 := hid (HF.out.no hf2); clear hf2))
        go_roundw
        case rel => exact ⟨k + 1, by omega, by go_num, (fun j hj => by rcases Nat.lt_or_ge j k with h | h <;> first | exact HNO.out j h | (rw [show j = k by omega, HY.out]; exact HPY.out)), HF2.out⟩
        case measure => simp [intOf]; omega
    · go_wp2
      refine HR.out _ _ HF.out (.inl ⟨rfl, fun x hx => ?_⟩)
      obtain ⟨j, hj, e⟩ := List.mem_iff_getElem.1 hx
      have := HNO.out j (by have := HN.out; simp at hj; omega)
      rw [← e]
      rw [Array.getD_eq_getD_getElem?, Array.getElem?_eq_getElem (by simpa using hj)] at this
      simpa using this

theorem first_of {q : Nat → Bool} : ∀ n, (∃ k, k < n ∧ q k = true) → ∃ k, k < n ∧ q k = true ∧ ∀ j, j < k → q j = false
  | 0, ⟨k, hk, _⟩ => by omega
  | n + 1, h => by
    by_cases h2 : ∃ k, k < n ∧ q k = true
    · obtain ⟨k, hk, hq, hj⟩ := first_of n h2
      exact ⟨k, by omega, hq, hj⟩
    · obtain ⟨k, hk, hq⟩ := h
      refine ⟨k, hk, hq, fun j hj => ?_⟩
      cases hqj : q j with
      | false => rfl
      | true => exact absurd ⟨j, by omega, hqj⟩ h2

theorem indexF_no (eg : ∀ (args : Array Value) (W : World), (callFunc G args).run Try.prog W = .ok (.enter G args) W) (hn : xs.size ≤ 1000) (H : Row32 w g cap xs) (hp : Tells G bs p g xs w) (hall : ∀ x ∈ xs.toList, p x = false)
    (hR : ∀ w', Fr No w w' → R (.returned (.int .i64 (-1))) w') :
    Calls Try.prog 59 #[.slice (some ⟨g, 0, none⟩) xs.size cap, .func (.func G) bs #[]] w R :=
  indexF_ok eg hn H hp fun w' i hf hi => by
    rcases hi with ⟨rfl, _⟩ | ⟨k, _, hk, hk2, _⟩
    · exact hR w' hf
    · rw [hall _ (getD_mem hk)] at hk2; cases hk2

theorem indexF_yes {k0 : Nat} (eg : ∀ (args : Array Value) (W : World), (callFunc G args).run Try.prog W = .ok (.enter G args) W) (hn : xs.size ≤ 1000) (H : Row32 w g cap xs) (hp : Tells G bs p g xs w) (hk0 : k0 < xs.size) (h1 : p (xs.getD k0 0) = true) (h2 : ∀ j, j < k0 → p (xs.getD j 0) = false)
    (hR : ∀ w', Fr No w w' → R (.returned (.int .i64 k0)) w') :
    Calls Try.prog 59 #[.slice (some ⟨g, 0, none⟩) xs.size cap, .func (.func G) bs #[]] w R :=
  indexF_ok eg hn H hp fun w' i hf hi => by
    rcases hi with ⟨_, hall⟩ | ⟨k, rfl, hk, hk2, hk3⟩
    · rw [hall _ (getD_mem hk0)] at h1; cases h1
    · have : k = k0 := by
        rcases Nat.lt_trichotomy k k0 with h | h | h
        · rw [h2 k h] at hk2; cases hk2
        · exact h
        · rw [hk3 k0 h] at h1; cases h1
      subst this
      exact hR w' hf

/-- What lies in the row while it is gone through: the kept ones ahead, the rest behind. -/
structure Kept (p : Int → Bool) (xs ys : Array Int) (i j : Nat) : Prop where
  size : ys.size = xs.size
  len : ((xs.toList.take j).filter fun x => !p x).length = i
  kept : ∀ k, k < i → ys.getD k 0 = ((xs.toList.take j).filter fun x => !p x).getD k 0
  rest : ∀ k, j ≤ k → k < xs.size → ys.getD k 0 = xs.getD k 0

theorem take_snocA {xs : Array Int} {j : Nat} (hj : j < xs.size) : xs.toList.take (j + 1) = xs.toList.take j ++ [xs.getD j 0] := by
  rw [List.take_succ_eq_append_getElem (by simpa using hj)]
  simp [Array.getD_eq_getD_getElem?, Array.getElem?_eq_getElem hj]

theorem Kept.skip {ys : Array Int} {i j : Nat} (h : Kept p xs ys i j) (hj : j < xs.size) (hp : p (xs.getD j 0) = true) : Kept p xs ys i (j + 1) := by
  have e : ((xs.toList.take (j + 1)).filter fun x => !p x) = ((xs.toList.take j).filter fun x => !p x) := by
    rw [take_snocA hj, List.filter_append, List.filter_cons_of_neg (by rw [hp]; decide), List.filter_nil, List.append_nil]
  exact ⟨h.size, by rw [e]; exact h.len, by rw [e]; exact h.kept, fun k hk => h.rest k (by omega)⟩

theorem Kept.keep {ys : Array Int} {i j : Nat} (h : Kept p xs ys i j) (hij : i ≤ j) (hj : j < xs.size) (hp : p (xs.getD j 0) = false) : Kept p xs (ys.setIfInBounds i (xs.getD j 0)) (i + 1) (j + 1) := by
  have e : ((xs.toList.take (j + 1)).filter fun x => !p x) = ((xs.toList.take j).filter fun x => !p x) ++ [xs.getD j 0] := by
    rw [take_snocA hj, List.filter_append, List.filter_cons_of_pos (by rw [hp]; rfl), List.filter_nil]
  have hl := h.len
  have hs := h.size
  refine ⟨by simp [h.size], by rw [e, List.length_append, hl]; rfl, fun k hk => ?_, fun k hk hk2 => ?_⟩
  · rw [e]
    by_cases hki : k = i
    · subst hki
      rw [Array.getD_eq_getD_getElem?, Array.getElem?_setIfInBounds_self_of_lt (by omega)]
      simp [List.getD_eq_getElem?_getD, ← hl]
    · rw [Array.getD_eq_getD_getElem?, Array.getElem?_setIfInBounds_ne (by omega), ← Array.getD_eq_getD_getElem?, h.kept k (by omega)]
      simp only [List.getD_eq_getElem?_getD]
      rw [List.getElem?_append_left (by omega)]
  · rw [Array.getD_eq_getD_getElem?, Array.getElem?_setIfInBounds_ne (by omega), ← Array.getD_eq_getD_getElem?]
    exact h.rest k (by omega) hk2

theorem filter_le {p : Int → Bool} {xs : List Int} {j : Nat} : ((xs.take j).filter fun x => !p x).length ≤ j := Nat.le_trans (List.length_filter_le _ _) (by simp; omega)

theorem Row32.put {w : World} {g cap : Nat} {ys : Array Int} (h : Row32 w g cap ys) {i : Nat} (hi : i < ys.size) (x : Int) : Row32 (w.setCell ⟨g, i, none⟩ (.int .u32 x)) g cap (ys.setIfInBounds i x) := by
  obtain ⟨cs, h1, h2, h3, h4⟩ := h
  refine ⟨_, heap_setAt h1 _ rfl, by simp [h2], by simp [h3], fun k hk => ?_⟩
  simp only [Array.size_setIfInBounds] at hk
  by_cases e : k = i
  · subst e
    rw [Array.getElem?_setIfInBounds_self_of_lt (by omega), Array.getD_eq_getD_getElem?, Array.getElem?_setIfInBounds_self_of_lt hk]
    rfl
  · rw [Array.getElem?_setIfInBounds_ne (by omega), Array.getD_eq_getD_getElem?, Array.getElem?_setIfInBounds_ne (by omega), ← Array.getD_eq_getD_getElem?]
    exact h4 k hk

theorem Row32.cut {w : World} {g cap : Nat} {ys zs : Array Int} (h : Row32 w g cap ys) {vs : List Value} {i : Nat} (hz : zs.size = i) (hi : i ≤ ys.size) (hc : ∀ k, k < i → ys.getD k 0 = zs.getD k 0) : Row32 (w.setCells g i vs) g cap zs := by
  obtain ⟨cs, h1, h2, h3, h4⟩ := h
  obtain ⟨cs', g1, g2, g3⟩ := heap_setCells vs i w cs h1
  exact ⟨cs', g1, by rw [g2, h2], by omega, fun k hk => by rw [g3 k (by omega), h4 k (by omega), hc k (by omega)]⟩

theorem zeroF (w : World) : (zeroValue 27).run Try.prog w = .ok (.int .u32 0) w := by kernel_rfl

set_option maxHeartbeats 4000000 in
set_option maxRecDepth 100000 in
theorem deleteF_ok (eg : ∀ (args : Array Value) (W : World), (callFunc G args).run Try.prog W = .ok (.enter G args) W) (hn : xs.size ≤ 1000) (H : Row32 w g cap xs) (hp : Tells G bs p g xs w)
    (hR : ∀ w' (ys : Array Int), ys.toList = (xs.toList.filter fun x => !p x) → Row32 w' g cap ys → Fr (fun b => b = g) w w' → R (.returned (.slice (some ⟨g, 0, none⟩) ys.size cap)) w') :
    Calls Try.prog 35 #[.slice (some ⟨g, 0, none⟩) xs.size cap, .func (.func G) bs #[]] w R := by
  have HR := hid hR
  have HH := hid H
  have HP := hid hp
  have HEG := hid eg
  obtain ⟨n, hN⟩ : ∃ n, n = xs.size := ⟨_, rfl⟩
  rw [← hN]
  have HN := hid hN
  have hn' : n ≤ 1000 := by omega
  have hcap : n ≤ cap := by obtain ⟨cs, _, _, h, _⟩ := H; omega
  have HL : Hid (g < w.heap.size) := by obtain ⟨cs, h, _⟩ := H; exact lt_of_heap h
  clear hR H hp eg hN
  by_cases hall : ∀ x ∈ xs.toList, p x = false
  · have HALL := hid hall
    have e : (xs.toList.filter fun x => !p x) = xs.toList := List.filter_eq_self.2 (fun x hx => by rw [hall x hx]; rfl)
    have HFin : Hid (∀ w1, Fr No w w1 → R (.returned (.slice (some ⟨g, 0, none⟩) n cap)) w1) := fun w1 hf1 => by
      have := HR.out w1 xs e.symm (HH.out.no hf1) hf1.any
      rw [← HN.out] at this
      exact this
    clear hall e
    go_enter Try.func35, Try.ntmps35
    go_wp2_with (go_at_call 59; rw [HN.out]; refine indexF_no HEG.out hn HH.out HP.out HALL.out ?_; intro w1 hf1; rw [← HN.out]; have HF1 := hid hf1; clear hf1)
    exact HFin.out _ HF1.out
  · have hex : ∃ k, k < xs.size ∧ p (xs.getD k 0) = true := by
      by_cases h : ∃ k, k < xs.size ∧ p (xs.getD k 0) = true
      · exact h
      · refine absurd (fun x hx => ?_) hall
        obtain ⟨j, hj, e⟩ := List.mem_iff_getElem.1 hx
        have hj' : j < xs.size := by simpa using hj
        cases hpx : p x with
        | false => rfl
        | true =>
          refine absurd ⟨j, hj', ?_⟩ h
          rw [Array.getD_eq_getD_getElem?, Array.getElem?_eq_getElem hj', Option.getD_some, ← Array.getElem_toList, e]
          exact hpx
    obtain ⟨k0, hk2, hk3, hk4⟩ := first_of _ hex
    have HK0 := hid (And.intro hk2 (And.intro hk3 hk4))
    have hne : ((k0 : Int) == -1) = false := by rw [beq_eq_false_iff_ne]; omega
    have hk0n : k0 < n := by have := HN.out; omega
    have K0 : Hid (Kept p xs xs k0 (k0 + 1)) := by
      have e : ((xs.toList.take k0).filter fun x => !p x) = xs.toList.take k0 := List.filter_eq_self.2 (fun x hx => by
        obtain ⟨j, hj, e⟩ := List.mem_iff_getElem.1 hx
        have hj' : j < k0 ∧ j < xs.size := by simp at hj; omega
        have h2 := hk4 j hj'.1
        rw [Array.getD_eq_getD_getElem?, Array.getElem?_eq_getElem hj'.2] at h2
        have h3 : x = xs[j] := by rw [← e]; simp
        rw [h3]
        simpa using h2)
      refine Kept.skip ⟨rfl, by rw [e, List.length_take, Array.length_toList]; omega, fun k hk => ?_, fun _ _ _ => rfl⟩ hk2 hk3
      rw [e]
      simp only [List.getD_eq_getElem?_getD]
      rw [List.getElem?_take_of_lt hk]
      simp [Array.getD_eq_getD_getElem?]
    clear hk2 hk3 hk4 hall hex
    go_enter Try.func35, Try.ntmps35
    go_wp2_with (go_at_call 59; rw [HN.out]; refine indexF_yes HEG.out hn HH.out HP.out HK0.out.1 HK0.out.2.1 HK0.out.2.2 ?_; intro w1 hf1; rw [← HN.out]; have HF1 := hid hf1; clear hf1)
    clear hn
    go_loopw [5, 6] (fun t5 t6 wr => ∃ (i j : Nat) (ys : Array Int), j ≤ n ∧ i < j ∧ t5 = .int .i64 (i : Nat) ∧ t6 = .int .i64 (j : Nat) ∧ Hid (Kept p xs ys i j) ∧ Hid (Row32 wr g cap ys) ∧ Hid (Fr (fun b => b = g) w wr)) (fun _ t6 _ => n - (intOf t6).toNat)
    case atStart => exact ⟨k0, k0 + 1, xs, by omega, by omega, rfl, by go_num, K0, HH.out.no HF1.out, HF1.out.any⟩
    case round =>
      obtain ⟨i, j, ys, hjn, hij, rfl, rfl, hk, hr, hf⟩ := hrel
      rename World => wr
      have HK := hid hk.out
      have HRW := hid hr.out
      have HF := hid hf.out
      clear hk hr hf K0
      by_cases hlt : j < n
      · obtain ⟨y, hy⟩ : ∃ y, xs.getD j 0 = y := ⟨_, rfl⟩
        have HY := hid hy
        have q1 : wr.cell? ⟨g, j, none⟩ = some (.int .u32 y) := by rw [← hy, ← HK.out.rest j (Nat.le_refl _) (by have := HN.out; omega)]; exact HRW.out.cell (by have := HK.out.size; have := HN.out; omega)
        have HM : Hid (y ∈ xs.toList) := by rw [← hy]; exact getD_mem (by have := HN.out; omega)
        clear hy
        cases hpy : p y with
        | true =>
          have HPY := hid hpy
          clear hpy
          go_wp2_with (first
            | (refine wpList_callK rfl (run_callb1 HEG.out rfl rfl rfl _) ?_; refine HP.out _ _ _ HF.out HM.out ?_; intro w2 hf2; rw [HPY.out]; refine ⟨_, rfl, ?_⟩; have HR2 := hid (HRW.out.no hf2); have HF2 := hid (HF.out.no hf2); clear hf2))
          go_roundw
          case rel => exact ⟨i, j + 1, ys, by omega, by omega, rfl, by go_num, HK.out.skip (by have := HN.out; omega) (by rw [HY.out]; exact HPY.out), HR2, HF2⟩
          case measure => simp [intOf]; omega
        | false =>
          have HPY := hid hpy
          have hiy : i < ys.size := by have := HK.out.size; have := HN.out; omega
          have HIY := hid hiy
          have hin : (i : Int) < n := by omega
          clear hpy hiy
          go_wp2_with (first
            | (refine wpList_callK rfl (run_callb1 HEG.out rfl rfl rfl _) ?_; refine HP.out _ _ _ HF.out HM.out ?_; intro w2 hf2; rw [HPY.out]; refine ⟨_, rfl, ?_⟩; have HR2 := hid (HRW.out.no hf2); have HF2 := hid (HF.out.no hf2); have f1 := HR2.out.frozen i; have qi := HR2.out.cell HIY.out; clear hf2))
          go_roundw
          case rel =>
            have h1 := HR2.out.put HIY.out y
            have h2 := HK.out.keep (by omega) (by have := HN.out; omega) (by rw [HY.out]; exact HPY.out)
            rw [HY.out] at h2
            exact ⟨i + 1, j + 1, _, by omega, by omega, by go_num, by go_num, h2, h1, (HF2.out.setCell (p := ⟨g, i, none⟩) (.inl rfl) _)⟩
          case measure => simp [intOf]; omega
      · obtain rfl : j = n := by omega
        have hin : (i : Int) < j := by omega
        have hi0 : (0 : Int) ≤ i := by omega
        have hic : (i : Int) ≤ cap := by omega
        have hjc : (j : Int) ≤ cap := by omega
        have hcl : ∀ ty, (Builtin.clear_ #[25] ty #[.slice (some ⟨g, i, none⟩) (j - i) (cap - i)]).run Try.prog wr = .ok (.tuple #[]) (wr.setCells g i (List.replicate (j - i) (.int .u32 0))) := fun ty =>
          Lib.run_clear_slice wr _ _ ty _ fidsU zeroF rfl rfl g i _ _ (by omega) (fun t ht => by rw [HRW.out.cell (k := i + t) (by have := HK.out.size; have := HN.out; omega)]; rfl) (fun t _ => HRW.out.frozen _)
        have HFin : Hid (R (.returned (.slice (some ⟨g, 0, none⟩) i cap)) (wr.setCells g i (List.replicate (j - i) (.int .u32 0)))) := by
          have hl := HK.out.len
          have e : (xs.toList.take j) = xs.toList := List.take_of_length_le (by have := HN.out; simp; omega)
          have h3 := HR.out (wr.setCells g i (List.replicate (j - i) (.int .u32 0))) ((xs.toList.take j).filter fun x => !p x).toArray (by rw [e]) (HRW.out.cut (by simpa using hl) (by have := HK.out.size; have := HN.out; omega) (fun k hk => by rw [HK.out.kept k hk]; simp [Array.getD_eq_getD_getElem?, List.getD_eq_getElem?_getD])) (Fr.setCells (S := fun b => b = g) (.inl rfl) _ _ _ HF.out)
          rw [List.size_toArray, hl] at h3
          exact h3
        go_wp2
        exact HFin.out
end

end Go.Proofs.Ytokhbjllgaaogaa
