/- The keys of a map with fids for keys, one by one; what is collected of them. No condition beside what each law asks. -/
import Derived.Test.YtokhbjllgaaogaaProg
import Derived.Test.YtokhbjllgaaogaaMaps
import Derived.RangeFuncNested
import Derived.RangeFuncBox
import Derived.RangeFuncBound
import Derived.RangeFuncCalls
import Derived.RangeFuncLeaves
import Derived.Shelf.Abstract
import Derived.Shelf.RegionOpen
import Derived.OwnWalkIn
import Derived.TacticsInMore
import Derived.LoopNIn
import Derived.LoopIn
import Derived.Sort.MapsRangeIn
import Derived.Maps.AppendAt
namespace Go.Proofs.Ytokhbjllgaaogaa
set_option linter.unusedSimpArgs false
open Go.RowKit Go.Maps Go.Shelf
attribute [local go_sem] Oper.semAt_some

theorem fidU : Try.prog.underlying 27 = some (.int .u32) := by kernel_rfl
theorem fidsU : Try.prog.underlying 25 = some (.slice 27) := by kernel_rfl
theorem heldU : Try.prog.underlying 55 = some (.map 27 60) := by kernel_rfl
theorem fidI : (Try.prog.info? 27).map (fun i => (i.zero, i.size, i.bytes)) = some (some (.int .u32 0), 1, 4) := by kernel_rfl

section
variable {α : Type} {l : List (Int × α)} {q : IntKind} {enc : α → Value} {left : Lit → Bool} {ss : List Int}

/-- What has come of a map's keys. -/
def Came (q : IntKind) (l : List (Int × α)) (left : Lit → Bool) (ss : List Int) : Prop := ss.Nodup ∧ ∀ x, x ∈ ss ↔ ((aget l x).isSome = true ∧ left (.int q x) = false)

theorem Came.start : Came q l (Maps.has (toD q enc l)) [] := ⟨List.nodup_nil, fun x => by rw [toD_has]; cases aget l x <;> simp⟩

theorem Came.step (h : Came q l left ss) {x : Int} {d : α} (hl : left (.int q x) = true) (hd : aget l x = some d) : Came q l (fun z => left z && !z.sameKey (.int q x)) (ss ++ [x]) := by
  have hnew : x ∉ ss := fun hx => by have := ((h.2 x).1 hx).2; rw [hl] at this; cases this
  refine ⟨List.nodup_append.2 ⟨h.1, by simp, fun a ha b hb => by simp at hb; subst hb; exact fun e => hnew (e ▸ ha)⟩, fun y => ?_⟩
  by_cases hy : y = x
  · subst hy; simp [hd, Lit.sameKey]
  · simp [h.2 y, hy, Lit.sameKey]

theorem aget_isSome {x : Int} : (aget l x).isSome = true ↔ x ∈ l.map (·.1) := by
  simp [aget, List.find?_isSome]
  

theorem Came.perm (h : Came q l left ss) (hs : Srt l) (hl : ∀ k, left (.int q k) = false) : ss.Perm (l.map (·.1)) := by
  refine (List.perm_ext_iff_of_nodup h.1 ?_).2 fun x => ?_
  · exact List.pairwise_map.2 (List.Pairwise.imp (R := fun a b : Int × α => a.1 < b.1) (fun h => by omega) hs)
  · rw [h.2 x, hl x, aget_isSome]; simp
end

section
variable {α : Type} {P : Program} {kt et t : TypeId} {q : IntKind} {enc : α → Value} {w : World} {b : Nat} {l : List (Int × α)} {ops : Array Oper} {rest : List Oper} {o : Oper} {a : Act} {Q : Exit → Act → World → Prop} {F : Fence} {nF : Nat}

theorem wpListIn_arange {m : Operand} (hg : o.guard = none) (ho : o.op = Op.range t m) (hk : P.underlying kt = some (.int q)) (ht : P.underlying t = some (.map kt et)) (M : MapAt P kt q enc w b l) (hm : a.eval m = .map (some b))
    (h : ∀ w', RangeAt P kt q enc w' b w.heap.size l (Maps.has (toD q enc l)) l.length → w.grownBy w' none → wpListIn F nF P ops Q rest (a.put o.dst (.pointer (some ⟨w.heap.size, 0, none⟩))) w') : wpListIn F nF P ops Q (o :: rest) a w :=
  wpListIn_range_own w hg m t ho kt et (int_keyed hk) ht heldElem b _ _ hm M.owns
    (fun w' h1 h2 _ => by
      rw [toD_size] at h1
      exact h w' h1 h2)

theorem wpListIn_anext {it : Operand} {r cnt : Nat} {left : Lit → Bool} (hg : o.guard = none) (ho : o.op = Op.next it false) (hk : P.underlying kt = some (.int q)) (hit : a.eval it = .pointer (some ⟨r, 0, none⟩)) (hrg : RangeAt P kt q enc w b r l left cnt)
    (hDone : (∀ k, left (.int q k) = false) → wpListIn F nF P ops Q rest (a.put o.dst (.tuple #[.bool false])) w)
    (hMore : ∀ (k : Int) (d : α) (w' : World) (cnt' : Nat), (Lit.int q k).wf = true → left (.int q k) = true → aget l k = some d → RangeAt P kt q enc w' b r l (fun z => left z && !z.sameKey (.int q k)) cnt' → cnt' < cnt → w.grownBy w' (some r) →
      (Instr.entry (.pointer (some ⟨r, 0, none⟩))).run P w' = .ok (.tuple #[.int q k, enc d]) w' → wpListIn F nF P ops Q rest (a.put o.dst (.tuple #[.bool true, .int q k, enc d])) w') : wpListIn F nF P ops Q (o :: rest) a w :=
  wpListIn_next_ranges (α := Int) (β := Value) w hg it ho kt (int_keyed hk) heldElem (Value.int q) id (fun key kl h => by obtain ⟨x, h1, _⟩ := keyOf_int_inv hk h; exact ⟨x, h1⟩) (fun v y _ => ⟨v, rfl⟩) b r _ _ left cnt hit hrg
    (fun _ h => hDone (fun k => h _))
    (fun x c kl y w' cnt' h1 h2 h3 h4 h5 h6 h7 h8 h9 => by
      obtain ⟨x', e1, e2, e3⟩ := keyOf_int_inv hk h1
      simp only [Value.int.injEq, true_and] at e1
      subst e1; subst e2
      have hc : y = (.held c, []) := by simpa [heldElem] using h3.symm
      have h4' := h4 .nil
      rw [toD_at, hc] at h4'
      cases hd : aget l x with
      | none => rw [hd] at h4'; cases h4'
      | some d =>
        rw [hd] at h4'
        simp only [DataW.held.injEq] at h4'
        subst h4'
        exact hMore x d w' cnt' e3 h2 hd h5 h6 h7 h9)
end

abbrev encU (x : Int) : Value := .int .u32 x

set_option maxHeartbeats 4000000 in
set_option maxRecDepth 100000 in
/-- The held's keys come, each once, in some order. -/
theorem hkeys_in {α : Type} {enc : α → Value} {l0 : List (Int × α)} (n : Nat) (hn : 1 ≤ n) (l Bm b : Nat) (J Jx : List Int → World → Prop)
    (hY : ∀ pre x W, J pre W → pre.length < l0.length → YieldAt Fence.wide (n - 1) Try.prog l #[.int .u32 x] W fun e W' => (e = .returned (.bool true) ∧ J (pre ++ [x]) W' ∧ KeepsWalks W W') ∨ (e = .returned (.bool false) ∧ Jx (pre ++ [x]) W'))
    (W : World) (hJ : AbidesFrom W.heap.size J) (hm : W.cell? ⟨Bm, 0, none⟩ = some (.map (some b))) (M : MapAt Try.prog 27 .u32 enc W b l0) (h0 : J [] W) :
    CallsIn Fence.wide n Try.prog 70 #[.func (.yield l) #[] #[], .pointer (some ⟨Bm, 0, none⟩)] W fun e W' => (∃ v, e = .returned v) ∧ ((∃ ss : List Int, ss.Perm (l0.map (·.1)) ∧ J ss W') ∨ (∃ pre : List Int, True ∧ Jx pre W')) := by
  have HM := hid M
  clear M
  refine callsIn_of_wp Try.func70 rfl trivial ?_ rfl
  simp only [Try.ntmps70, List.size_toArray, List.length_cons, List.length_nil, Nat.reduceAdd, Nat.reduceSub, Array.replicate_succ, Array.replicate_zero, List.push_toArray, List.append_toArray, List.nil_append, List.cons_append]
  gi_wp2_with (first
    | (gi_at_range; refine wpListIn_arange rfl rfl fidU heldU HM.out rfl ?_; intro w0 hrg0 hg0)
    | gi_in)
  go_frame
  gi_loopw [3] (fun _ wr => ∃ (left : Lit → Bool) (cnt : Nat) (ss : List Int), RangeAt Try.prog 27 .u32 enc wr b W.heap.size l0 left cnt ∧ ss.length + cnt ≤ l0.length ∧ Came .u32 l0 left ss ∧ J ss wr)
    (fun _ wr => wr.rangeLeft b W.heap.size)
  case atStart =>
    exact ⟨_, _, [], hrg0, by simp, Came.start, hJ [] W w0 none h0 hg0 (fun r e => by cases e)⟩
  case round =>
    obtain ⟨left, cnt, ss, hrg, hcs, hC, hJs⟩ := hrel
    gi_wp2_with (first
      | (gi_at_next; refine wpListIn_anext rfl rfl fidU rfl hrg ?_ ?_)
      | gi_in)
    · intro hl0
      gi_wp2
      go_end0
      exact ⟨⟨_, rfl⟩, .inl ⟨ss, hC.perm HM.out.srt hl0, hJs⟩⟩
    · intro x d w2 cnt2 hwf hlk hd hrg2 hlt hg2 hen
      have hJ2 : J ss w2 := hJ ss wr w2 (some W.heap.size) hJs hg2 (fun r e => by cases e; exact ⟨Nat.le_refl _, World.ranges.iter_walk hrg⟩)
      obtain ⟨fn, tmps, assign, body, hy, hR⟩ := hY ss x w2 hJ2 (by omega)
      have hC2 := hC.step hlk hd
      gi_wp2
      refine hR.mono ?_
      rintro e W3 (⟨rfl, hJ3, hk3⟩ | ⟨rfl, hJx3⟩)
      · gi_wp2
        have hrg3 : RangeAt Try.prog 27 .u32 enc W3 b W.heap.size l0 _ cnt2 := World.ranges.of_walks hrg2 hk3
        go_roundw
        case rel => exact ⟨_, cnt2, ss ++ [x], hrg3, by simp; omega, hC2, hJ3⟩
        case measure => rw [World.ranges.left_eq hrg3, World.ranges.left_eq hrg]; exact hlt
      · gi_wp2
        refine bodyPost_ret (results_none rfl _ _ _) rfl ?_
        exact ⟨⟨_, rfl⟩, .inr ⟨ss ++ [x], trivial, hJx3⟩⟩

theorem hkeys_stops {α : Type} {enc : α → Value} {l0 : List (Int × α)} (n : Nat) (hn : 1 ≤ n) (Bm b : Nat) (w : World) (hBm : Bm < w.heap.size) (hm : w.cell? ⟨Bm, 0, none⟩ = some (.map (some b))) (M : MapAt Try.prog 27 .u32 enc w b l0) :
    SeqStopsK Fence.wide n Try.prog 70 #[.pointer (some ⟨Bm, 0, none⟩)] (fun x => #[encU x]) KeepsWalks (fun ss => ss.Perm (l0.map (·.1))) (fun _ => True) l0.length w :=
  fun l J Jx W hW hJ _ hY h0 => hkeys_in n hn l Bm b J Jx hY W hJ ((hW.cell (p := ⟨Bm, 0, none⟩) hBm).trans hm) (M.heap (hW.block b M.lt)) h0

end Go.Proofs.Ytokhbjllgaaogaa
