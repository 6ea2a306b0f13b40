/- The cache's sorted: its iterator tells all that is at hand, by the fids. No condition beside what each law asks. -/
import Derived.Test.YtokhbjllgaaogaaCCache2
import Derived.Maps.OwnIn
namespace Go.Proofs.Ytokhbjllgaaogaa
set_option linter.unusedSimpArgs false
open Go.RowKit Go.Maps Go.Shelf
attribute [local go_sem] Oper.semAt_some

/-- What a round keeps: cells and maps, but for the caller's own. -/
def KpS (S : Nat → Prop) (W W' : World) : Prop := W.heap.size ≤ W'.heap.size ∧ ∀ b o, W.heap[b]? = some o → (o.isCells = true ∨ o.isWalk = true) → ¬ S b → W'.heap[b]? = some o

theorem KpS.refl (S : Nat → Prop) (W : World) : KpS S W W := ⟨Nat.le_refl _, fun _ _ h _ _ => h⟩
theorem KpS.trans {S : Nat → Prop} {A B C : World} (h : KpS S A B) (k : KpS S B C) : KpS S A C := ⟨Nat.le_trans h.1 k.1, fun b o hb ho hs => k.2 b o (h.2 b o hb ho hs) ho hs⟩
theorem KpS.cells {S : Nat → Prop} {W W' : World} (h : KpS S W W') {b : Nat} {cs : Array Value} {t : TypeId} {fr : Nat × Nat} (hb : W.heap[b]? = some (.cells cs t fr)) (hs : ¬ S b) : W'.heap[b]? = some (.cells cs t fr) := h.2 b _ hb (.inl rfl) hs
theorem KpS.map {α : Type} {S : Nat → Prop} {W W' : World} (h : KpS S W W') {P : Program} {kt : TypeId} {q : IntKind} {enc : α → Value} {b : Nat} {l : List (Int × α)} (M : MapAt P kt q enc W b l) (hs : ¬ S b) : MapAt P kt q enc W' b l := by
  obtain ⟨es, clock, hb, hr⟩ := id M.owns
  exact M.heap ((h.2 b _ hb (.inr rfl) hs).trans hb.symm)
theorem KpS.of_fr {S T : Nat → Prop} {W W' : World} (h : Fr T W W') (hT : ∀ b, T b → S b) : KpS S W W' := ⟨h.size, fun _ _ hb _ hs => h.keep hb (fun ht => hs (hT _ ht))⟩

theorem grown_of_fr {w w' : World} (h : Fr No w w') : w.grownBy w' none := ⟨h.os, h.tape, h.output, h.size, fun k hk _ => h.blk k hk (fun h => h)⟩

/-- One that is at hand, as an iterator hands it out. -/
abbrev UH := { x : Int × (Int × Bool) // (Lit.int .u32 x.1).wf = true }
abbrev encs2 (x : UH) : Array Value := #[.int .u32 x.1.1, encH x.1.2]

theorem uh_of {hl : List (Int × (Int × Bool))} (h : ∀ x ∈ hl, (Lit.int .u32 x.1).wf = true) : ∃ hU : List UH, hU.map Subtype.val = hl := by
  induction hl with
  | nil => exact ⟨[], rfl⟩
  | cons y r ih =>
    obtain ⟨t, ht⟩ := ih (fun x hx => h x (List.mem_cons_of_mem _ hx))
    exact ⟨⟨y, h y List.mem_cons_self⟩ :: t, by simp [ht]⟩

theorem wpListIn_look {P : Program} {ops : Array Oper} {rest : List Oper} {o : Oper} {a : Act} {w : World} {Q : Exit → Act → World → Prop} {F : Fence} {nF : Nat} {t : TypeId} {m x : Operand} {bb : Bool} {v : Value} (hg : o.guard = none) (ho : o.op = .lookup t m x bb)
    (hrun : (execOp a.eval o).run P w = .ok (.value v) w) (h : wpListIn F nF P ops Q rest (a.put o.dst v) w) : wpListIn F nF P ops Q (o :: rest) a w := by
  refine wpListIn_plain hg fun K' hK' => ?_
  unfold Oper.wpIn
  refine ⟨by simp [Oper.about, ho], ?_⟩
  rw [Oper.semAt_plain F _ _ (by rw [ho]; intro c hc'; cases hc')]
  rw [hrun]
  exact hK' _ _ h

theorem run_look_some {α : Type} {P : Program} {kt et t : TypeId} {q : IntKind} {enc : α → Value} {w : World} {b : Nat} {l : List (Int × α)} {k : Int} {d0 d : α} (M : MapAt P kt q enc w b l) (hk : P.underlying kt = some (.int q)) (ht : P.underlying t = some (.map kt et)) (hz : (zeroValue et).run P w = .ok (enc d0) w) (hwf : (Lit.int q k).wf = true) (hd : aget l k = some d) :
    (Instr.lookup t (.map (some b)) (.int q k) false).run P w = .ok (enc d) w := by
  rw [run_look M hk ht hz hwf, hd]; rfl

theorem aget_at {α : Type} {l : List (Int × α)} (hs : Srt l) {j : Nat} {x : Int × α} (h : l[j]? = some x) : aget l x.1 = some x.2 := by
  cases hg : aget l x.1 with
  | none => exact absurd rfl (aget_none.1 hg x (List.mem_of_getElem? h))
  | some d =>
    have h2 := aget_some_mem hg
    obtain ⟨i, hi⟩ := List.mem_iff_getElem?.1 h2
    have hpw := List.pairwise_iff_getElem.1 hs
    obtain ⟨hi1, hi2⟩ := List.getElem?_eq_some_iff.1 hi
    obtain ⟨hj1, hj2⟩ := List.getElem?_eq_some_iff.1 h
    by_cases hij : i = j
    · subst hij; have e := congrArg Prod.snd (Option.some.inj (h.symm.trans hi)); rw [e]
    · rcases Nat.lt_or_gt_of_ne hij with h3 | h3
      · have := hpw i j hi1 hj1 h3; rw [hi2, hj2] at this; exact absurd this (Int.lt_irrefl _)
      · have := hpw j i hj1 hi1 h3; rw [hi2, hj2] at this; exact absurd this (Int.lt_irrefl _)

theorem owns_shape {w : World} {base : Nat} {e : TypeId} {sz : Nat} {v : Value} {n : Nat} {cs : List Value} (h : w.ownsRow base e sz v n cs) : ∃ va vc, v = .slice va n vc := by
  obtain ⟨_, ⟨rfl, h0⟩ | ⟨g, cap, cur, rfl, _⟩⟩ := h
  · exact ⟨none, 0, by rw [h0]⟩
  · exact ⟨_, _, rfl⟩

/-- A cell of a row of the call's own, and the block that it lies in. -/
theorem owns_cell {w : World} {base : Nat} {e : TypeId} {va : Option Addr} {vc n : Nat} {cs : List Value} (h : w.ownsRow base e 1 (.slice va n vc) n cs) {j : Nat} {u : Value} (hj : cs[j]? = some u) : ∃ g cur, va = some ⟨g, 0, none⟩ ∧ base ≤ g ∧ w.heap[g]? = some (.cells cur e (0, 0)) ∧ cur[j]? = some u := by
  obtain ⟨hl, ⟨hv, h0⟩ | ⟨g, cap, cur, hv, hb, hh, _, _, _, h4⟩⟩ := h
  · have := (List.getElem?_eq_some_iff.1 hj).1; omega
  · simp only [Value.slice.injEq, true_and] at hv
    refine ⟨g, cur, hv.1, hb, hh, ?_⟩
    have hlt := (List.getElem?_eq_some_iff.1 hj).1
    rw [← h4, List.getElem?_take_of_lt (by omega), Array.getElem?_toList] at hj
    exact hj

set_option maxHeartbeats 4000000 in
set_option maxRecDepth 100000 in
theorem sorted1_in {S : Nat → Prop} (n : Nat) (hn : 1 ≤ n) (l Bx p : Nat) {k m : Int} {hl : List (Int × (Int × Bool))} {bh bd : Nat} {tb : TypeId} (hlen : hl.length ≤ 12) {hU : List UH} (hUe : hU.map Subtype.val = hl) (J Jx : List UH → World → Prop)
    (hY : ∀ pre x W, J pre W → pre.length < hU.length → YieldAt Fence.wide (n - 1) Try.prog l (encs2 x) W fun e W' => (e = .returned (.bool true) ∧ J (pre ++ [x]) W' ∧ KpS S W W') ∨ (e = .returned (.bool false) ∧ Jx (pre ++ [x]) W'))
    (W : World) (hJ : AbidesFrom W.heap.size J) (hS : ∀ b, S b → b < W.heap.size) (hB : W.heap[Bx]? = some (.cells #[.pointer (some ⟨p, 0, none⟩)] tb (0, 0))) (hsB : ¬ S Bx)
    (hp : W.heap[p]? = some (.cells #[.int .i64 m, .int .i64 k, .map (some bh), .map (some bd)] 58 (0, 0))) (hsp : ¬ S p) (M : MapAt Try.prog 27 .u32 encH W bh hl) (hsh : ¬ S bh) (h0 : J [] W) :
    CallsIn Fence.wide n Try.prog 55 #[.func (.yield l) #[] #[], .pointer (some ⟨Bx, 0, none⟩)] W fun e W' => (∃ v, e = .returned v) ∧ ((∃ ss, ss = hU ∧ J ss W') ∨ (∃ pre : List UH, True ∧ Jx pre W')) := by
  have HUL : Hid (hU.length = hl.length) := by show _ = _; rw [← hUe]; simp
  have HM := hid M
  have HP := hid hp
  have HB := hid hB
  have c0 : W.cell? ⟨Bx, 0, none⟩ = some (.pointer (some ⟨p, 0, none⟩)) := cell_at hB rfl
  have c2 : W.cell? ⟨p, 2, none⟩ = some (.map (some bh)) := cell_at hp rfl
  clear M hp hB
  refine callsIn_of_wp Try.func55 rfl trivial ?_ rfl
  simp only [Try.ntmps55, List.size_toArray, List.length_cons, List.length_nil, Nat.reduceAdd, Nat.reduceSub, Array.replicate_succ, Array.replicate_zero, List.push_toArray, List.append_toArray, List.nil_append, List.cons_append]
  gi_wp2_with (first
    | (refine ⟨trivial, ?_⟩; refine callsIn_wide.2 (hkeys_ok ⟨_, rfl⟩ ?_))
    | (refine ⟨trivial, ?_⟩; refine callsIn_wide.2 (hsorted_ok (cell_at (heap_alloc_new W _) rfl) (lt_of_heap (heap_alloc_new W (.cells #[.map (some bh)] 55))) (HM.out.alloc _) hlen ?_); intro v w2 hrow hf; have HROW := hid hrow; have F2 := hid (((Fr.refl No W).alloc (.cells #[.map (some bh)] 55)).no hf); clear hrow hf; obtain ⟨va, vc, rfl⟩ := owns_shape HROW.out))
  have J2 := hid (hJ [] W w2 none h0 (grown_of_fr F2.out) (fun r e => by cases e))
  have hSg : Hid (∀ b, S b → ¬ W.heap.size ≤ b) := fun b hb h => Nat.lt_irrefl _ (Nat.lt_of_le_of_lt h (hS b hb))
  have C02 : Hid (w2.heap[Bx]? = some (.cells #[.pointer (some ⟨p, 0, none⟩)] tb (0, 0))) := F2.out.keep HB.out (fun h => h)
  have P2 := hid (F2.out.keep HP.out (fun h => h))
  have M2 : Hid (MapAt Try.prog 27 .u32 encH w2 bh hl) := HM.out.fr F2.out (fun h => h)
  clear c0 c2 h0
  gi_loopw [14] (fun t14 wr => ∃ j : Nat, j ≤ hl.length ∧ t14 = .int .i64 (j : Nat) ∧ Hid (J (hU.take j) wr ∧ KpS S w2 wr)) (fun t14 _ => hl.length - (intOf t14).toNat)
  case atStart => exact ⟨0, Nat.zero_le _, rfl, by simpa using J2.out, KpS.refl _ _⟩
  case round =>
    obtain ⟨j, hj, rfl, hh⟩ := hrel
    have JJ := hid hh.out.1
    have KK := hid hh.out.2
    clear hh J2
    by_cases hlt : j < hl.length
    · obtain ⟨⟨⟨kx, u, d⟩, hw⟩, hx'⟩ : ∃ x, hU[j]? = some x := ⟨hU[j]'(by rw [HUL.out]; exact hlt), List.getElem?_eq_getElem _⟩
      have hx : hl[j]? = some (kx, u, d) := by rw [← hUe]; simp [hx']
      have HX' := hid hx'
      clear hx'
      obtain ⟨g, cur, rfl, hg, hcur, hcell⟩ := owns_cell HROW.out (j := j) (u := encU kx) (by simp [hx])
      have q0 : wr.cell? ⟨g, j, none⟩ = some (.int .u32 kx) := cell_at (KK.out.cells hcur (fun h => hSg.out _ h (by have : (W.alloc (.cells #[.map (some bh)] 55)).heap.size = W.heap.size + 1 := (by simp); omega))) hcell
      have c0 : wr.cell? ⟨Bx, 0, none⟩ = some (.pointer (some ⟨p, 0, none⟩)) := cell_at (KK.out.cells C02.out hsB) rfl
      have c2 : wr.cell? ⟨p, 2, none⟩ = some (.map (some bh)) := cell_at (KK.out.cells P2.out hsp) rfl
      have MR := hid (KK.out.map M2.out hsh)
      have HD : Hid (aget hl kx = some (u, d)) := aget_at HM.out.srt hx
      have HWF : Hid ((Lit.int .u32 kx).wf = true) := HM.out.wf _ (List.mem_of_getElem? hx)
      have hj0 : (0 : Int) ≤ j := by omega
      have hj1 : (j : Int) < hl.length := by omega
      have HX := hid hx
      obtain ⟨fn, tmps, assign, body, hy, hR⟩ := hY (hU.take j) ⟨(kx, u, d), hw⟩ wr JJ.out (by have := HUL.out; simp; omega)
      clear hcell hcur hx
      gi_wp2_with (refine wpListIn_look rfl rfl (run_look_op rfl rfl rfl (run_look_some MR.out fidU heldU (zeroH _) HWF.out HD.out)) ?_)
      refine hR.mono ?_
      rintro e W3 (⟨rfl, hJ3, hk3⟩ | ⟨rfl, hJx3⟩)
      · have J3 := hid hJ3
        have K3 := hid hk3
        clear hJ3 hk3
        gi_wp2
        go_roundw
        case rel => exact ⟨j + 1, by omega, by go_num, by have := J3.out; rwa [List.take_add_one, HX'.out], KK.out.trans K3.out⟩
        case measure => first | (simp [intOf]; done) | (simp [intOf]; omega)
      · have J3 := hid hJx3
        clear hJx3
        gi_wp2
        refine bodyPost_ret (results_none rfl _ _ _) rfl ?_
        exact ⟨⟨_, rfl⟩, .inr ⟨_, trivial, J3.out⟩⟩
    · obtain rfl : j = hl.length := by omega
      gi_wp2
      go_end0
      exact ⟨⟨_, rfl⟩, .inl ⟨hU, rfl, by have := JJ.out; rwa [← HUL.out, List.take_length] at this⟩⟩

theorem sorted1_stops {S : Nat → Prop} (n : Nat) (hn : 1 ≤ n) (Bx p : Nat) {k m : Int} {hl : List (Int × (Int × Bool))} {dl : List (Int × Int)} {bh bd : Nat} {tb : TypeId} (hlen : hl.length ≤ 12) {hU : List UH} (hUe : hU.map Subtype.val = hl) (w : World) (hS : ∀ b, S b → b < w.heap.size)
    (hB : w.heap[Bx]? = some (.cells #[.pointer (some ⟨p, 0, none⟩)] tb (0, 0))) (hsB : ¬ S Bx) (C : CacheAt w p m k hl dl bh bd) (hsC : ∀ b, CacheS p bh bd b → ¬ S b) :
    SeqStopsK Fence.wide n Try.prog 55 #[.pointer (some ⟨Bx, 0, none⟩)] encs2 (KpS S) (fun ss => ss = hU) (fun _ => True) hU.length w :=
  fun l J Jx W hW hJ _ hY h0 => sorted1_in n hn l Bx p hlen hUe J Jx hY W hJ (fun b hb => Nat.lt_of_lt_of_le (hS b hb) hW.size) ((hW.block Bx (lt_of_heap hB)).trans hB) hsB
    ((hW.block p (lt_of_heap C.head)).trans C.head) (hsC _ (.inl rfl)) (C.held.heap (hW.block bh C.held.lt)) (hsC _ (.inr (.inl rfl))) h0

set_option maxHeartbeats 4000000 in
set_option maxRecDepth 100000 in
/-- A nil cache's iterator tells nothing. -/
theorem sorted1_nil {Kp : World → World → Prop} (n : Nat) (Bx : Nat) {tb : TypeId} (w : World) (hB : w.heap[Bx]? = some (.cells #[.pointer none] tb (0, 0))) :
    SeqStopsK Fence.wide n Try.prog 55 #[.pointer (some ⟨Bx, 0, none⟩)] encs2 Kp (fun ss => ss = []) (fun _ => True) 0 w := by
  intro l J Jx W hW hJ _ hY h0
  have c0 : W.cell? ⟨Bx, 0, none⟩ = some (.pointer none) := cell_at ((hW.block Bx (lt_of_heap hB)).trans hB) rfl
  refine callsIn_of_wp (args := #[.func (.yield l) #[] #[], .pointer (some ⟨Bx, 0, none⟩)]) Try.func55 rfl trivial ?_ rfl
  simp only [Try.ntmps55, List.size_toArray, List.length_cons, List.length_nil, Nat.reduceAdd, Nat.reduceSub, Array.replicate_succ, Array.replicate_zero, List.push_toArray, List.append_toArray, List.nil_append, List.cons_append]
  gi_wp2
  refine bodyPost_ret (results_none rfl _ _ _) rfl ?_
  exact ⟨⟨_, rfl⟩, .inl ⟨[], rfl, h0⟩⟩

theorem sorted_ok {c : Option Addr} {w : World} {R : Ending → World → Prop} (hR : R (.returned (.func (.func 55) #[] #[.pointer (some ⟨w.heap.size, 0, none⟩)])) (w.alloc (.cells #[.pointer c] 23))) :
    Calls Try.prog 29 #[.pointer c] w R := by
  go_enter Try.func29, Try.ntmps29
  go_wp2
  exact hR

end Go.Proofs.Ytokhbjllgaaogaa
