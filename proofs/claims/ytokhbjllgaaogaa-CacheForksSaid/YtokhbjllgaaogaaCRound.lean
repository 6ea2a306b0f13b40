/- A region that draws its order, in a round of a range over a function: as it is walked outside of one. No condition beside what the law asks. -/
import Derived.Test.YtokhbjllgaaogaaCCmp
namespace Go.Proofs.Ytokhbjllgaaogaa
set_option linter.unusedSimpArgs false
open Go.RowKit Go.Maps Go.Shelf

/-- It goes on. -/
def Qn (K : Act → World → Prop) : Exit → Act → World → Prop
  | .normal, a, w => K a w
  | _, _, _ => False

def noDefer (ops : Array Oper) : Bool := ops.all fun o => match o.op with | .defer _ => false | _ => true

theorem noDefer_at {ops : Array Oper} (h : noDefer ops = true) {i : Nat} {o : Oper} (hi : ops[i]? = some o) : ∀ c, o.op ≠ .defer c := by
  intro c hc
  have := (Array.all_eq_true_iff_forall_mem.1 h) o (Array.mem_of_getElem? hi)
  rw [hc] at this
  cases this

section
variable {P : Program} {ops : Array Oper} {K : Act → World → Prop} {md : Region.Mode} {n l : Nat}

theorem letsOut_no (h : LetsOut (Qn K)) : False := h.elim fun _ h => h.elim fun _ h => h

theorem oper_round {o : Oper} (hd : ∀ c, o.op ≠ .defer c) {a : Act} {w : World} {K' : Act → World → Prop} (h : o.wp P a w K' (Qn K)) : o.wpIn (Fence.wide.inRound l) n P a w K' (Qn K) := by
  unfold Oper.wpIn
  refine ⟨fun _ _ => trivial, ?_⟩
  rw [Oper.semAt_eq _ _ _ hd]
  unfold Oper.wp at h
  generalize (execOp a.eval o).run P w = r at h ⊢
  cases r with
  | ok x w' =>
    cases x with
    | value v => exact h
    | skip => exact h
    | defer d => exact h
    | enter f args =>
      have hc := (callsIn_wide (n := n - 1)).2 h
      exact ⟨fun hx => (Bool.noConfusion hx), hc⟩
    | row r args =>
      refine ⟨fun hx => (Bool.noConfusion hx), fun c cs _ => ?_⟩
      obtain ⟨v, w', q, s⟩ := h c cs
      exact ⟨v, w', q, stepsIn_wide.2 s⟩
    | _ => exact h.elim
  | halt x w' => cases x <;> exact h

theorem any_round (hd : noDefer ops = true) : ∀ (fuel : Nat) (listed : Array Bool) (a : Act) (w : World), wpAny P md ops (Qn K) fuel listed a w → wpAnyIn (Fence.wide.inRound l) n P md ops (Qn K) fuel listed a w
  | 0, listed, a, w, h => h
  | fuel + 1, listed, a, w, h => by
    refine ⟨h.1, fun i hi => ?_⟩
    have h2 := h.2 i hi
    unfold wpOp at h2
    unfold wpOpIn
    cases ho : ops[i]? with
    | none => rw [ho] at h2; exact any_round hd fuel _ _ _ h2
    | some o =>
      simp only [ho] at h2 ⊢
      split
      · rename_i hw
        rw [if_pos hw] at h2
        rcases h2 with h2 | ⟨_, h2⟩
        · exact Oper.wpIn_mono (fun a w h => any_round hd fuel _ a w h) (oper_round (noDefer_at hd ho) h2)
        · exact (letsOut_no h2).elim
      · rename_i hw
        rw [if_neg hw] at h2
        exact ⟨fun _ _ => trivial, any_round hd fuel _ _ _ h2⟩

theorem region_heldIn {id : Nat} {lo : List Oper} {Q : Exit → Act → World → Prop} {a : Act} {w : World} (S : World → Prop) (hm : P.follows .mixedOrders = true) {m : Nat} (hn : lo.toArray.size = m) (hd : noDefer lo.toArray = true)
    (h : wpAnyH P .any lo.toArray (Qn (Q .normal)) S m (Array.replicate m false) a w.drew) : (Code.region id lo.toArray true).wpIn (Fence.wide.inRound l) n P Q a w := by
  subst hn
  refine wpIn_mono (Q := Qn (Q .normal)) (wpIn_region_any hm (any_round hd _ _ _ _ (wpAny_of_held _ _ _ _ h))) fun e a w hq => ?_
  cases e <;> first | exact hq | exact hq.elim

theorem region_heldQ {id : Nat} {lo : List Oper} {Q : Exit → Act → World → Prop} {a : Act} {w : World} (S : World → Prop) (hm : P.follows .mixedOrders = true) {m : Nat} (hn : lo.toArray.size = m)
    (h : wpAnyH P .any lo.toArray (Qn (Q .normal)) S m (Array.replicate m false) a w.drew) : (Code.region id lo.toArray true).wpIn Fence.wide n P Q a w := by
  subst hn
  refine wpIn_mono (Q := Qn (Q .normal)) (wpIn_wide.2 (wp_region_held hm h)) fun e a w hq => ?_
  cases e <;> first | exact hq | exact hq.elim
end

end Go.Proofs.Ytokhbjllgaaogaa
