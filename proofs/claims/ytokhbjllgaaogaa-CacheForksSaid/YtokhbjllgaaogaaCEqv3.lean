/- The cache's laws without the program: both lists and both walks are the same. No condition beside what each law asks. -/
import Derived.Test.YtokhbjllgaaogaaCRef8
import Derived.Test.YtokhbjllgaaogaaCDirty
namespace Go.Proofs.Ytokhbjllgaaogaa
set_option linter.unusedSimpArgs false
open Go.RowKit Go.Maps

section
variable {n k : Int} {l : List (Int × Bool)} {dh dl : List (Int × Int)} {hl : HL} {ys zs : List Int}

theorem Eqv.listed (I : Eqv n l dh hl dl k) : insAll (l.map (·.1)) = hl.map (·.1) := by
  have hp : (insAll (l.map (·.1))).Perm (hl.map (·.1)) := by
    refine (insAll_perm _).trans ?_
    have := I.perm.map (·.1)
    rw [List.map_map] at this
    exact this
  exact List.Perm.eq_of_pairwise (le := fun a b : Int => a ≤ b) (fun a b _ _ h h' => Int.le_antisymm h h') (insAll_sorted _) (List.pairwise_map.2 (List.Pairwise.imp (R := fun a b : Int × (Int × Bool) => a.1 < b.1) (fun h => by omega) I.srt)) hp

theorem wkey_inj {a b : Int} (ha : 0 ≤ a ∧ a < 4294967296) (hb : 0 ≤ b ∧ b < 4294967296) (h : wkey dl a = wkey dl b) : a = b := by unfold wkey at h; omega

theorem Walked.eq (H : Walked hl dl ys) (H2 : Walked hl dl zs) (hw : ∀ x ∈ dl.map (·.1), 0 ≤ x ∧ x < 4294967296) : ys = zs :=
  List.Perm.eq_of_pairwise (le := fun a b : Int => wkey dl a ≤ wkey dl b) (fun a b ha hb h h' => wkey_inj (hw a (H.each ha).1) (hw b (H2.each hb).1) (Int.le_antisymm h h')) H.ord H2.ord (H.perm.trans H2.perm.symm)

theorem perm_or {α : Type} {p q : α → Bool} : ∀ {l : List α}, (∀ x ∈ l, ¬ (p x = true ∧ q x = true)) → (l.filter fun x => p x || q x).Perm (l.filter p ++ l.filter q)
  | [], _ => List.Perm.refl _
  | x :: r, h => by
    have ih := perm_or (l := r) (p := p) (q := q) (fun y hy => h y (List.mem_cons_of_mem _ hy))
    have hx := h x List.mem_cons_self
    cases hp : p x with
    | true =>
      have hq : q x = false := by cases hq : q x with | false => rfl | true => exact absurd ⟨hp, hq⟩ hx
      rw [List.filter_cons_of_pos (by simp [hp]), List.filter_cons_of_pos hp, List.filter_cons_of_neg (by simp [hq])]
      exact ih.cons x
    | false =>
      cases hq : q x with
      | true =>
        rw [List.filter_cons_of_pos (by simp [hq]), List.filter_cons_of_neg (by simp [hp]), List.filter_cons_of_pos hq]
        exact (ih.cons x).trans List.perm_middle.symm
      | false =>
        rw [List.filter_cons_of_neg (by simp [hp, hq]), List.filter_cons_of_neg (by simp [hp]), List.filter_cons_of_neg (by simp [hq])]
        exact ih

theorem rwk_perm (I : Eqv n l dh hl dl k) : ∀ j : Nat, j ≤ 100 → (rwk l dh j).Perm ((dh.filter fun x => decide (100 - (j : Int) < x.2) && (aget l x.1).isNone).map (·.1))
  | 0, _ => by
    rw [show (dh.filter fun x => decide (100 - ((0 : Nat) : Int) < x.2) && (aget l x.1).isNone) = [] from List.filter_eq_nil_iff.2 (fun x hx => by have := I.dpos x hx; simp; omega)]
    exact List.Perm.refl _
  | j + 1, hj => by
    have ih := rwk_perm I j (by omega)
    have e : (dh.filter fun x => decide (100 - ((j + 1 : Nat) : Int) < x.2) && (aget l x.1).isNone) = dh.filter fun x => (decide (100 - (j : Int) < x.2) && (aget l x.1).isNone) || (decide (x.2 = 100 - (j : Int)) && (aget l x.1).isNone) := by
      refine List.filter_congr fun x _ => ?_
      rw [← Bool.and_or_distrib_right]
      congr 1
      rw [Bool.eq_iff_iff]
      simp
      omega
    rw [e]
    have hp := perm_or (l := dh) (p := fun x => decide (100 - (j : Int) < x.2) && (aget l x.1).isNone) (q := fun x => decide (x.2 = 100 - (j : Int)) && (aget l x.1).isNone) (fun x _ h => by
      have h1 := h.1
      have h2 := h.2
      simp at h1 h2
      omega)
    refine List.Perm.trans ?_ (hp.map (·.1)).symm
    rw [List.map_append]
    exact ih.append (insAll_perm _)

theorem Eqv.dearIn (I : Eqv n l dh hl dl k) {x : Int × Int} (hx : x ∈ dh) : dearOf dl x.1 = x.2 := by
  unfold dearOf
  rw [I.dget, I.dnod.get (d := x.2) hx]
  rfl

theorem rwk_mem (I : Eqv n l dh hl dl k) {j : Nat} (hj : j ≤ 100) {y : Int} (hy : y ∈ rwk l dh j) : 100 - (j : Int) < dearOf dl y ∧ y ∈ dl.map (·.1) := by
  obtain ⟨x, hx, rfl⟩ := List.mem_map.1 ((rwk_perm I j hj).subset hy)
  obtain ⟨hm, hc⟩ := List.mem_filter.1 hx
  rw [I.dearIn hm]
  simp at hc
  exact ⟨hc.1, List.mem_map.2 ⟨x, I.dperm.subset hm, rfl⟩⟩
theorem sel_mem (I : Eqv n l dh hl dl k) {m y : Int} (hy : y ∈ insAll (sel l m dh)) : dearOf dl y = m ∧ y ∈ dl.map (·.1) := by
  obtain ⟨x, hx, rfl⟩ := List.mem_map.1 ((insAll_perm _).subset hy)
  obtain ⟨hm, hc⟩ := List.mem_filter.1 hx
  rw [I.dearIn hm]
  simp at hc
  exact ⟨hc.1, List.mem_map.2 ⟨x, I.dperm.subset hm, rfl⟩⟩

theorem rwk_ord (I : Eqv n l dh hl dl k) (hw : ∀ x ∈ dl.map (·.1), 0 ≤ x ∧ x < 4294967296) : ∀ j : Nat, j ≤ 100 → (rwk l dh j).Pairwise (fun a b => wkey dl a ≤ wkey dl b)
  | 0, _ => List.Pairwise.nil
  | j + 1, hj => by
    refine List.pairwise_append.2 ⟨rwk_ord I hw j (by omega), ?_, fun a ha b hb => ?_⟩
    · refine List.Pairwise.imp_of_mem (fun {a b} ha hb h => ?_) (insAll_sorted (sel l (100 - (j : Nat)) dh))
      have h1 := (sel_mem I ha).1
      have h2 := (sel_mem I hb).1
      unfold wkey
      omega
    · have h1 := rwk_mem I (by omega) ha
      have h2 := sel_mem I hb
      have h3 := hw a h1.2
      have h4 := hw b h2.2
      unfold wkey
      omega

theorem rwk_walked (I : Eqv n l dh hl dl k) (hw : ∀ x ∈ dl.map (·.1), 0 ≤ x ∧ x < 4294967296) : Walked hl dl (rwk l dh 100) := by
  refine ⟨(rwk_perm I 100 (Nat.le_refl _)).trans ?_, rwk_ord I hw 100 (Nat.le_refl _)⟩
  have e : (dh.filter fun x => decide (100 - ((100 : Nat) : Int) < x.2) && (aget l x.1).isNone) = dh.filter fun x => !(aget hl x.1).isSome := by
    refine List.filter_congr fun x hx => ?_
    have h1 := (I.dpos x hx).1
    rw [show decide (100 - ((100 : Nat) : Int) < x.2) = true from decide_eq_true (by omega), Bool.true_and]
    have := I.none (f := x.1)
    cases h : aget hl x.1 with
    | none => rw [this.2 h]; rfl
    | some z =>
      cases h2 : aget l x.1 with
      | none => rw [this.1 h2] at h; cases h
      | some d => rfl
  rw [e, List.filter_map]
  exact ((I.dperm.filter _).map _)
end

end Go.Proofs.Ytokhbjllgaaogaa
