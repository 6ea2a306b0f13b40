/- The law CacheTurns without the program: what is used, in its order, and what is at hand. No condition beside what each law asks. -/
import Derived.Test.YtokhbjllgaaogaaCIter2
namespace Go.Proofs.Ytokhbjllgaaogaa
set_option linter.unusedSimpArgs false
open Go.RowKit Go.Maps

abbrev HL := List (Int × (Int × Bool))
def tm (hl : HL) (f : Int) : Int := ((aget hl f).getD (0, false)).1

structure Inv (us : List Int) (hl : HL) (k : Int) : Prop where
  ord : us.Pairwise (fun a b => tm hl a < tm hl b)
  mem : ∀ f, f ∈ us ↔ (aget hl f).isSome = true
  ok : ∀ f h, aget hl f = some h → h.2 = false ∧ h.1 ≤ k
  srt : Srt hl

section
variable {us rest : List Int} {hl hl' : HL} {k f : Int}

theorem Inv.nodup (I : Inv us hl k) : us.Nodup := I.ord.imp (fun h e => by subst e; exact Int.lt_irrefl _ h)
theorem Inv.perm (I : Inv us hl k) : us.Perm (hl.map (·.1)) := by
  refine (List.perm_ext_iff_of_nodup I.nodup ?_).2 fun x => ?_
  · exact List.pairwise_map.2 (List.Pairwise.imp (R := fun a b : Int × (Int × Bool) => a.1 < b.1) (fun h => by omega) I.srt)
  · rw [I.mem x, aget_isSome]
theorem Inv.length (I : Inv us hl k) : us.length = hl.length := by have := I.perm.length_eq; simpa using this

theorem Inv.nil : Inv [] [] 0 := ⟨List.Pairwise.nil, fun f => by simp [aget], fun f h hh => by simp [aget] at hh, List.Pairwise.nil⟩

theorem Inv.step (I : Inv us hl k) (hrs : rest.Sublist us) (hf : f ∉ rest) (hs : Srt hl') (h1 : aget hl' f = some (k + 1, false)) (h2 : ∀ g, g ≠ f → aget hl' g = if g ∈ rest then aget hl g else none) : Inv (rest ++ [f]) hl' (k + 1) := by
  have htm : ∀ a, a ∈ rest → tm hl' a = tm hl a := fun a ha => by
    unfold tm
    rw [h2 a (fun e => hf (e ▸ ha)), if_pos ha]
  have hkf : tm hl' f = k + 1 := by unfold tm; rw [h1]; rfl
  have hle : ∀ a, a ∈ rest → tm hl a ≤ k := fun a ha => by
    have := (I.mem a).1 (hrs.subset ha)
    obtain ⟨h, hh⟩ := Option.isSome_iff_exists.1 this
    unfold tm
    rw [hh]
    exact (I.ok a h hh).2
  refine ⟨?_, fun g => ?_, fun g h hh => ?_, hs⟩
  · refine List.pairwise_append.2 ⟨?_, by simp, fun a ha b hb => ?_⟩
    · have := List.Pairwise.sublist hrs I.ord
      refine List.Pairwise.imp_of_mem (fun {a b} ha hb h => ?_) this
      rw [htm a ha, htm b hb]; exact h
    · simp at hb
      subst hb
      rw [htm a ha, hkf]
      have := hle a ha
      omega
  · by_cases hg : g = f
    · subst hg; simp [h1]
    · rw [h2 g hg]
      by_cases hr : g ∈ rest
      · rw [if_pos hr]
        simp only [List.mem_append, hr, true_or, true_iff]
        exact (I.mem g).1 (hrs.subset hr)
      · rw [if_neg hr]
        simp [hr, hg]
  · by_cases hg : g = f
    · subst hg
      rw [h1] at hh
      cases hh
      exact ⟨rfl, Int.le_refl _⟩
    · rw [h2 g hg] at hh
      split at hh
      · have := I.ok g h hh
        exact ⟨this.1, by omega⟩
      · cases hh

theorem Inv.put (I : Inv us hl k) {d : Int × Bool} : Inv (us.filter (fun a => decide (a ≠ f)) ++ [f]) (aput hl f (k + 1, false)) (k + 1) ∧ Inv (us.filter (fun a => decide (a ≠ f)) ++ [f]) (aput (aput hl f d) f (k + 1, false)) (k + 1) := by
  have key : ∀ g, g ≠ f → aget hl g = if g ∈ us.filter (fun a => decide (a ≠ f)) then aget hl g else none := fun g hg => by
    split
    · rfl
    · rename_i h
      have : g ∉ us := fun hu => h (by simp [hu, hg])
      have := mt (I.mem g).2 this
      simpa using this
  constructor
  · exact I.step List.filter_sublist (by simp) (I.srt.put _ _) (aget_put_same _ _ _) (fun g hg => by rw [aget_put_other _ _ hg]; exact key g hg)
  · exact I.step List.filter_sublist (by simp) ((I.srt.put _ _).put _ _) (aget_put_same _ _ _) (fun g hg => by rw [aget_put_other _ _ hg, aget_put_other _ _ hg]; exact key g hg)

theorem Inv.out {b : Int} {tl : List Int} (I : Inv (b :: tl) hl k) (hf : f ∉ b :: tl) {d : Int × Bool} : Inv (tl ++ [f]) (aput (aput (adel hl b) f d) f (k + 1, false)) (k + 1) := by
  refine I.step (List.sublist_cons_self _ _) (fun h => hf (List.mem_cons_of_mem _ h)) (((I.srt.del _).put _ _).put _ _) (aget_put_same _ _ _) (fun g hg => ?_)
  rw [aget_put_other _ _ hg, aget_put_other _ _ hg]
  have hnd := I.nodup
  by_cases hb : g = b
  · subst hb
    rw [aget_del_same, if_neg (List.nodup_cons.1 hnd).1]
  · rw [aget_del_other _ hb]
    split
    · rfl
    · rename_i h
      have : g ∉ b :: tl := fun hu => by rcases List.mem_cons.1 hu with e | e <;> contradiction
      have := mt (I.mem g).2 this
      simpa using this

theorem nx_fold : ∀ (hl : HL) (s : NS), (∀ x ∈ hl, x.2.2 = false) → s.ok = true → s.l0 = 0 →
    (hl.foldl (nxStep []) s).ok = true ∧ (hl.foldl (nxStep []) s).l1 ≤ s.l1 ∧ (∀ x ∈ hl, (hl.foldl (nxStep []) s).l1 ≤ x.2.1) ∧
    (((hl.foldl (nxStep []) s).best = s.best ∧ (hl.foldl (nxStep []) s).l1 = s.l1) ∨ ∃ x ∈ hl, (hl.foldl (nxStep []) s).best = x.1 ∧ (hl.foldl (nxStep []) s).l1 = x.2.1)
  | [], s, _, h1, _ => ⟨h1, Int.le_refl _, fun _ h => (by cases h), .inl ⟨rfl, rfl⟩⟩
  | x :: r, s, hc, h1, h2 => by
    rw [List.foldl_cons]
    have hx := hc x List.mem_cons_self
    by_cases hlt : x.2.1 < s.l1
    · have e : nxStep [] s x = ⟨x.1, true, 0, x.2.1⟩ := by
        unfold nxStep
        rw [if_pos ⟨hx, .inr (.inr ⟨by simp [aget, h2], hlt⟩)⟩]
        simp [aget]
      rw [e]
      obtain ⟨a, b, c, d⟩ := nx_fold r ⟨x.1, true, 0, x.2.1⟩ (fun y hy => hc y (List.mem_cons_of_mem _ hy)) rfl rfl
      refine ⟨a, ?_, ?_, ?_⟩
      · simp only at b; omega
      · intro y hy
        rcases List.mem_cons.1 hy with rfl | hy
        · exact b
        · exact c y hy
      · rcases d with ⟨d1, d2⟩ | ⟨y, hy, d1, d2⟩
        · exact .inr ⟨x, List.mem_cons_self, d1, d2⟩
        · exact .inr ⟨y, List.mem_cons_of_mem _ hy, d1, d2⟩
    · have e : nxStep [] s x = s := by
        unfold nxStep
        refine if_neg ?_
        rintro ⟨_, h | h | ⟨_, h⟩⟩
        · rw [h1] at h; cases h
        · simp [aget, h2] at h
        · exact hlt h
      rw [e]
      obtain ⟨a, b, c, d⟩ := nx_fold r s (fun y hy => hc y (List.mem_cons_of_mem _ hy)) h1 h2
      refine ⟨a, b, ?_, ?_⟩
      · intro y hy
        rcases List.mem_cons.1 hy with rfl | hy
        · omega
        · exact c y hy
      · rcases d with d | ⟨y, hy, d1, d2⟩
        · exact .inl d
        · exact .inr ⟨y, List.mem_cons_of_mem _ hy, d1, d2⟩

/-- The one that was used longest ago goes. -/
theorem Inv.next {b : Int} {tl : List Int} (I : Inv (b :: tl) hl k) : (nx [] hl).ok = true ∧ (nx [] hl).best = b := by
  have hcl : ∀ x ∈ hl, x.2.2 = false := fun x hx => by
    obtain ⟨i, hi⟩ := List.mem_iff_getElem?.1 hx
    exact (I.ok x.1 x.2 (aget_at I.srt hi)).1
  have main : (nx [] hl).ok = true ∧ (∀ x ∈ hl, (nx [] hl).l1 ≤ x.2.1) ∧ ∃ x ∈ hl, (nx [] hl).best = x.1 ∧ (nx [] hl).l1 = x.2.1 := by
    unfold nx
    cases hl with
    | nil => have := I.length; simp at this
    | cons x r =>
      have hx := hcl x List.mem_cons_self
      have e : nxStep [] ⟨0, false, 0, 0⟩ x = ⟨x.1, true, 0, x.2.1⟩ := by
        unfold nxStep
        rw [if_pos ⟨hx, .inl rfl⟩]
        simp [aget]
      rw [List.foldl_cons, e]
      obtain ⟨a, b', c, d⟩ := nx_fold r ⟨x.1, true, 0, x.2.1⟩ (fun y hy => hcl y (List.mem_cons_of_mem _ hy)) rfl rfl
      refine ⟨a, fun y hy => ?_, ?_⟩
      · rcases List.mem_cons.1 hy with rfl | hy
        · exact b'
        · exact c y hy
      · rcases d with ⟨d1, d2⟩ | ⟨y, hy, d1, d2⟩
        · exact ⟨x, List.mem_cons_self, d1, d2⟩
        · exact ⟨y, List.mem_cons_of_mem _ hy, d1, d2⟩
  obtain ⟨h1, h2, x, hx, h3, h4⟩ := main
  refine ⟨h1, ?_⟩
  have tmx : ∀ y ∈ hl, tm hl y.1 = y.2.1 := fun y hy => by
    obtain ⟨i, hi⟩ := List.mem_iff_getElem?.1 hy
    unfold tm
    rw [aget_at I.srt hi]; rfl
  have hxu : x.1 ∈ b :: tl := (I.mem x.1).2 (by obtain ⟨i, hi⟩ := List.mem_iff_getElem?.1 hx; rw [aget_at I.srt hi]; rfl)
  have hbs := (I.mem b).1 List.mem_cons_self
  obtain ⟨y, hy, ey⟩ := List.mem_map.1 (aget_isSome.1 hbs)
  rw [h3]
  rcases List.mem_cons.1 hxu with e | e
  · exact e
  · have := (List.pairwise_cons.1 I.ord).1 x.1 e
    rw [tmx x hx, ← ey, tmx y hy] at this
    have := h2 y hy
    omega
end

end Go.Proofs.Ytokhbjllgaaogaa
