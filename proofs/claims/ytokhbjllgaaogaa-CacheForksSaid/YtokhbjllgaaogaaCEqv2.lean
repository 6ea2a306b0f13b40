/- The cache's laws without the program: the one that would go is the same on both sides. No condition beside what each law asks. -/
import Derived.Test.YtokhbjllgaaogaaCEqv
namespace Go.Proofs.Ytokhbjllgaaogaa
set_option linter.unusedSimpArgs false
open Go.RowKit Go.Maps

def NxP (dl : List (Int × Int)) (pre : HL) (s : NS) : Prop :=
  (s.ok = false ∧ s.best = 0 ∧ ∀ y ∈ pre, y.2.2 = true) ∨
  (s.ok = true ∧ (s.best, (s.l1, false)) ∈ pre ∧ s.l0 = dearOf dl s.best ∧ ∀ y ∈ pre, y.2.2 = false → s.l0 < dearOf dl y.1 ∨ (s.l0 = dearOf dl y.1 ∧ s.l1 ≤ y.2.1))

theorem NxP.step {dl : List (Int × Int)} {pre : HL} {s : NS} (h : NxP dl pre s) (x : Int × (Int × Bool)) : NxP dl (pre ++ [x]) (nxStep dl s x) := by
  obtain ⟨xf, xu, xd⟩ := x
  unfold nxStep
  show NxP dl (pre ++ [(xf, (xu, xd))]) (if xd = false ∧ (s.ok = false ∨ (dearOf dl xf < s.l0 ∨ (dearOf dl xf = s.l0 ∧ xu < s.l1))) then ⟨xf, true, dearOf dl xf, xu⟩ else s)
  have hmem : ∀ y, y ∈ pre ++ [(xf, (xu, xd))] ↔ y ∈ pre ∨ y = (xf, (xu, xd)) := fun y => by simp
  rcases h with ⟨h1, h2, h3⟩ | ⟨h1, h2, h3, h4⟩
  · by_cases hd : xd = false
    · rw [if_pos ⟨hd, .inl h1⟩]
      refine .inr ⟨rfl, (hmem _).2 (.inr (by rw [hd])), rfl, fun y hy hc => ?_⟩
      rcases (hmem y).1 hy with hy | rfl
      · rw [h3 y hy] at hc; cases hc
      · exact .inr ⟨rfl, Int.le_refl _⟩
    · rw [if_neg (fun h => hd h.1)]
      refine .inl ⟨h1, h2, fun y hy => ?_⟩
      rcases (hmem y).1 hy with hy | rfl
      · exact h3 y hy
      · simpa using hd
  · by_cases hc : xd = false ∧ (s.ok = false ∨ (dearOf dl xf < s.l0 ∨ (dearOf dl xf = s.l0 ∧ xu < s.l1)))
    · rw [if_pos hc]
      obtain ⟨hd, hl⟩ := hc
      have hl : dearOf dl xf < s.l0 ∨ (dearOf dl xf = s.l0 ∧ xu < s.l1) := by rcases hl with h | h <;> first | (rw [h1] at h; cases h) | (exact h)
      refine .inr ⟨rfl, (hmem _).2 (.inr (by rw [hd])), rfl, fun y hy hc => ?_⟩
      rcases (hmem y).1 hy with hy | rfl
      · have := h4 y hy hc
        show dearOf dl xf < _ ∨ (dearOf dl xf = _ ∧ xu ≤ _)
        omega
      · exact .inr ⟨rfl, Int.le_refl _⟩
    · rw [if_neg hc]
      refine .inr ⟨h1, (hmem _).2 (.inl h2), h3, fun y hy hcl => ?_⟩
      rcases (hmem y).1 hy with hy | rfl
      · exact h4 y hy hcl
      · have hn : ¬ (dearOf dl xf < s.l0 ∨ (dearOf dl xf = s.l0 ∧ xu < s.l1)) := fun h => hc ⟨hcl, .inr h⟩
        show s.l0 < dearOf dl xf ∨ (s.l0 = dearOf dl xf ∧ s.l1 ≤ xu)
        omega

theorem NxP.fold {dl : List (Int × Int)} : ∀ (hl pre : HL) (s : NS), NxP dl pre s → NxP dl (pre ++ hl) (hl.foldl (nxStep dl) s)
  | [], pre, s, h => by simpa using h
  | x :: r, pre, s, h => by
    have := NxP.fold r (pre ++ [x]) _ (h.step x)
    simpa using this

theorem nx_p (dl : List (Int × Int)) (hl : HL) : NxP dl hl (nx dl hl) := by
  have := NxP.fold (dl := dl) hl [] ⟨0, false, 0, 0⟩ (.inl ⟨rfl, rfl, fun y hy => by cases hy⟩)
  rw [List.nil_append] at this
  exact this

def RnP (dh : List (Int × Int)) (pre : List (Int × Bool)) (s : Option Int) : Prop :=
  (s = none ∧ ∀ y ∈ pre, y.2 = true) ∨
  ∃ b p1 p2, s = some b ∧ pre = p1 ++ (b, false) :: p2 ∧ (∀ y ∈ p1, y.2 = false → dearOf dh b < dearOf dh y.1) ∧ (∀ y ∈ p2, y.2 = false → dearOf dh b ≤ dearOf dh y.1)

theorem RnP.step {dh : List (Int × Int)} {pre : List (Int × Bool)} {s : Option Int} (h : RnP dh pre s) (x : Int × Bool) : RnP dh (pre ++ [x]) (rnStep dh s x) := by
  obtain ⟨xf, xd⟩ := x
  rcases h with ⟨rfl, h3⟩ | ⟨b, p1, p2, rfl, rfl, h3, h4⟩
  · cases xd
    · rw [rnStep_none rfl]
      exact .inr ⟨xf, pre, [], rfl, rfl, fun y hy hc => (by rw [h3 y hy] at hc; cases hc), fun y hy => (by cases hy)⟩
    · rw [rnStep_dirty rfl]
      refine .inl ⟨rfl, fun y hy => ?_⟩
      rcases List.mem_append.1 hy with hy | hy
      · exact h3 y hy
      · simp at hy; subst hy; rfl
  · have keep : (xd = false → dearOf dh b ≤ dearOf dh xf) → RnP dh (p1 ++ (b, false) :: p2 ++ [(xf, xd)]) (some b) := fun hk => by
      refine .inr ⟨b, p1, p2 ++ [(xf, xd)], rfl, by simp, h3, fun y hy hc => ?_⟩
      rcases List.mem_append.1 hy with hy | hy
      · exact h4 y hy hc
      · simp at hy; subst hy; exact hk hc
    cases xd
    · by_cases hlt : dearOf dh xf < dearOf dh b
      · rw [rnStep_lt rfl hlt]
        refine .inr ⟨xf, p1 ++ (b, false) :: p2, [], rfl, rfl, fun y hy hc => ?_, fun y hy => by cases hy⟩
        rcases List.mem_append.1 hy with hy | hy
        · have := h3 y hy hc; omega
        · rcases List.mem_cons.1 hy with rfl | hy
          · exact hlt
          · have := h4 y hy hc; omega
      · rw [rnStep_ge hlt]
        exact keep (fun _ => by omega)
    · rw [rnStep_dirty rfl]
      exact keep (fun h => by cases h)

theorem RnP.fold {dh : List (Int × Int)} : ∀ (l pre : List (Int × Bool)) (s : Option Int), RnP dh pre s → RnP dh (pre ++ l) (l.foldl (rnStep dh) s)
  | [], pre, s, h => by simpa using h
  | x :: r, pre, s, h => by
    have := RnP.fold r (pre ++ [x]) _ (h.step x)
    simpa using this

theorem rnx_p (dh : List (Int × Int)) (l : List (Int × Bool)) : RnP dh l (rnx dh l) := by
  have := RnP.fold (dh := dh) l [] none (.inl ⟨rfl, fun y hy => by cases hy⟩)
  rw [List.nil_append] at this
  exact this

section
variable {n k : Int} {l : List (Int × Bool)} {dh dl : List (Int × Int)} {hl : HL}

theorem Eqv.dear (I : Eqv n l dh hl dl k) (f : Int) : dearOf dl f = dearOf dh f := by unfold dearOf; rw [I.dget]

/-- The one that would go is the same. -/
theorem Eqv.next (I : Eqv n l dh hl dl k) : ((nx dl hl).ok = false ∧ (nx dl hl).best = 0 ∧ rnx dh l = .none) ∨ ((nx dl hl).ok = true ∧ ∃ l1 l2, rnx dh l = .some (nx dl hl).best ∧ l = l1 ++ ((nx dl hl).best, false) :: l2 ∧ ∃ u, aget hl (nx dl hl).best = .some (u, false)) := by
  rcases nx_p dl hl with ⟨h1, h2, h3⟩ | ⟨h1, h2, h3, h4⟩
  · refine .inl ⟨h1, h2, ?_⟩
    rcases rnx_p dh l with ⟨g, _⟩ | ⟨b, p1, p2, g, gl, _⟩
    · exact g
    · have hb : (b, false) ∈ l := by rw [gl]; simp
      have := I.back (I.nod.get hb)
      have := h3 _ (aget_some_mem this)
      cases this
  · refine .inr ⟨h1, ?_⟩
    have hget := I.srt.nodk.get h2
    have hlb : aget l (nx dl hl).best = .some false := I.some hget
    rcases rnx_p dh l with ⟨g, g3⟩ | ⟨b, p1, p2, g, gl, g3, g4⟩
    · have := g3 _ (aget_some_mem hlb); cases this
    · have hb : (b, false) ∈ l := by rw [gl]; simp
      have hbh := I.back (I.nod.get hb)
      have e : (nx dl hl).best = b := by
        have hlt := h4 _ (aget_some_mem hbh) rfl
        simp only [h3] at hlt
        have hm := aget_some_mem hlb
        have htm : tm hl (nx dl hl).best = (nx dl hl).l1 := Eqv.time hget
        rw [gl] at hm
        rcases List.mem_append.1 hm with hm | hm
        · have h5 := g3 _ hm rfl
          simp only at h5
          rw [I.dear, I.dear] at hlt
          omega
        · rcases List.mem_cons.1 hm with hm | hm
          · exact congrArg Prod.fst hm
          · have h5 := g4 _ hm rfl
            simp only at h5
            rw [I.dear, I.dear] at hlt
            have ho := I.ord
            rw [gl, List.map_append, List.map_cons] at ho
            have h6 := (List.pairwise_cons.1 (List.pairwise_append.1 ho).2.1).1 _ (List.mem_map.2 ⟨_, hm, rfl⟩)
            simp only at h6
            omega
      rw [e]
      exact ⟨p1, p2, g, gl, _, hbh⟩
end

end Go.Proofs.Ytokhbjllgaaogaa
