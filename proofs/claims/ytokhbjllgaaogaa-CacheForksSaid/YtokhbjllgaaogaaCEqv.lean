/- The cache's laws without the program: what the program's cache holds and what the document's holds say the same, behind each deed. No condition beside what each law asks. -/
import Derived.Test.YtokhbjllgaaogaaCRef6
namespace Go.Proofs.Ytokhbjllgaaogaa
set_option linter.unusedSimpArgs false
open Go.RowKit Go.Maps

section
variable {α : Type} {l r rest : List (Int × α)} {g f : Int} {x : Int × α} {d : α}

/-- The keys are apart. -/
def Nodk (l : List (Int × α)) : Prop := (l.map (·.1)).Nodup

theorem aget_cons : aget (x :: r) g = if x.1 = g then some x.2 else aget r g := by
  unfold aget
  rw [List.find?_cons]
  by_cases h : x.1 = g
  · simp [h]
  · have : (x.1 == g) = false := by simpa using h
    simp [this, h]
theorem aget_app : aget (l ++ r) g = (aget l g).or (aget r g) := by
  unfold aget
  rw [List.find?_append]
  cases List.find? (fun x => x.1 == g) l <;> simp
theorem Nodk.get (h : Nodk l) (hm : (g, d) ∈ l) : aget l g = some d := by
  induction l with
  | nil => cases hm
  | cons y r ih =>
    have h' := List.nodup_cons.1 (show (y.1 :: r.map (·.1)).Nodup from h)
    rw [aget_cons]
    rcases List.mem_cons.1 hm with e | hm
    · subst e; rw [if_pos rfl]
    · rw [if_neg (fun e => h'.1 (List.mem_map.2 ⟨_, hm, e.symm⟩))]
      exact ih h'.2 hm
theorem Nodk.mem (h : Nodk l) : x ∈ l ↔ aget l x.1 = some x.2 := ⟨fun hm => h.get hm, fun hg => aget_some_mem hg⟩
theorem aget_out : g ∉ l.map (·.1) ↔ aget l g = none := by
  have := aget_isSome (l := l) (x := g)
  cases h : aget l g with
  | none => simp [h] at this; simpa using this
  | some d => simp [h] at this; simpa using this
theorem Nodk.sub (h : Nodk l) (hs : rest.Sublist l) : Nodk rest := List.Nodup.sublist (hs.map _) h
theorem aget_sub (h : Nodk l) (hs : rest.Sublist l) : aget rest g = if g ∈ rest.map (·.1) then aget l g else none := by
  split
  · rename_i hm
    obtain ⟨x, hx, rfl⟩ := List.mem_map.1 hm
    rw [(h.sub hs).get (d := x.2) hx, h.get (d := x.2) (hs.subset hx)]
  · rename_i hm
    exact aget_out.1 hm
theorem Srt.nodk (h : Srt l) : Nodk l := List.pairwise_map.2 (List.Pairwise.imp (R := fun a b : Int × α => a.1 < b.1) (fun h => by omega) h)
theorem perm_of_get (h1 : Nodk l) (h2 : Nodk r) (h : ∀ g, aget l g = aget r g) : l.Perm r := by
  have n1 : l.Nodup := List.Pairwise.imp (fun h e => h (by rw [e])) (List.pairwise_map.1 h1)
  have n2 : r.Nodup := List.Pairwise.imp (fun h e => h (by rw [e])) (List.pairwise_map.1 h2)
  refine (List.perm_ext_iff_of_nodup n1 n2).2 fun x => ?_
  rw [h1.mem, h2.mem, h]
theorem Nodk.mid {l1 l2 : List (Int × α)} (h : Nodk (l1 ++ (f, d) :: l2)) : Nodk (l1 ++ l2) ∧ f ∉ (l1 ++ l2).map (·.1) := by
  unfold Nodk at *
  simp only [List.map_append, List.map_cons] at *
  have := (List.perm_middle.nodup_iff).1 h
  exact ⟨(List.nodup_cons.1 this).2, (List.nodup_cons.1 this).1⟩
theorem aget_mid {l1 l2 : List (Int × α)} (h : f ∉ l1.map (·.1)) (d' : α) : aget (l1 ++ (f, d') :: l2) g = if g = f then some d' else aget (l1 ++ l2) g := by
  rw [aget_app, aget_app, aget_cons]
  by_cases e : g = f
  · subst e
    rw [aget_out.1 h, if_pos rfl, if_pos rfl]; rfl
  · rw [if_neg (fun h => e h.symm), if_neg e]
theorem aget_snoc_k (h : f ∉ l.map (·.1)) (d' : α) : aget (l ++ [(f, d')]) g = if g = f then some d' else aget l g := by
  have := aget_mid (l2 := ([] : List (Int × α))) (g := g) h d'
  rwa [List.append_nil] at this
end

structure Eqv (n : Int) (l : List (Int × Bool)) (dh : List (Int × Int)) (hl : HL) (dl : List (Int × Int)) (k : Int) : Prop where
  ord : (l.map (·.1)).Pairwise (fun a b => tm hl a < tm hl b)
  get : ∀ f, (aget hl f).map (·.2) = aget l f
  le : ∀ f h, aget hl f = some h → h.1 ≤ k
  srt : Srt hl
  few : (l.length : Int) ≤ n
  dsrt : Srt dl
  dnod : Nodk dh
  dget : ∀ f, aget dl f = aget dh f
  dfew : dh.length ≤ 8
  dpos : ∀ x ∈ dh, 1 ≤ x.2 ∧ x.2 ≤ 100

section
variable {n k f u y : Int} {d x : Bool} {l l1 l2 rest : List (Int × Bool)} {dh dl : List (Int × Int)} {hl hl' : HL}

theorem Eqv.nil (h : 0 ≤ n) : Eqv n [] [] [] [] 0 :=
  ⟨List.Pairwise.nil, fun f => by simp [aget], fun f h hh => by simp [aget] at hh, List.Pairwise.nil, by simpa using h, List.Pairwise.nil, List.nodup_nil, fun _ => rfl, by simp, fun x hx => by cases hx⟩
theorem Eqv.nod (I : Eqv n l dh hl dl k) : Nodk l := I.ord.imp (fun h e => by subst e; exact Int.lt_irrefl _ h)
theorem Eqv.none (I : Eqv n l dh hl dl k) : aget l f = .none ↔ aget hl f = .none := by rw [← I.get]; cases aget hl f <;> simp
theorem Eqv.some (I : Eqv n l dh hl dl k) (h : aget hl f = .some (u, d)) : aget l f = .some d := by rw [← I.get, h]; rfl
theorem Eqv.time (h : aget hl f = .some (u, d)) : tm hl f = u := by unfold tm; rw [h]; rfl
theorem Eqv.back (I : Eqv n l dh hl dl k) (h : aget l f = .some d) : aget hl f = .some (tm hl f, d) := by
  have := I.get f
  rw [h] at this
  cases hh : aget hl f with
  | none => rw [hh] at this; cases this
  | some z =>
    rw [hh] at this
    simp at this
    unfold tm
    rw [hh]
    show Option.some z = Option.some (z.1, d)
    rw [← this]
theorem Eqv.perm (I : Eqv n l dh hl dl k) : l.Perm (hl.map fun z => (z.1, z.2.2)) := by
  have hk : (hl.map fun z => (z.1, z.2.2)).map (·.1) = hl.map (·.1) := by simp
  refine perm_of_get I.nod (show (_ : List Int).Nodup by rw [hk]; exact I.srt.nodk) fun g => ?_
  rw [← I.get]
  clear I
  induction hl with
  | nil => rfl
  | cons z r ih => rw [List.map_cons, aget_cons, aget_cons]; split <;> simp_all
theorem Eqv.len (I : Eqv n l dh hl dl k) : l.length = hl.length := by have := I.perm.length_eq; simpa using this
theorem Eqv.dperm (I : Eqv n l dh hl dl k) : dh.Perm dl := perm_of_get I.dnod I.dsrt.nodk fun g => (I.dget g).symm
theorem Eqv.dlen (I : Eqv n l dh hl dl k) : dh.length = dl.length := I.dperm.length_eq

/-- What stays is as it was; one is used now. -/
theorem Eqv.app (I : Eqv n l dh hl dl k) (hrs : rest.Sublist l) (hf : f ∉ rest.map (·.1)) (hs : Srt hl') (h1 : aget hl' f = .some (k + 1, d)) (h2 : ∀ g, g ≠ f → aget hl' g = if g ∈ rest.map (·.1) then aget hl g else .none) (hn : (rest.length : Int) + 1 ≤ n) :
    Eqv n (rest ++ [(f, d)]) dh hl' dl (k + 1) := by
  have htm : ∀ a, a ∈ rest.map (·.1) → tm hl' a = tm hl a := fun a ha => by
    unfold tm
    rw [h2 a (fun e => hf (e ▸ ha)), if_pos ha]
  have hkf : tm hl' f = k + 1 := by unfold tm; rw [h1]; rfl
  have hsub : (rest.map (·.1)).Sublist (l.map (·.1)) := hrs.map _
  have hle : ∀ a, a ∈ rest.map (·.1) → tm hl a ≤ k := fun a ha => by
    obtain ⟨z, hz, rfl⟩ := List.mem_map.1 ha
    have := I.back (I.nod.get (d := z.2) (hrs.subset hz))
    exact I.le z.1 (tm hl z.1, z.2) this
  refine ⟨?_, fun g => ?_, fun g h hh => ?_, hs, by simp; omega, I.dsrt, I.dnod, I.dget, I.dfew, I.dpos⟩
  · rw [List.map_append]
    refine List.pairwise_append.2 ⟨?_, by simp, fun a ha b hb => ?_⟩
    · refine List.Pairwise.imp_of_mem (fun {a b} ha hb h => ?_) (List.Pairwise.sublist hsub I.ord)
      rw [htm a ha, htm b hb]; exact h
    · simp at hb
      subst hb
      rw [htm a ha, hkf]
      have := hle a ha
      omega
  · rw [aget_snoc_k hf]
    by_cases hg : g = f
    · subst hg; rw [if_pos rfl, h1]; rfl
    · rw [if_neg hg, h2 g hg, aget_sub I.nod hrs]
      split
      · exact I.get g
      · rfl
  · by_cases hg : g = f
    · subst hg
      rw [h1] at hh
      cases hh
      exact Int.le_refl _
    · rw [h2 g hg] at hh
      split at hh
      · have := I.le g h hh
        omega
      · cases hh

theorem Eqv.sub (I : Eqv n l dh hl dl k) (hrs : rest.Sublist l) (hs : Srt hl') (h2 : ∀ g, aget hl' g = if g ∈ rest.map (·.1) then aget hl g else .none) : Eqv n rest dh hl' dl k := by
  have htm : ∀ a, a ∈ rest.map (·.1) → tm hl' a = tm hl a := fun a ha => by
    unfold tm
    rw [h2 a, if_pos ha]
  refine ⟨?_, fun g => ?_, fun g h hh => ?_, hs, by have := hrs.length_le; have := I.few; omega, I.dsrt, I.dnod, I.dget, I.dfew, I.dpos⟩
  · refine List.Pairwise.imp_of_mem (fun {a b} ha hb h => ?_) (List.Pairwise.sublist (hrs.map _) I.ord)
    rw [htm a ha, htm b hb]; exact h
  · rw [h2 g, aget_sub I.nod hrs]
    split
    · exact I.get g
    · rfl
  · rw [h2 g] at hh
    split at hh
    · exact I.le g h hh
    · cases hh

theorem Eqv.away (I : Eqv n l dh hl dl k) {g : Int} (h : g ∉ l.map (·.1)) : aget hl g = .none := I.none.1 (aget_out.1 h)

theorem mid_sub {β : Type} (l1 l2 : List β) (x : β) : (l1 ++ l2).Sublist (l1 ++ x :: l2) := List.Sublist.append_left (List.sublist_cons_self _ _) _

theorem Eqv.used (I : Eqv n l dh hl dl k) (hl1 : l = l1 ++ (f, d) :: l2) : Eqv n (l1 ++ l2 ++ [(f, d)]) dh (aput hl f (k + 1, d)) dl (k + 1) := by
  subst hl1
  have hm := I.nod.mid
  refine I.app (mid_sub _ _ _) hm.2 (I.srt.put _ _) (aget_put_same _ _ _) (fun g hg => ?_) (by have := I.few; simp at this ⊢; omega)
  rw [aget_put_other _ _ hg]
  split
  · rfl
  · rename_i h
    exact I.away (fun hm => h (by simp only [List.map_append, List.map_cons, List.mem_append, List.mem_cons] at hm ⊢; rcases hm with h1 | h1 | h1 <;> first | exact .inl h1 | exact absurd h1 hg | exact .inr h1))

theorem Eqv.taken (I : Eqv n l dh hl dl k) (hg : aget hl f = .none) (hn : (l.length : Int) < n) : Eqv n (l ++ [(f, false)]) dh (aput (aput hl f (0, false)) f (k + 1, false)) dl (k + 1) := by
  refine I.app (List.Sublist.refl _) (aget_out.2 (I.none.2 hg)) ((I.srt.put _ _).put _ _) (aget_put_same _ _ _) (fun g hgf => ?_) (by omega)
  rw [aget_put_other _ _ hgf, aget_put_other _ _ hgf]
  split
  · rfl
  · rename_i h
    exact I.away h

theorem Eqv.gone {b : Int} (I : Eqv n l dh hl dl k) (hg : aget hl f = .none) (hl1 : l = l1 ++ (b, d) :: l2) : Eqv n (l1 ++ l2 ++ [(f, false)]) dh (aput (aput (adel hl b) f (0, false)) f (k + 1, false)) dl (k + 1) := by
  have hfl := aget_out.2 (I.none.2 hg)
  subst hl1
  have hm := I.nod.mid
  refine I.app (mid_sub _ _ _) (fun h => hfl (((mid_sub l1 l2 (b, d)).map _).subset h)) (((I.srt.del _).put _ _).put _ _) (aget_put_same _ _ _) (fun g hgf => ?_) (by have := I.few; simp at this ⊢; omega)
  rw [aget_put_other _ _ hgf, aget_put_other _ _ hgf]
  by_cases hb : g = b
  · subst hb
    rw [aget_del_same, if_neg hm.2]
  · rw [aget_del_other _ hb]
    split
    · rfl
    · rename_i h
      exact I.away (fun hm => h (by simp only [List.map_append, List.map_cons, List.mem_append, List.mem_cons] at hm ⊢; rcases hm with h1 | h1 | h1 <;> first | exact .inl h1 | exact absurd h1 hb | exact .inr h1))

theorem Eqv.dropped (I : Eqv n l dh hl dl k) (hl1 : l = l1 ++ (f, d) :: l2) : Eqv n (l1 ++ l2) dh (adel hl f) dl k := by
  subst hl1
  have hm := I.nod.mid
  refine I.sub (mid_sub _ _ _) (I.srt.del _) (fun g => ?_)
  by_cases hb : g = f
  · subst hb
    rw [aget_del_same, if_neg hm.2]
  · rw [aget_del_other _ hb]
    split
    · rfl
    · rename_i h
      exact I.away (fun hm => h (by simp only [List.map_append, List.map_cons, List.mem_append, List.mem_cons] at hm ⊢; rcases hm with h1 | h1 | h1 <;> first | exact .inl h1 | exact absurd h1 hb | exact .inr h1))

theorem Eqv.marked (I : Eqv n l dh hl dl k) (hl1 : l = l1 ++ (f, d) :: l2) (hg : aget hl f = .some (u, d)) : Eqv n (l1 ++ (f, x) :: l2) dh (aput hl f (u, x)) dl k := by
  subst hl1
  have hm := I.nod.mid
  have hf1 : f ∉ l1.map (·.1) := fun h => hm.2 (by rw [List.map_append]; exact List.mem_append_left _ h)
  have htm : ∀ a, tm (aput hl f (u, x)) a = tm hl a := fun a => by
    unfold tm
    by_cases e : a = f
    · subst e; rw [aget_put_same, hg]; rfl
    · rw [aget_put_other _ _ e]
  have hkeys : (l1 ++ (f, x) :: l2).map (·.1) = (l1 ++ (f, d) :: l2).map (·.1) := by simp
  refine ⟨?_, fun g => ?_, fun g h hh => ?_, I.srt.put _ _, by have := I.few; simpa using this, I.dsrt, I.dnod, I.dget, I.dfew, I.dpos⟩
  · rw [hkeys]
    exact I.ord.imp (fun h => by rw [htm, htm]; exact h)
  · rw [aget_mid hf1]
    by_cases e : g = f
    · subst e; rw [aget_put_same, if_pos rfl]; rfl
    · rw [aget_put_other _ _ e, if_neg e, I.get, aget_mid hf1, if_neg e]
  · by_cases e : g = f
    · subst e; rw [aget_put_same] at hh; cases hh; exact I.le g (u, d) hg
    · rw [aget_put_other _ _ e] at hh; exact I.le _ _ hh

theorem but_get {dh : List (Int × Int)} {g : Int} : aget (but dh f) g = if g = f then .none else aget dh g := by
  show aget (adel dh f) g = _
  by_cases e : g = f
  · subst e; rw [aget_del_same, if_pos rfl]
  · rw [aget_del_other _ e, if_neg e]
theorem but_sub : (but dh f).Sublist dh := List.filter_sublist

theorem Eqv.unhoarded (I : Eqv n l dh hl dl k) : Eqv n l (but dh f) hl (adel dl f) k :=
  ⟨I.ord, I.get, I.le, I.srt, I.few, I.dsrt.del _, I.dnod.sub but_sub, fun g => by
    rw [but_get]
    by_cases e : g = f
    · subst e; rw [aget_del_same, if_pos rfl]
    · rw [aget_del_other _ e, if_neg e, I.dget], Nat.le_trans (but_len _ _) I.dfew, fun z hz => I.dpos z (but_sub.subset hz)⟩

theorem Eqv.hoarded (I : Eqv n l dh hl dl k) (h0 : 0 < y) (h1 : y ≤ 100) (h8 : aget dh f ≠ .none ∨ dh.length < 8) : Eqv n l (but dh f ++ [(f, y)]) hl (aput dl f y) k := by
  have hfn : f ∉ (but dh f).map (·.1) := aget_out.2 (by rw [but_get, if_pos rfl])
  refine ⟨I.ord, I.get, I.le, I.srt, I.few, I.dsrt.put _ _, ?_, fun g => ?_, ?_, fun z hz => ?_⟩
  · show (_ : List Int).Nodup
    rw [List.map_append]
    refine List.nodup_append.2 ⟨I.dnod.sub but_sub, by simp, fun a ha b hb => ?_⟩
    simp at hb
    subst hb
    exact fun e => hfn (e ▸ ha)
  · rw [aget_snoc_k hfn]
    by_cases e : g = f
    · subst e; rw [aget_put_same, if_pos rfl]
    · rw [aget_put_other _ _ e, if_neg e, I.dget, but_get, if_neg e]
  · rw [List.length_append]
    rcases h8 with h | h
    · have : (but dh f).length < dh.length := by
        obtain ⟨c, hc⟩ := Option.ne_none_iff_exists'.1 h
        unfold but
        exact List.length_filter_lt_length_iff_exists.2 ⟨(f, c), aget_some_mem hc, by simp⟩
      have := I.dfew
      simp; omega
    · have := but_len dh f
      simp; omega
  · rcases List.mem_append.1 hz with hz | hz
    · exact I.dpos z (but_sub.subset hz)
    · simp at hz; subst hz; exact ⟨by omega, h1⟩
end

end Go.Proofs.Ytokhbjllgaaogaa
