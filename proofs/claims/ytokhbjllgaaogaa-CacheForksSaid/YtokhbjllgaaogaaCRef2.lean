/- The reference's cache: Has, Dirty, Dear, without. No condition beside that it lies there. -/
import Derived.Test.YtokhbjllgaaogaaCRef
namespace Go.Proofs.Ytokhbjllgaaogaa
set_option linter.unusedSimpArgs false
open Go.RowKit Go.Maps
attribute [local irreducible] wpQuiet wpAnyH

theorem aget_split {α : Type} {l : List (Int × α)} {i : Int} {c : α} (h : aget l i = some c) : ∃ l1 l2, l = l1 ++ (i, c) :: l2 ∧ ∀ x ∈ l1, x.1 ≠ i := by
  induction l with
  | nil => simp [aget] at h
  | cons y r ih =>
    by_cases hy : y.1 = i
    · simp [aget, hy] at h
      exact ⟨[], r, by simp [← hy, ← h], fun x hx => by cases hx⟩
    · have hne : (y.1 == i) = false := by simpa using hy
      simp only [aget, List.find?_cons, hne] at h
      obtain ⟨l1, l2, h1, h2⟩ := ih h
      refine ⟨y :: l1, l2, by rw [h1]; rfl, fun x hx => ?_⟩
      rcases List.mem_cons.1 hx with rfl | hx
      · exact hy
      · exact h2 x hx

section
variable {B : Nat} {w w' : World} {q : Nat} {m : Int} {l l1 l2 : List (Int × Bool)} {dh d1 d2 : List (Int × Int)} {vl vh : Value} {R : Ending → World → Prop} {f y n : Int} {d : Bool}

set_option maxRecDepth 100000 in
theorem rhas_ok (C : RefC B w q m l dh vl vh) (hlen : l.length < 1000) (hR : R (.returned (.bool (aget l f).isSome)) w) :
    Calls Try.prog 44 #[.pointer (some ⟨q, 0, none⟩), .int .u32 f] w R := by
  have HR := hid hR
  have HC := hid C
  clear hR C
  cases hg : aget l f with
  | none =>
    have HG := hid (aget_none.1 hg)
    rw [hg] at HR
    clear hg
    go_enter Try.func44, Try.ntmps44
    go_wp2_with (go_at_call 66; refine rat_no HC.out hlen HG.out ?_)
    exact HR.out
  | some d =>
    obtain ⟨l1, l2, rfl, h1⟩ := aget_split hg
    have HG := hid h1
    rw [hg] at HR
    clear hg h1
    go_enter Try.func44, Try.ntmps44
    go_wp2_with (go_at_call 66; refine rat_yes HC.out hlen HG.out ?_)
    exact HR.out

set_option maxRecDepth 100000 in
theorem rdirty_ok (C : RefC B w q m l dh vl vh) (hlen : l.length < 1000) (hR : R (.returned (.bool ((aget l f).getD false))) w) :
    Calls Try.prog 45 #[.pointer (some ⟨q, 0, none⟩), .int .u32 f] w R := by
  have HR := hid hR
  have HC := hid C
  clear hR C
  cases hg : aget l f with
  | none =>
    have HG := hid (aget_none.1 hg)
    rw [hg] at HR
    clear hg
    go_enter Try.func45, Try.ntmps45
    go_wp2_with (go_at_call 66; refine rat_no HC.out hlen HG.out ?_)
    exact HR.out
  | some d =>
    obtain ⟨l1, l2, hl, h1⟩ := aget_split hg
    have HG := hid h1
    have HL := hid hl
    rw [hg] at HR
    have hx : l[l1.length]? = some (f, d) := by rw [hl, List.getElem?_append_right (Nat.le_refl _), Nat.sub_self]; rfl
    have hlt : l1.length < l.length := (List.getElem?_eq_some_iff.1 hx).1
    obtain ⟨g, cap, rfl, _, _, _, hcell⟩ := row_at HC.out.items hx
    have c1 : w.cell? ⟨q, 1, none⟩ = some (.slice (some ⟨g, 0, none⟩) l.length cap) := cell_at HC.out.head rfl
    clear hg h1 hl hx
    go_enter Try.func45, Try.ntmps45
    go_wp2_with (go_at_call 66; refine rat_yes (l1 := l1) (l2 := l2) (d := d) (by rw [← HL.out]; exact HC.out) (by rw [← HL.out]; exact hlen) HG.out ?_)
    exact HR.out

/-! ### Dear -/

set_option maxHeartbeats 1000000 in
set_option maxRecDepth 100000 in
theorem rdear_ok (C : RefC B w q m l dh vl vh) (hlen : dh.length < 1000) (hR : R (.returned (.int .i64 ((aget dh f).getD 0))) w) :
    Calls Try.prog 46 #[.pointer (some ⟨q, 0, none⟩), .int .u32 f] w R := by
  have HR := hid hR
  have HC := hid C
  obtain ⟨sa, cap, rfl⟩ := owns_shape C.dears
  have c1 : w.cell? ⟨q, 2, none⟩ = some (.slice sa dh.length cap) := cell_at C.head rfl
  clear hR C
  cases hg : aget dh f with
  | none =>
    have HF := hid (aget_none.1 hg)
    rw [hg] at HR
    clear hg
    go_enter Try.func46, Try.ntmps46
    go_wp2
    go_loop [5] (fun t => ∃ k : Nat, k ≤ dh.length ∧ t = .int .i64 k) (fun t => dh.length - (intOf t).toNat)
    case atStart => exact ⟨0, Nat.zero_le _, rfl⟩
    case round =>
      obtain ⟨k, hk, rfl⟩ := hrel
      by_cases hlt : k < dh.length
      · obtain ⟨x, hx⟩ : ∃ x, dh[k]? = some x := ⟨dh[k], List.getElem?_eq_getElem hlt⟩
        obtain ⟨g, cap', e, _, _, hcell, _⟩ := row_at HC.out.dears hx
        simp only [Value.slice.injEq, true_and] at e
        obtain ⟨rfl, rfl⟩ := e
        have hne : ¬ x.1 = f := HF.out x (List.mem_of_getElem? hx)
        clear hx
        go_wp2
        go_round
        case rel => exact ⟨k + 1, by omega, by go_num⟩
        case measure => simp [intOf]; omega
      · go_wp2
        exact HR.out
  | some z =>
    obtain ⟨d1, d2, hl, h1⟩ := aget_split hg
    have HF := hid h1
    have HL := hid hl
    rw [hg] at HR
    have h1l : d1.length < dh.length := by rw [hl]; simp
    clear hg h1 hl
    go_enter Try.func46, Try.ntmps46
    go_wp2
    go_loop [5] (fun t => ∃ k : Nat, k ≤ d1.length ∧ t = .int .i64 k) (fun t => d1.length - (intOf t).toNat)
    case atStart => exact ⟨0, Nat.zero_le _, rfl⟩
    case round =>
      obtain ⟨k, hk, rfl⟩ := hrel
      have hkl : k < dh.length := by omega
      obtain ⟨x, hx⟩ : ∃ x, dh[k]? = some x := ⟨dh[k], List.getElem?_eq_getElem hkl⟩
      obtain ⟨g, cap', e, _, _, hcell, hcell2⟩ := row_at HC.out.dears hx
      simp only [Value.slice.injEq, true_and] at e
      obtain ⟨rfl, rfl⟩ := e
      by_cases hlt : k < d1.length
      · have hne : ¬ x.1 = f := HF.out x (by rw [HL.out, List.getElem?_append_left hlt] at hx; exact List.mem_of_getElem? hx)
        clear hx
        go_wp2
        go_round
        case rel => exact ⟨k + 1, by omega, by go_num⟩
        case measure => simp [intOf]; omega
      · obtain rfl : k = d1.length := by omega
        have hxe : x = (f, z) := by
          rw [HL.out, List.getElem?_append_right (Nat.le_refl _), Nat.sub_self, List.getElem?_cons_zero] at hx
          exact (Option.some.inj hx).symm
        clear hx
        subst hxe
        go_wp2
        exact HR.out

/-! ### without -/

theorem itemT : ElemT Try.prog 82 97 2 8 := ⟨by kernel_rfl, by kernel_rfl⟩
theorem dearT : ElemT Try.prog 83 99 2 16 := ⟨by kernel_rfl, by kernel_rfl⟩
theorem itemR : (Try.prog.underlying 97).map (·.isRow) = some true := by kernel_rfl
theorem dearR : (Try.prog.underlying 99).map (·.isRow) = some true := by kernel_rfl
theorem itemI : (Try.prog.info? 97).map (·.size) = some 2 := by kernel_rfl
theorem dearI : (Try.prog.info? 99).map (·.size) = some 2 := by kernel_rfl

/-- Two cells are read at once. -/
theorem var_two {w : World} {g o : Nat} {u v : Value} {ty : TypeId} (h : w.cell? ⟨g, o, none⟩ = some u ∧ w.cell? ⟨g, o + 1, none⟩ = some v) (hr : (Try.prog.underlying ty).map (·.isRow) = some true) (hi : (Try.prog.info? ty).map (·.size) = some 2) :
    (loadVar ty ⟨g, o, none⟩).run Try.prog w = .ok (.agg #[u, v]) w := by
  cases hu : Try.prog.underlying ty with
  | none => simp [hu] at hr
  | some d =>
    simp only [hu, Option.map_some, Option.some.injEq] at hr
    have := run_loadVar_mid (P := Try.prog) w g o ty [u, v] _ (fun j x hj => by
      rcases j with _ | _ | j
      · simp at hj; subst hj; exact h.1
      · simp at hj; subst hj; exact h.2
      · simp at hj) hu hr (by rw [hi]; rfl)
    simpa using this

theorem oneB {x : Int} {b : Bool} : Hid (∀ u ∈ (Value.agg #[.int .u32 x, .bool b]).cells.toList, u.oneCell' = true) := fun u hu => by
  simp [Value.cells] at hu; rcases hu with rfl | rfl <;> rfl
theorem oneD {x b : Int} : Hid (∀ u ∈ (Value.agg #[.int .u32 x, .int .i64 b]).cells.toList, u.oneCell' = true) := fun u hu => by
  simp [Value.cells] at hu; rcases hu with rfl | rfl <;> rfl

/-- What without has put out when it has come by k. -/
def wo {α : Type} (l1 l2 : List α) (k : Nat) : List α := (l1 ++ l2).take (if k ≤ l1.length then k else k - 1)
section
variable {α : Type} {l1 l2 : List α} {x z : α} {k : Nat}
theorem wo_len : (wo l1 l2 k).length ≤ k := by unfold wo; simp; split <;> omega
theorem wo_skip : wo l1 l2 (l1.length + 1) = wo l1 l2 l1.length := by unfold wo; rw [if_neg (by omega), if_pos (Nat.le_refl _)]; rfl
theorem wo_step (h : (l1 ++ x :: l2)[k]? = some z) (hk : k ≠ l1.length) : wo l1 l2 (k + 1) = wo l1 l2 k ++ [z] := by
  unfold wo
  by_cases h1 : k < l1.length
  · rw [if_pos (by omega), if_pos (by omega)]
    rw [List.getElem?_append_left h1] at h
    have h2 : (l1 ++ l2)[k]? = some z := by rw [List.getElem?_append_left h1]; exact h
    obtain ⟨hk', rfl⟩ := List.getElem?_eq_some_iff.1 h2
    rw [List.take_succ_eq_append_getElem hk']
  · rw [if_neg (by omega), if_neg (by omega)]
    rw [List.getElem?_append_right (by omega), show k - l1.length = (k - 1 - l1.length) + 1 by omega, List.getElem?_cons_succ] at h
    have h2 : (l1 ++ l2)[k - 1]? = some z := by rw [List.getElem?_append_right (by omega)]; exact h
    obtain ⟨hk', rfl⟩ := List.getElem?_eq_some_iff.1 h2
    rw [show k + 1 - 1 = (k - 1) + 1 by omega, List.take_succ_eq_append_getElem hk']
theorem wo_end : wo l1 l2 (l1 ++ x :: l2).length = l1 ++ l2 := by
  unfold wo
  rw [if_neg (by simp), List.take_of_length_le (by simp)]
end

set_option maxHeartbeats 1000000 in
set_option maxRecDepth 100000 in
theorem rwithout_ok {x : Int × Bool} (C : RefC B w q m (l1 ++ x :: l2) dh vl vh) (hlen : (l1 ++ x :: l2).length < 1000)
    (hR : ∀ v w', w'.ownsRow w.heap.size 97 2 v (l1 ++ l2).length (cells2 encB (l1 ++ l2)) → Fr No w w' → R (.returned v) w') :
    Calls Try.prog 68 #[.pointer (some ⟨q, 0, none⟩), .int .i64 l1.length] w R := by
  have HR := hid hR
  obtain ⟨l, hl⟩ : ∃ l, l = l1 ++ x :: l2 := ⟨_, rfl⟩
  rw [← hl] at C hlen
  have HC := hid C
  have HL := hid hl
  have HT := hid itemT
  obtain ⟨sa, cap, rfl⟩ := owns_shape C.items
  have h1l : l1.length < l.length := by rw [hl]; simp
  clear hR C hl
  go_enter Try.func68, Try.ntmps68
  go_wp2
  go_loopw [5, 6] (fun t5 t6 wr => ∃ k : Nat, k ≤ l.length ∧ t6 = .int .i64 k ∧ Hid (wr.ownsRow w.heap.size 97 2 t5 (wo l1 l2 k).length (cells2 encB (wo l1 l2 k))) ∧ Hid (Fr No w wr)) (fun _ t6 _ => l.length - (intOf t6).toNat)
  case atStart => exact ⟨0, Nat.zero_le _, rfl, hid (by simpa [wo, cells2] using World.ownsRow_nil w w.heap.size 97 2), Fr.refl _ _⟩
  case round =>
    obtain ⟨k, hk, rfl, ho, hf⟩ := hrel
    have HO := hid ho.out
    have HF := hid hf.out
    clear ho hf
    have C1 := HC.out.no HF.out
    have q0 : wr.cell? ⟨q, 1, none⟩ = some (.slice sa l.length cap) := cell_at C1.head rfl
    by_cases hlt : k < l.length
    · obtain ⟨z, hz⟩ : ∃ z, l[k]? = some z := ⟨l[k], List.getElem?_eq_getElem hlt⟩
      have HZ := hid hz
      obtain ⟨g, cap', e, _, hgl, hc1, hc2⟩ := row_at C1.items hz
      simp only [Value.slice.injEq, true_and] at e
      obtain ⟨rfl, rfl⟩ := e
      have Q2 := hid (And.intro hc1 hc2)
      have HW := hid (wo_len (l1 := l1) (l2 := l2) (k := k))
      clear hz hc1 hc2 C1
      by_cases hkk : k = l1.length
      · clear HZ
        subst hkk
        go_wp2
        go_roundw
        case rel => exact ⟨l1.length + 1, by omega, by go_num, by rw [wo_skip]; exact HO, HF⟩
        case measure => simp [intOf]; omega
      · have hne : ¬ (k : Int) = (l1.length : Int) := by omega
        go_wp2_with (first
          | (refine wpList_loadVar (x := .tmp 25) rfl rfl rfl (var_two Q2.out itemR itemI) ?_)
          | (refine wpList_push _ _ 2 8 HT (by decide) (by decide) rfl _ rfl _ rfl rfl _ rfl _ rfl (show (Value.agg #[.int .u32 z.1, .bool z.2]).cells.size = 2 from rfl) oneB _ (fun _ => rfl) (fun _ => rfl) w w.heap.size (hid rfl) HF _ _ HO (by have := HW.out; simp only [maxLen]; omega) (by have := HW.out; omega) ?_; intro v' w' ho' hf' hn'; clear q0 HO HF Q2))
        go_roundw
        case rel => exact ⟨k + 1, by omega, by go_num, by rw [wo_step (x := x) (by rw [← HL.out]; exact HZ.out) hkk, List.length_append, cells2_snoc]; exact ho', hf'⟩
        case measure => simp [intOf]; omega
    · obtain rfl : k = l.length := by omega
      have HE : wo l1 l2 l.length = l1 ++ l2 := by rw [HL.out]; exact wo_end
      rw [HE] at HO
      clear HE
      go_wp2
      exact HR.out _ _ HO.out HF.out

end

end Go.Proofs.Ytokhbjllgaaogaa
