/- CacheTurns: whatever the seed and the bytes, the law answers true, and the bytes read as before. No condition. -/
import Derived.Test.YtokhbjllgaaogaaRows
import Derived.Test.YtokhbjllgaaogaaCLaw2
import Derived.ProofKit
import Derived.Deep.Slices
import Derived.ChangeSlices
namespace Go.Proofs.Ytokhbjllgaaogaa
set_option linter.unusedSimpArgs false
open Go.ChangeShapes Go.WideShapes Go.ChangeAt Go.RowKit

theorem own : ownKnob Try.prog.godebug = none := by kernel_rfl
theorem laidOut : laidOutB Try.prog = true := by kernel_rfl

theorem u8_wf {n : Int} (h : (Lit.int .u8 n).wf = true) : 0 ≤ n ∧ n < 256 := by
  simp [Lit.wf, IntKind.min, IntKind.max] at h
  have h1 := h.1
  have h2 := h.2
  simp [IntKind.signed, IntKind.bits] at h1 h2
  omega

theorem cell_plain {w : World} {a : Addr} {v : Value} (h : w.cell? a = some v) : a = ⟨a.block, a.off, none⟩ ∧ a.block < w.heap.size := by
  unfold World.cell? at h
  cases hb : w.heap[a.block]? with
  | none => simp [hb] at h
  | some o =>
    refine ⟨?_, lt_of_heap hb⟩
    cases o with
    | cells c t fr =>
      simp only [hb] at h
      obtain ⟨b, off, spot⟩ := a
      cases spot with
      | none => rfl
      | some s => simp at h
    | _ => simp [hb] at h

theorem byteC : Try.prog.cellsOf 5 = 1 := by kernel_rfl

theorem bytes_of {H : Type} {enc : TypeId × Value → H} {W : World} {base : Nat} {spare : Nat → Bool} {held : Bool} {fuel : Nat} {va : Option Addr} {len cap : Nat} {x : DataW H × List MemPlace} (h : DataW.trod enc Try.prog W base spare held fuel 22 [.slice va len cap] = some x) :
    ∃ bs : List Int, bs.length = len ∧ (∀ (j : Nat) (u : Int), bs[j]? = some u → 0 ≤ u ∧ u < 256) ∧ (bs.length = 0 ∨ ∃ b off, va = some ⟨b, off, none⟩ ∧ b < W.heap.size ∧ ∀ (j : Nat) (u : Int), bs[j]? = some u → W.cell? ⟨b, off + j, none⟩ = some (.int .u8 u)) ∧ bs.length < 9223372036854775808 := by
  rcases ChangeShapes.open_ints bytesU byteU byteC h with ⟨hv, _⟩ | ⟨a, len', cap', zs, hv, _, hl, hm, hz, _, hc, hw⟩
  · simp only [List.cons.injEq, and_true, Value.slice.injEq] at hv
    obtain ⟨rfl, rfl, rfl⟩ := hv
    exact ⟨[], rfl, (fun j u hj => by simp at hj), .inl rfl, by simp⟩
  · simp only [List.cons.injEq, and_true, Value.slice.injEq] at hv
    obtain ⟨rfl, rfl, rfl⟩ := hv
    have hle : len ≤ zs.length := by rw [hz]; split <;> omega
    have hlen : (zs.take len).length = len := by simp; omega
    refine ⟨zs.take len, hlen, fun j u hj => u8_wf (hw u (List.mem_of_mem_take (List.mem_of_getElem? hj))), ?_, by rw [hlen]; simp only [maxLen] at hm; omega⟩
    by_cases h0 : len = 0
    · exact .inl (by rw [hlen]; exact h0)
    · have h1 := cell_plain (by have := hc 0 (by omega); simpa [Addr.add] using this)
      refine .inr ⟨a.block, a.off, by rw [← h1.1], h1.2, fun j u hj => ?_⟩
      have hj1 := (List.getElem?_eq_some_iff.1 hj).1
      rw [List.length_take] at hj1
      have hj0 : j < len ∧ j < zs.length := by omega
      have := hc j (by omega)
      rw [show a.add j = ⟨a.block, a.off + j, none⟩ by rw [h1.1]; exact Addr.add_mid _ _ _] at this
      rw [this]
      rw [List.getElem?_take_of_lt hj0.1, List.getElem?_eq_getElem hj0.2] at hj
      simp only [Option.some.injEq] at hj
      subst hj
      simp [List.getD_eq_getElem?_getD, List.getElem?_eq_getElem hj0.2]

set_option maxHeartbeats 1600000 in
set_option maxRecDepth 100000 in
theorem cacheTurns_lifted (os : Os) (started : os.Started) (H : Type) (enc : TypeId × Value → H) :
    ReturnsInHanded {} Try.checked os 3 .any (Rows.cacheTurnsSpec.pre6 enc Try.prog Try.f3 Rows.cacheTurnsRow.domain false) (Rows.cacheTurnsSpec.post enc Try.prog Try.f3 false true false false) := by
  refine returnsInHanded_of_change (C := Try.checked) own started (by kernel_rfl) Try.func3
    (ChangeSpec.witness6 (enc := enc) (C := Try.checked) false ⟨#[], #[.int .u8 0, .slice none 0 0], []⟩ 8 (by kernel_rfl) (by kernel_rfl) (by kernel_rfl) (by kernel_rfl)) ?_
  intro W base args ds gs before hval0 hW hcnd _
  have hval : ∀ (j : Nat) t v, Try.f3.params[j]? = some t → args[j]? = some v → Value.okWide Try.prog W .any base t v := hval0
  have hW' := hW
  obtain ⟨p, q, hA0, hV, rfl, _, _⟩ := hW
  have hA : DataW.TrodAll enc Try.prog W 0 (fun _ => true) true Try.f3.params.toList args.toList ds p := hA0
  rw [Try.params3] at hA hval
  obtain ⟨v0, v1, d0, d1, p0, p1, rfl, rfl, rfl, h0, h1⟩ := trodAll_two hA
  obtain ⟨rfl, rfl⟩ := trodVars_none hV
  obtain ⟨x, rfl, rfl, rfl, wx⟩ := open_int byteU (hval 0 5 v0 rfl rfl) h0
  obtain ⟨a0, len, cap, rfl⟩ := okWide_slice bytesU (hval 1 22 v1 rfl rfl)
  have h1k := h1
  obtain ⟨fuel, hf⟩ := h1
  obtain ⟨bs, rfl, hbs, hrow, hmx⟩ := bytes_of (by simpa [Value.cells] using hf)
  clear hA0 hval0
  simp only [List.append_nil, List.nil_append] at hW'
  have hlt : ∀ y ∈ p1, y.block < W.heap.size := fun y hy => by simpa using hW'.lt y (by simpa using hy)
  refine (turns_ok (R := fun e W' => e = .returned (.bool true) ∧ Fr No W W') (u8_wf wx).1 (u8_wf wx).2 hbs hrow hmx (fun w' hF => ⟨rfl, hF⟩)).mono fun e W' ⟨he, hF⟩ => ?_
  subst he
  have hB : Below W.heap.size W W' := hF.below
  refine ⟨_, rfl, _, _, _, [], [] ++ p1, [], hW', trodAll_mk1 (shut_bool boolU true), trodAll_mk2 (shut_int byteU wx) (Below.trod laidOut (by kernel_rfl) (of_decide_eq_true (by kernel_rfl)) h1k hB hlt), rfl, hB.frame _, fun h => by cases h⟩

theorem cacheTurns_holds : Rows.CacheTurnsSaid :=
  OpenClaim.holds_of_wide 3 Try.f3 rfl rfl rfl rfl rfl rfl rfl ⟨rfl, rfl, rfl, rfl, rfl⟩ rfl rfl rfl rfl rfl (by kernel_rfl) Try.func3 (by kernel_rfl)
    (of_decide_eq_true (by kernel_rfl)) (by unfold Func.isWrapper; first | (rw [if_pos (by decide +kernel)]; kernel_rfl) | (rw [if_neg (by decide +kernel)]; exact ⟨rfl, rfl⟩))
    (fun os started H enc _ => cacheTurns_lifted os started H enc)

#print axioms cacheTurns_holds
end Go.Proofs.Ytokhbjllgaaogaa
