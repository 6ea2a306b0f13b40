/- DiskReads: whatever the seed, the deeds and the deed, the law answers true, and the arguments read as before. No condition. -/
import Derived.Test.YtoffkaojhcnddaaRows
import Derived.Test.YtoffkaojhcnddaaRow1
import Derived.Test.YtoffkaojhcnddaaLaw4
namespace Go.Proofs.Ytoffkaojhcnddaa
set_option linter.unusedSimpArgs false
open Go.ChangeShapes Go.WideShapes Go.ChangeAt Go.RowKit

set_option maxHeartbeats 1600000 in
set_option maxRecDepth 100000 in
theorem diskReads_lifted (os : Os) (started : os.Started) (H : Type) (enc : TypeId × Value → H) :
    ReturnsInHanded {} Try.checked os 4 .any (Rows.diskReadsSpec.pre6 enc Try.prog Try.f4 Rows.diskReadsRow.domain false) (Rows.diskReadsSpec.post enc Try.prog Try.f4 false true false false) := by
  refine returnsInHanded_of_change (C := Try.checked) own started (by kernel_rfl) Try.func4
    (ChangeSpec.witness6 (enc := enc) (C := Try.checked) false ⟨#[], #[.int .u8 0, .slice none 0 0, .agg #[.int .i64 0, .int .i64 0, .int .u8 0, .slice none 0 0]], []⟩ 8 (by kernel_rfl) (by kernel_rfl) (by kernel_rfl) (by kernel_rfl)) ?_
  intro W base args ds gs before hval0 hW hcnd _
  have hval : ∀ (j : Nat) t v, Try.f4.params[j]? = some t → args[j]? = some v → Value.okWide Try.prog W .any base t v := hval0
  have hW' := hW
  obtain ⟨p, q, hA0, hV, rfl, _, _⟩ := hW
  have hA : DataW.TrodAll enc Try.prog W 0 (fun _ => true) true Try.f4.params.toList args.toList ds p := hA0
  rw [Try.params4] at hA hval
  obtain ⟨v0, v1, v2, d0, d1, d2, p0, p1, p2, rfl, rfl, rfl, h0, h1, h2⟩ := trodAll_three hA
  obtain ⟨rfl, rfl⟩ := trodVars_none hV
  obtain ⟨x, rfl, rfl, rfl, wx⟩ := open_int byteU (hval 0 5 v0 rfl rfl) h0
  obtain ⟨a0, len, cap, rfl⟩ := okWide_slice deedsU (hval 1 22 v1 rfl rfl)
  have h1k := h1
  obtain ⟨fuel, hf⟩ := h1
  obtain ⟨dd, D⟩ := deeds_of (by simpa [Value.cells] using hf)
  have h2k := h2
  obtain ⟨cs, rfl, hcs⟩ : ∃ cs, v2 = .agg cs ∧ cs.size = 4 := by
    have hF := deedF
    unfold fieldsOf at hF
    split at hF
    · rename_i fs hs
      exact okWide_struct hs (hval 2 32 v2 rfl rfl)
    · cases hF
  obtain ⟨fuel2, hf2⟩ := h2
  obtain ⟨⟨k, a, y, ks, xs⟩, he, wy0, wy1, hr, _⟩ := deed_of (cs := cs.toList) (by simpa using hcs) (by simpa [Value.cells] using hf2)
  obtain ⟨_, ka, kc, hks, _⟩ := hr
  simp only at hks
  obtain rfl : cs = deed k a y ks := by
    have := congrArg List.toArray he
    simpa [Dd.cells] using this
  subst hks
  clear hA0 hval0
  simp only [List.append_nil, List.nil_append] at hW'
  have hlt : ∀ z ∈ p1 ++ p2, z.block < W.heap.size := fun z hz => by simpa using hW'.lt z (by simpa using hz)
  refine (reads_ok (R := fun e W' => e = .returned (.bool true) ∧ Fr No W W') (u8_wf wx).1 (u8_wf wx).2 wy0 wy1 D (fun w' hF => ⟨rfl, hF⟩)).mono fun e W' ⟨he, hF⟩ => ?_
  subst he
  have hB : Below W.heap.size W W' := hF.below
  refine ⟨_, rfl, _, _, _, [], [] ++ (p1 ++ p2), [], hW', trodAll_mk1 (shut_bool boolU true), trodAll_mk3 (shut_int byteU wx) (Below.trod laidOut (by kernel_rfl) (of_decide_eq_true (by kernel_rfl)) h1k hB (fun z hz => hlt z (List.mem_append_left _ hz))) (Below.trod laidOut (by kernel_rfl) (of_decide_eq_true (by kernel_rfl)) h2k hB (fun z hz => hlt z (List.mem_append_right _ hz))), rfl, hB.frame _, fun h => by cases h⟩

theorem diskReads_holds : Rows.DiskReadsSaid :=
  OpenClaim.holds_of_wide 4 Try.f4 rfl rfl rfl rfl rfl rfl rfl ⟨rfl, rfl, rfl, rfl, rfl⟩ rfl rfl rfl rfl rfl (by kernel_rfl) Try.func4 (by kernel_rfl)
    (of_decide_eq_true (by kernel_rfl)) (by unfold Func.isWrapper; first | (rw [if_pos (by decide +kernel)]; kernel_rfl) | (rw [if_neg (by decide +kernel)]; exact ⟨rfl, rfl⟩))
    (fun os started H enc _ => diskReads_lifted os started H enc)

#print axioms diskReads_holds
end Go.Proofs.Ytoffkaojhcnddaa
