/- CacheNone: whatever the deed and the number, the law answers true, and the deed reads as before. No condition. -/
import Derived.Test.YtokhbjllgaaogaaRows
import Derived.Test.YtokhbjllgaaogaaCLaw1
import Derived.ProofKit
import Derived.Deep.Slices
import Derived.Lib.SmallJoins
namespace Go.Proofs.Ytokhbjllgaaogaa
set_option linter.unusedSimpArgs false
open Go.ChangeShapes Go.WideShapes Go.ChangeAt Go.RowKit

theorem own : ownKnob Try.prog.godebug = none := by kernel_rfl
theorem laidOut : laidOutB Try.prog = true := by kernel_rfl

def fieldsOf (P : Program) (t : TypeId) : Option (Array (TypeId × Nat)) := match P.underlying t with | some (.struct fs) => some (fs.map fun f => (f.type, f.offset)) | _ => none
theorem deedF : fieldsOf Try.prog 50 = some #[(3, 0), (27, 1), (4, 2), (3, 3)] := by kernel_rfl
theorem intC : Try.prog.cellsOf 3 = 1 := by kernel_rfl
theorem fidC : Try.prog.cellsOf 27 = 1 := by kernel_rfl
theorem boolC : Try.prog.cellsOf 4 = 1 := by kernel_rfl

/-- One deed's cells. -/
theorem deed_of {H : Type} {enc : TypeId × Value → H} {W : World} {base : Nat} {spare : Nat → Bool} {held : Bool} {fuel : Nat} {cs : List Value} {x : DataW H × List MemPlace} (hl : cs.length = 4) (h : DataW.trod enc Try.prog W base spare held fuel 50 cs = some x) :
    ∃ k f y b, cs = (deed k f b y).toList := by
  have hF := deedF
  unfold fieldsOf at hF
  split at hF
  · rename_i fs hs
    simp only [Option.some.injEq] at hF
    have hsz : fs.size = 4 := by have := congrArg Array.size hF; simpa using this
    obtain ⟨f0, f1, f2, f3, rfl⟩ : ∃ f0 f1 f2 f3, fs = #[f0, f1, f2, f3] := by
      obtain ⟨l⟩ := fs
      match l, hsz with
      | [a, b, c, d], _ => exact ⟨a, b, c, d, rfl⟩
    simp at hF
    obtain ⟨⟨t0, o0⟩, ⟨t1, o1⟩, ⟨t2, o2⟩, t3, o3⟩ := hF
    obtain ⟨y0, y1, y2, y3, n, _, _, h0, h1, h2, h3⟩ := Joins.trod_struct4 hs h
    rw [t0, o0, intC] at h0
    rw [t1, o1, fidC] at h1
    rw [t2, o2, boolC] at h2
    rw [t3, o3, intC] at h3
    match cs, hl with
    | [c0, c1, c2, c3], _ =>
      simp at h0 h1 h2 h3
      obtain ⟨k, e0, _, _⟩ := DataW.trod_int intU h0
      obtain ⟨a, e1, _, _⟩ := DataW.trod_int fidU h1
      obtain ⟨b, e2, _⟩ := DataW.trod_bool boolU h2
      obtain ⟨z, e3, _, _⟩ := DataW.trod_int intU h3
      simp at e0 e1 e2 e3
      subst e0 e1 e2 e3
      exact ⟨k, a, z, b, rfl⟩
  · cases hF

set_option maxHeartbeats 1600000 in
set_option maxRecDepth 100000 in
theorem cacheNone_lifted (os : Os) (started : os.Started) (H : Type) (enc : TypeId × Value → H) :
    ReturnsInHanded {} Try.checked os 10 .any (Rows.cacheNoneSpec.pre6 enc Try.prog Try.f10 Rows.cacheNoneRow.domain false) (Rows.cacheNoneSpec.post enc Try.prog Try.f10 false true false false) := by
  refine returnsInHanded_of_change (C := Try.checked) own started (by kernel_rfl) Try.func10
    (ChangeSpec.witness6 (enc := enc) (C := Try.checked) false ⟨#[], #[.agg #[.int .i64 0, .int .u32 0, .bool false, .int .i64 0], .int .i64 0], []⟩ 8 (by kernel_rfl) (by kernel_rfl) (by kernel_rfl) (by kernel_rfl)) ?_
  intro W base args ds gs before hval0 hW hcnd _
  have hval : ∀ (j : Nat) t v, Try.f10.params[j]? = some t → args[j]? = some v → Value.okWide Try.prog W .any base t v := hval0
  have hW' := hW
  obtain ⟨p, q, hA0, hV, rfl, _, _⟩ := hW
  have hA : DataW.TrodAll enc Try.prog W 0 (fun _ => true) true Try.f10.params.toList args.toList ds p := hA0
  rw [Try.params10] at hA hval
  obtain ⟨v0, v1, d0, d1, p0, p1, rfl, rfl, rfl, h0, h1⟩ := trodAll_two hA
  obtain ⟨rfl, rfl⟩ := trodVars_none hV
  obtain ⟨i, rfl, rfl, rfl, wi⟩ := open_int intU (hval 1 3 v1 rfl rfl) h1
  have h0k := h0
  obtain ⟨cs, rfl, hcs⟩ : ∃ cs, v0 = .agg cs ∧ cs.size = 4 := by
    have hF := deedF
    unfold fieldsOf at hF
    split at hF
    · rename_i fs hs
      exact okWide_struct hs (hval 0 50 v0 rfl rfl)
    · cases hF
  obtain ⟨fuel, hf⟩ := h0
  obtain ⟨k, f, x, bb, hd⟩ := deed_of (cs := cs.toList) (by simpa using hcs) (by simpa [Value.cells] using hf)
  obtain rfl : cs = deed k f bb x := by
    have := congrArg List.toArray hd
    simpa using this
  clear hA0 hval0
  simp only [List.append_nil, List.nil_append] at hW'
  have hlt : ∀ y ∈ p0, y.block < W.heap.size := fun y hy => by simpa using hW'.lt y (by simpa using hy)
  refine (none_ok (R := fun e W' => e = .returned (.bool true) ∧ Fr No W W') (fun w' hF => ⟨rfl, hF⟩)).mono fun e W' ⟨he, hF⟩ => ?_
  subst he
  have hB : Below W.heap.size W W' := hF.below
  refine ⟨_, rfl, _, _, _, [], p0 ++ [], [], hW', trodAll_mk1 (shut_bool boolU true), trodAll_mk2 (Below.trod laidOut (by kernel_rfl) (of_decide_eq_true (by kernel_rfl)) h0k hB hlt) (shut_int intU wi), rfl, hB.frame _, fun h => by cases h⟩

theorem cacheNone_holds : Rows.CacheNoneSaid :=
  OpenClaim.holds_of_wide 10 Try.f10 rfl rfl rfl rfl rfl rfl rfl ⟨rfl, rfl, rfl, rfl, rfl⟩ rfl rfl rfl rfl rfl (by kernel_rfl) Try.func10 (by kernel_rfl)
    (of_decide_eq_true (by kernel_rfl)) (by unfold Func.isWrapper; first | (rw [if_pos (by decide +kernel)]; kernel_rfl) | (rw [if_neg (by decide +kernel)]; exact ⟨rfl, rfl⟩))
    (fun os started H enc _ => cacheNone_lifted os started H enc)

#print axioms cacheNone_holds
end Go.Proofs.Ytokhbjllgaaogaa
