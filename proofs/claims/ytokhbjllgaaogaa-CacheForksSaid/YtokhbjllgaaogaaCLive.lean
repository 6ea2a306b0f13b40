/- The law's helper live. No condition. -/
import Derived.Test.YtokhbjllgaaogaaCNil
namespace Go.Proofs.Ytokhbjllgaaogaa
set_option linter.unusedSimpArgs false
open Go.RowKit Go.Maps
attribute [local irreducible] wpQuiet wpAnyH

theorem one_a : aput (aput ([] : List (Int × (Int × Bool))) 5 (0, false)) 5 (0 + 1, false) = [(5, (1, false))] := by simp [aput]
theorem one_b : aput ([(5, (1, false))] : List (Int × (Int × Bool))) 5 (1, true) = [(5, (1, true))] := by simp [aput]
theorem one_c : aget ([(5, (1, true))] : List (Int × (Int × Bool))) 6 = none := by simp [aget]
theorem one_d : aget ([(5, (1, true))] : List (Int × (Int × Bool))) 5 = some (1, true) := by simp [aget]
theorem one_e : aget ([(5, (1, false))] : List (Int × (Int × Bool))) 5 = some (1, false) := by simp [aget]
theorem one_f : (nx [] [(5, (1, true))]).ok = false := by simp [nx, nxStep]
theorem one_g {w : World} {p bh bd : Nat} (c : CacheAt w p 1 (0 + 1) (aput (aput ([] : List (Int × (Int × Bool))) 5 (0, false)) 5 (0 + 1, false)) [] bh bd) : CacheAt w p 1 1 [(5, (1, false))] [] bh bd := by rw [one_a] at c; exact c
theorem one_h {w : World} {p bh bd : Nat} (c : CacheAt w p 1 1 (aput ([(5, (1, false))] : List (Int × (Int × Bool))) 5 (1, true)) [] bh bd) : CacheAt w p 1 1 [(5, (1, true))] [] bh bd := by rw [one_b] at c; exact c
theorem wf5 : (Lit.int .u32 5).wf = true := by decide
theorem wf6 : (Lit.int .u32 6).wf = true := by decide

section
variable {w : World} {p bh bd : Nat} {R : Ending → World → Prop}
theorem live_put1 (C : CacheAt w p 1 0 [] [] bh bd) (hR : ∀ w', CacheAt w' p 1 1 [(5, (1, false))] [] bh bd → Fr (CacheS p bh bd) w w' → R (.returned (.tuple #[.int .u32 0, .int .i64 0])) w') :
    Calls Try.prog 12 #[.pointer (some ⟨p, 0, none⟩), .int .u32 5] w R :=
  put_room C (by decide) (by decide) (by decide) (by decide) (by decide) wf5 (by simp [aget]) (fun w' c hf => hR w' (one_g c) hf)
theorem live_put2 (C : CacheAt w p 1 1 [(5, (1, true))] [] bh bd) (hR : ∀ w', Fr No w w' → R (.returned (.tuple #[.int .u32 0, .int .i64 4])) w') :
    Calls Try.prog 12 #[.pointer (some ⟨p, 0, none⟩), .int .u32 6] w R :=
  put_none C (by decide) (by decide) (by decide) wf6 one_c one_f hR
theorem live_mark (C : CacheAt w p 1 1 [(5, (1, false))] [] bh bd) (hR : ∀ w', CacheAt w' p 1 1 [(5, (1, true))] [] bh bd → Fr (CacheS p bh bd) w w' → R (.returned (.int .i64 0)) w') :
    Calls Try.prog 27 #[.pointer (some ⟨p, 0, none⟩), .int .u32 5, .bool true] w R :=
  mark_yes (u := 1) (d := false) C (by decide) wf5 one_e (fun w' c hf => hR w' (one_h c) hf)
end

set_option maxHeartbeats 4000000 in
set_option maxRecDepth 100000 in
theorem live_ok {w : World} {R : Ending → World → Prop} (hR : ∀ w', Fr No w w' → R (.returned (.bool true)) w') : Calls Try.prog 13 #[] w R := by
  have HR := hid hR
  clear hR
  go_enter Try.func13, Try.ntmps13
  go_wp2_with (first
    | (go_at_call 11; refine new_ok (n := 1) (by decide) (by decide) ?_; intro w1 p bh bd c hp hh hd hf; have C1 := hid c; have LO : Hid (w.heap.size ≤ p ∧ w.heap.size ≤ bh ∧ w.heap.size ≤ bd) := ⟨hp, hh, hd⟩; have F1 := hid hf; have SU : Hid (∀ b, CacheS p bh bd b → w.heap.size ≤ b) := (fun b hb => hb.elim (fun e => e ▸ hp) (fun hb => hb.elim (fun e => e ▸ hh) (fun e => e ▸ hd))); clear c hp hh hd hf)
    | (go_at_call 12; have hc := C1.out; refine live_put1 hc ?_; intro w2 c hf; have C2 := hid c; have F2 : Hid (Fr No w w2) := F1.out.trans hf (fun b hb => .inr (SU.out b hb)); clear c hf hc C1)
    | (go_at_call 27; have hc := C2.out; refine live_mark hc ?_; intro w3 c hf; have C3 := hid c; have F3 : Hid (Fr No w w3) := F2.out.trans hf (fun b hb => .inr (SU.out b hb)); clear c hf hc C2)
    | (go_at_call 12; have hc := C3.out; refine live_put2 hc ?_; intro w4 hf; have C4 := hid (C3.out.no hf); have F4 := hid (F3.out.no hf); clear hf hc C3)
    | (go_at_call 17; have hc := C4.out; refine has_yes (f := 5) (u := 1) (d := true) hc wf5 one_d ?_; intro w5 hf; have C5 := hid (C4.out.no hf); have F5 := hid (F4.out.no hf); clear hf hc C4)
    | (go_at_call 19; have hc := C5.out; refine dirty_yes (f := 5) (u := 1) (d := true) hc wf5 one_d ?_; intro w6 hf; have C6 := hid (C5.out.no hf); have F6 := hid (F5.out.no hf); clear hf hc C5)
    | (go_at_call 17; have hc := C6.out; refine has_no (f := 6) hc wf6 one_c ?_; intro w7 hf; have F7 := hid (F6.out.no hf); clear hf hc C6))
  exact HR.out _ F7.out

end Go.Proofs.Ytokhbjllgaaogaa
