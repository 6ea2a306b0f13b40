/- The law's helper same, and the law CachePlays. No condition beside that both caches lie there. -/
import Derived.Test.YtokhbjllgaaogaaCEqv3
namespace Go.Proofs.Ytokhbjllgaaogaa
set_option linter.unusedSimpArgs false
open Go.RowKit Go.Maps
attribute [local irreducible] wpQuiet wpAnyH

section
variable {B p q bh bd t : Nat} {w : World} {n k f : Int} {l : List (Int × Bool)} {dh dl : List (Int × Int)} {hl : HL} {vl vh : Value} {R : Ending → World → Prop}

theorem Eqv.nextB (I : Eqv n l dh hl dl k) : (rnx dh l).getD 0 = (nx dl hl).best ∧ (rnx dh l).isSome = (nx dl hl).ok := by
  rcases I.next with ⟨h1, h2, h3⟩ | ⟨h1, l1, l2, h3, _⟩
  · rw [h3, h1, h2]; exact ⟨rfl, rfl⟩
  · rw [h3, h1]; exact ⟨rfl, rfl⟩
theorem Eqv.hasB (I : Eqv n l dh hl dl k) (f : Int) : (aget l f).isSome = (aget hl f).isSome := by rw [← I.get]; cases aget hl f <;> rfl
theorem Eqv.dirtyB (I : Eqv n l dh hl dl k) (f : Int) : (aget l f).getD false = ((aget hl f).getD (0, false)).2 := by rw [← I.get]; cases aget hl f <;> rfl

set_option maxHeartbeats 4000000 in
set_option maxRecDepth 100000 in
theorem same_ok (T : TwoC B w p q n t l dh hl dl k bh bd vl vh) (hwf : (Lit.int .u32 f).wf = true) (hR : ∀ w', Fr No w w' → R (.returned (.bool true)) w') :
    Calls Try.prog 23 #[.pointer (some ⟨p, 0, none⟩), .pointer (some ⟨q, 0, none⟩), .int .u32 f] w R := by
  have HR := hid hR
  have HT := hid T
  have HW := hid hwf
  have HL10 : Hid (l.length < 900) := by have := T.len; show _ < _; omega
  have HL1 : Hid (l.length < 1000) := by have := T.len; show _ < _; omega
  have HD8 : Hid (dh.length ≤ 8) := T.e.dfew
  have HD1 : Hid (dh.length < 1000) := by have := T.e.dfew; show _ < _; omega
  have HDL : Hid (dl.length ≤ 12) := by have := T.e.dfew; have := T.e.dlen; show _ ≤ _; omega
  have HWB : Hid (∀ x ∈ dl.map (·.1), 0 ≤ x ∧ x < 4294967296) := fun x hx => by
    obtain ⟨y, hy, rfl⟩ := List.mem_map.1 hx
    exact wf_bounds (T.c.dear.wf y hy)
  have HNB := hid T.e.nextB
  have HHB := hid (T.e.hasB f)
  have HDB := hid (T.e.dirtyB f)
  have HDG := hid (T.e.dget f)
  have HLS := hid T.e.listed
  have HWK := hid (rwk_walked T.e HWB.out)
  clear hR T hwf
  go_enter Try.func23, Try.ntmps23
  go_wp2_with (first
    | (go_at_call 16; refine next_ok HT.out.hlen HT.out.c ?_; intro w1 hf; have F1 := hid hf; clear hf)
    | (go_at_call 43; refine rnext_ok (HT.out.no F1.out).r HL1.out HD1.out ?_; rw [HNB.out.1, HNB.out.2]; intro w2 hf; have F2 := hid (F1.out.no hf); clear hf)
    | (go_at_call 17; refine has_ok (HT.out.no F2.out).c HW.out ?_; intro w3 hf; have F3 := hid (F2.out.no hf); clear hf)
    | (go_at_call 44; refine rhas_ok (HT.out.no F3.out).r HL1.out ?_; rw [HHB.out])
    | (go_at_call 19; refine dirty_ok (HT.out.no F3.out).c HW.out ?_; intro w4 hf; have F4 := hid (F3.out.no hf); clear hf)
    | (go_at_call 45; refine rdirty_ok (HT.out.no F4.out).r HL1.out ?_; rw [HDB.out])
    | (go_at_call 21; refine dear_ok (HT.out.no F4.out).c HW.out ?_)
    | (go_at_call 46; refine rdear_ok (HT.out.no F4.out).r HD1.out ?_; rw [← HDG.out])
    | (go_at_call 14; refine list_ok HT.out.hlen (HT.out.no F4.out).c ?_; intro v5 w5 ho hf; have R5 := hid (list_reads ho); have F5 := hid (F4.out.no hf); clear ho hf)
    | (go_at_call 48; refine rlist_ok (HT.out.no F5.out).r HL10.out ?_; rw [HLS.out]; intro w6 v6 ho hf; have R6 := hid ho; have R56 := hid (R5.out.no hf); have F6 := hid (F5.out.no hf); clear ho hf R5)
    | (go_at_call 47; have r6 := R6.out; refine sameF_ok R56.out r6 (by have h1 := HT.out.hlen; rw [List.length_map]; omega) ?_; intro w7 hf; have F7 := hid (F6.out.no hf); clear hf r6 R6)
    | (go_at_call 22; refine walk_ok (HT.out.no F7.out).c HDL.out ?_; intro w8 v8 y8 hr hy hf; have F8 := hid (F7.out.no hf); have R8 := hid hr; have Y8 := hid (hy.eq HWK.out HWB.out); clear hr hy hf)
    | (go_at_call 49; refine rwalk_ok (HT.out.no F8.out).r HL10.out HD8.out ?_; rw [← Y8.out]; intro w9 v9 hr hf; have F9 := hid (F8.out.no hf); have R9 := hid hr; have R89 := hid (R8.out.no hf); clear hr hf R8)
    | (go_at_call 47; have r9 := R9.out; refine sameF_ok R89.out r9 (by rw [Y8.out]; have h1 := rwk_len l dh 100; have h2 := HD8.out; omega) ?_; intro w10 hf; have F10 := hid (F9.out.no hf); clear hf r9))
  exact HR.out _ F10.out
end

set_option maxHeartbeats 4000000 in
set_option maxRecDepth 100000 in
theorem plays_ok {w : World} {R : Ending → World → Prop} {x f : Int} {v : Value} {ds : List D9} (h0 : 0 ≤ x) (h1 : x < 256) (D : Deeds9 w.heap.size w v ds) (hwf : (Lit.int .u32 f).wf = true)
    (hR : ∀ w', Fr No w w' → R (.returned (.bool true)) w') :
    Calls Try.prog 8 #[.int .u8 x, v, .int .u32 f] w R := by
  have HR := hid hR
  have HD := hid D
  have HW := hid hwf
  have HX := hid (And.intro h0 h1)
  clear hR D hwf
  go_enter Try.func8, Try.ntmps8
  go_wp2_with (first
    | (go_at_call 15; refine play_ok HX.out.1 HX.out.2 HD.out ?_; intro w1 p q hp hf; have F1 := hid hf; obtain ⟨B, t, l, dh, hl, dl, k, bh, bd, vl, vh, T, _, _, _⟩ := hp; have T1 := hid T; clear hf T)
    | (go_at_call 13; refine live_ok ?_; intro w2 hf; have T2 := hid (T1.out.no hf); have F2 := hid (F1.out.no hf); clear hf)
    | (go_at_call 23; refine same_ok T2.out HW.out ?_; intro w3 hf; have F3 := hid (F2.out.no hf); clear hf))
  exact HR.out _ F3.out

end Go.Proofs.Ytokhbjllgaaogaa
