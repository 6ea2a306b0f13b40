/- The law CacheFew. No condition beside that the deeds lie there. -/
import Derived.Test.YtokhbjllgaaogaaCOpen
namespace Go.Proofs.Ytokhbjllgaaogaa
set_option linter.unusedSimpArgs false
open Go.RowKit Go.Maps
attribute [local irreducible] wpQuiet wpAnyH

set_option maxHeartbeats 16000000 in
set_option maxRecDepth 100000 in
theorem few_ok {w : World} {R : Ending → World → Prop} {x f : Int} {v : Value} {ds : List D9} (h0 : 0 ≤ x) (h1 : x < 256) (D : Deeds9 w.heap.size w v ds) (hwf : (Lit.int .u32 f).wf = true)
    (hR : ∀ w', Fr No w w' → R (.returned (.bool true)) w') :
    Calls Try.prog 4 #[.int .u8 x, v, .int .u32 f] w R := by
  have HR := hid hR
  have HD := hid D
  have HW := hid hwf
  have HX := hid (And.intro h0 h1)
  clear hR D hwf
  go_enter Try.func4, Try.ntmps4
  go_wp2_with (first
    | (go_at_call 15; refine play_ok HX.out.1 HX.out.2 HD.out ?_; intro w1 p q hp hf; have F1 := hid hf; obtain ⟨B, t, l, dh, hl, dl, k, bh, bd, vl, vh, T, ht80, _, hSU⟩ := hp; have T1 := hid T; have SU := hid hSU; have HT80 := hid ht80; clear hf T ht80 hSU)
    | (go_at_call 13; refine live_ok ?_; intro w2 hf; have T2 := hid (T1.out.no hf); have F2 := hid (F1.out.no hf); clear hf)
    | (go_at_call 14; refine list_ok T2.out.hlen T2.out.c ?_; intro vl3 w3 ho hf; obtain ⟨la, lc, rfl⟩ := owns_shape ho; have T3 := hid (T2.out.no hf); have F3 := hid (F2.out.no hf); clear hf ho)
    | (go_at_call 16; refine next_ok T3.out.hlen T3.out.c ?_; intro w4 hf; have T4 := hid (T3.out.no hf); have F4 := hid (F3.out.no hf); clear hf)
    | (go_at_call 17; refine has_ok T4.out.c HW.out ?_; intro w5 hf; have T5 := hid (T4.out.no hf); have F5 := hid (F4.out.no hf); clear hf T1 T2 T3 T4 F1 F2 F3 F4))
  have HKT : Hid (k < 4611686018427387904) := by have := T5.out.kt; have := HT80.out; show _ < _; omega
  obtain ⟨m, hm⟩ : ∃ m, m = hl.length := ⟨_, rfl⟩
  rw [← hm]
  have HM := hid hm
  have HE : Hid (l.length = m) := by rw [hm]; exact T5.out.e.len
  have H12 : Hid (hl.length ≤ 12) := T5.out.hlen
  have hn1 : (m : Int) ≤ x % 10 + 1 := by have := T5.out.e.few; have := HE.out; omega
  clear hm
  by_cases hf0 : f = 0
  · subst hf0
    go_wp2_with (first
      | (go_at_call 12; refine put_zero ?_)
      | (go_at_call 14; refine list_ok H12.out T5.out.c ?_; intro vl3 w6 ho hf; obtain ⟨la6, lc6, rfl⟩ := owns_shape ho; have F6 := hid (F5.out.no hf); rw [← HM.out]; clear hf ho))
    exact HR.out _ F6.out
  obtain ⟨hz, hhz⟩ : ∃ hz, aget hl f = hz := ⟨_, rfl⟩
  rw [hhz]
  cases hz with
  | some hh =>
    obtain ⟨u, d⟩ := hh
    have HG := hid hhz
    have HE6 : Hid ((aput hl f (k + 1, d)).length = m) := by
      obtain ⟨l1, l2, e1, _⟩ := aget_split (T5.out.e.some hhz)
      have := (T5.out.e.used e1).len
      rw [e1] at HE
      have h2 := HE.out
      show _ = _
      simp at this h2 ⊢
      omega
    have H612 : Hid ((aput hl f (k + 1, d)).length ≤ 12) := by show _ ≤ _; rw [HE6.out]; have := H12.out; have := HM.out; omega
    have HAG : Hid ((aget (aput hl f (k + 1, d)) f).isSome = true) := by show _ = _; rw [aget_put_same]; rfl
    clear hhz
    go_wp2_with (first
      | (go_at_call 12; refine put_has T5.out.c T5.out.k0 HKT.out H12.out hf0 HW.out HG.out ?_; intro w6 C hf; have C6 := hid C; have F6 : Hid (Fr No w w6) := F5.out.trans hf (fun b hb => .inr (SU.out b hb)); clear C hf)
      | (go_at_call 14; refine list_ok H612.out C6.out ?_; intro vl3 w7 ho hf; obtain ⟨la6, lc6, rfl⟩ := owns_shape ho; have C7 := hid (C6.out.no hf); have F7 := hid (F6.out.no hf); rw [HE6.out]; clear hf ho)
      | (go_at_call 17; refine has_ok C7.out HW.out ?_; rw [HAG.out]; intro w8 hf; have F8 := hid (F7.out.no hf); clear hf))
    exact HR.out _ F8.out
  | none =>
    have HG := hid hhz
    clear hhz
    by_cases hroom : (m : Int) < x % 10 + 1
    · have hb : ((m : Int) == x % 10 + 1) = false := by simp; omega
      have HRM : Hid ((hl.length : Int) < x % 10 + 1) := by show _ < _; have := HM.out; omega
      have HE6 : Hid ((aput (aput hl f (0, false)) f (k + 1, false)).length = m + 1) := by
        have := (T5.out.e.taken HG.out (by have := HE.out; omega)).len
        have h2 := HE.out
        show _ = _
        simp at this h2 ⊢
        omega
      have H612 : Hid ((aput (aput hl f (0, false)) f (k + 1, false)).length ≤ 12) := by show _ ≤ _; rw [HE6.out]; have := HX.out; omega
      have HAG : Hid ((aget (aput (aput hl f (0, false)) f (k + 1, false)) f).isSome = true) := by show _ = _; rw [aget_put_same]; rfl
      have hn2 : ((m + 1 : Nat) : Int) ≤ x % 10 + 1 := by omega
      have hn3 : (m : Int) + 1 ≤ x % 10 + 1 := by omega
      clear hroom
      go_wp2_with (first
        | (go_at_call 12; refine put_room T5.out.c T5.out.k0 HKT.out H12.out HRM.out hf0 HW.out HG.out ?_; intro w6 C hf; have C6 := hid C; have F6 : Hid (Fr No w w6) := F5.out.trans hf (fun b hb => .inr (SU.out b hb)); clear C hf)
        | (go_at_call 14; refine list_ok H612.out C6.out ?_; intro vl3 w7 ho hf; obtain ⟨la6, lc6, rfl⟩ := owns_shape ho; have C7 := hid (C6.out.no hf); have F7 := hid (F6.out.no hf); rw [HE6.out]; clear hf ho)
        | (go_at_call 17; refine has_ok C7.out HW.out ?_; rw [HAG.out]; intro w8 hf; have F8 := hid (F7.out.no hf); clear hf))
      exact HR.out _ F8.out
    · have he : (m : Int) = x % 10 + 1 := by omega
      have hb : ((m : Int) == x % 10 + 1) = true := by simp; omega
      have HFU : Hid (x % 10 + 1 ≤ (hl.length : Int)) := by show _ ≤ _; have := HM.out; omega
      clear hroom he
      rcases T5.out.e.next with ⟨hno, _, _⟩ | ⟨hyes, l1, l2, _, e1, _⟩
      · have HNO := hid hno
        rw [hno]
        have HAG : Hid ((aget hl f).isSome = false) := by show _ = _; rw [HG.out]; rfl
        clear hno
        go_wp2_with (first
          | (go_at_call 12; refine put_none T5.out.c H12.out HFU.out hf0 HW.out HG.out HNO.out ?_; intro w6 hf; have C6 := hid (T5.out.c.no hf); have F6 := hid (F5.out.no hf); clear hf)
          | (go_at_call 14; refine list_ok H12.out C6.out ?_; intro vl3 w7 ho hf; obtain ⟨la6, lc6, rfl⟩ := owns_shape ho; have C7 := hid (C6.out.no hf); have F7 := hid (F6.out.no hf); rw [← HM.out]; clear hf ho)
          | (go_at_call 17; refine has_ok C7.out HW.out ?_; rw [HAG.out]; intro w8 hf; have F8 := hid (F7.out.no hf); clear hf))
        exact HR.out _ F8.out
      · have HYES := hid hyes
        rw [hyes]
        obtain ⟨bb, hbb⟩ : ∃ bb, (nx dl hl).best = bb := ⟨_, rfl⟩
        have HBB := hid hbb
        rw [hbb] at e1
        have HE6 : Hid ((aput (aput (adel hl bb) f (0, false)) f (k + 1, false)).length = m) := by
          have := (T5.out.e.gone HG.out e1).len
          have h2 := HE.out
          rw [e1] at h2
          show _ = _
          simp at this h2 ⊢
          omega
        have H612 : Hid ((aput (aput (adel hl bb) f (0, false)) f (k + 1, false)).length ≤ 12) := by show _ ≤ _; rw [HE6.out]; have := H12.out; have := HM.out; omega
        have HAG : Hid ((aget (aput (aput (adel hl bb) f (0, false)) f (k + 1, false)) f).isSome = true) := by show _ = _; rw [aget_put_same]; rfl
        clear hyes e1 hbb
        go_wp2_with (first
          | (go_at_call 12; refine put_out T5.out.c T5.out.k0 HKT.out H12.out HFU.out hf0 HW.out HG.out HYES.out ?_; rw [HBB.out]; intro w6 C hf; have C6 := hid C; have F6 : Hid (Fr No w w6) := F5.out.trans hf (fun b hb => .inr (SU.out b hb)); clear C hf)
          | (go_at_call 14; refine list_ok H612.out C6.out ?_; intro vl3 w7 ho hf; obtain ⟨la6, lc6, rfl⟩ := owns_shape ho; have C7 := hid (C6.out.no hf); have F7 := hid (F6.out.no hf); rw [HE6.out]; clear hf ho)
          | (go_at_call 17; refine has_ok C7.out HW.out ?_; rw [HAG.out]; intro w8 hf; have F8 := hid (F7.out.no hf); clear hf))
        exact HR.out _ F8.out

end Go.Proofs.Ytokhbjllgaaogaa
