/- The law CacheForks. No condition beside that the deeds lie there. -/
import Derived.Test.YtokhbjllgaaogaaCSame
namespace Go.Proofs.Ytokhbjllgaaogaa
set_option linter.unusedSimpArgs false
open Go.RowKit Go.Maps
attribute [local irreducible] wpQuiet wpAnyH

theorem two_forked {B B' p q bh bd t pf qf bhf bdf : Nat} {w2 w3 w4 : World} {n k : Int} {l : List (Int × Bool)} {dh dl : List (Int × Int)} {hl : HL} {vl vh vl' vh' : Value} (T : TwoC B w2 p q n t l dh hl dl k bh bd vl vh) (C : CacheAt w3 pf n k hl dl bhf bdf) (hB : B' = w3.heap.size)
    (Rf : RefC B' w4 qf n l dh vl' vh') (hF : Fr No w3 w4) : TwoC B' w4 pf qf n t l dh hl dl k bhf bdf vl' vh' :=
  ⟨C.no hF, Rf, T.e, fun b hb => by rw [hB]; exact C.lt b hb, T.n1, T.n10, T.k0, T.kt⟩

set_option maxHeartbeats 16000000 in
set_option maxRecDepth 100000 in
theorem forks_ok {w : World} {R : Ending → World → Prop} {f : Int} {v v2 : Value} {ds ds2 : List D9} (D : Deeds9 w.heap.size w v ds) (D2 : Deeds9 w.heap.size w v2 ds2) (hwf : (Lit.int .u32 f).wf = true)
    (hR : ∀ w', Fr No w w' → R (.returned (.bool true)) w') :
    Calls Try.prog 9 #[v, v2, .int .u32 f] w R := by
  have HR := hid hR
  have HD := hid D
  have HD2 := hid D2
  have HW := hid hwf
  obtain ⟨_, da, dc, rfl, _⟩ := id D2.row
  clear hR D D2 hwf
  go_enter Try.func9, Try.ntmps9
  go_wp2_with (first
    | (go_at_call 15; refine play_ok (by decide) (by decide) HD.out ?_; intro w1 p q hp hf; have F1 := hid hf; obtain ⟨B, t, l, dh, hl, dl, k, bh, bd, vl, vh, T, ht80, _, _⟩ := hp; have T1 := hid T; have HT80 := hid ht80; clear hf T ht80)
    | (go_at_call 13; refine live_ok ?_; intro w2 hf; have T2 := hid (T1.out.no hf); have F2 := hid (F1.out.no hf); clear hf)
    | (go_at_call 18; refine fork_ok T2.out.c ?_; intro w3 pf bhf bdf cf hsf hf; have CF := hid cf; have SF := hid hsf; have F3 := hid hf; clear cf hsf hf)
    | (go_at_call 24; refine rfork_ok (T2.out.no F3.out).r (by have := T2.out.len; omega) T2.out.e.dfew ?_; intro w4 qf vl' vh' hr hf; have T4 := hid (two_forked T2.out CF.out rfl hr hf); have F4 := hid (F3.out.no hf); clear hr hf))
  obtain ⟨B', hB'⟩ : ∃ B', B' = w3.heap.size := ⟨_, rfl⟩
  have HB2 : Hid (w2.heap.size ≤ B') := by rw [hB']; exact F3.out.size
  rw [← hB'] at T4
  clear hB'
  go_loopw [12] (fun t12 wr => ∃ (i : Nat) (l' : List (Int × Bool)) (dh' : List (Int × Int)) (hl' : HL) (dl' : List (Int × Int)) (k' : Int) (vx vy : Value), i ≤ ds2.length ∧ t12 = .int .i64 (i : Nat) ∧ Hid (TwoC B' wr pf qf (3 % 10 + 1) (t + i) l' dh' hl' dl' k' bhf bdf vx vy ∧ i ≤ 20) ∧ Hid (Fr No w2 wr)) (fun t12 _ => ds2.length - (intOf t12).toNat)
  case atStart => exact ⟨0, _, _, _, _, _, _, _, Nat.zero_le _, rfl, ⟨T4.out, Nat.zero_le _⟩, F4.out⟩
  case round =>
    obtain ⟨i, l', dh', hl', dl', k', vx, vy, hi, rfl, ht, hf⟩ := hrel
    rename World => wr
    have HT := hid ht.out.1
    have hi20 := ht.out.2
    have HF := hid hf.out
    have HFW := hid (F2.out.no hf.out)
    have hmost := HD2.out.most
    clear ht hf T4 F4
    by_cases hgo : i < ds2.length ∧ i < 20
    · obtain ⟨hlt, h20⟩ := hgo
      obtain ⟨d, hd⟩ : ∃ d, ds2[i]? = some d := ⟨ds2[i], List.getElem?_eq_getElem hlt⟩
      have D := HD2.out.up (HFW.out.any (S := fun b => w.heap.size ≤ b))
      obtain ⟨b, off, cap, e, _, _, hrow⟩ := d9_row D hd
      simp only [Value.slice.injEq, true_and] at e
      obtain ⟨rfl, rfl⟩ := e
      have HROW := hid hrow
      have HWF := hid (D.each _ (List.mem_of_getElem? hd))
      have HTT : Hid (t + i < 1000) := by have := HT80.out; show _ < _; omega
      clear hrow D hd
      go_wp2_with (first
        | (refine wpList_loadVar (x := .tmp 43) rfl rfl rfl (run_d9 HROW) ?_)
        | (go_at_call 25; refine do_ok HT.out HTT.out HWF.out ?_; intro w5 l5 dh5 vl5 vh5 t5 hf5; have T5 := hid t5; have HF5 : Hid (Fr No w2 w5) := HF.out.trans hf5 (fun b hb => .inr (by rcases hb with hb | hb; (· exact SF.out b hb); (· exact Nat.le_trans HB2.out hb))); clear t5 hf5))
      go_roundw
      case rel => exact ⟨i + 1, _, _, _, _, _, _, _, by omega, by go_num, ⟨T5.out, by omega⟩, HF5⟩
      case measure => simp [intOf]; omega
    · have hex : (i < ds2.length ∧ ¬ i < 20) ∨ ¬ i < ds2.length := by omega
      clear hgo
      rcases hex with ⟨hlt, h20⟩ | hlt
      all_goals
        go_wp2_with (first
          | (go_at_call 23; have t2 := T2.out; refine same_ok (t2.no HF.out) HW.out ?_; intro w6 hf; have T6 := hid (HT.out.no hf); have F6 := hid (HFW.out.no hf); clear hf t2 T2)
          | (go_at_call 23; have t6 := T6.out; refine same_ok t6 HW.out ?_; intro w7 hf; have F7 := hid (F6.out.no hf); clear hf t6))
        exact HR.out _ F7.out

end Go.Proofs.Ytokhbjllgaaogaa
