/- The law DiskForks. No condition beside that the deeds lie there. -/
import Derived.Test.YtoffkaojhcnddaaLaw1
namespace Go.Proofs.Ytoffkaojhcnddaa
set_option linter.unusedSimpArgs false
open Go.RowKit Go.Maps

theorem two_forked {C : Nat} {w w1 w2 : World} {p q n bs bm cap cap' bs' : Nat} {cs cs' : Array Value} {l l2 : List (Int × Array Value)} {s s2 : Nat → Array Value} {bv : Value} (hn : 1 ≤ n) (hC : C ≤ w.heap.size) (H : DiskAt w1 p n cap cs l bs bm) (h : ∀ i, i < n → sec cs i = s i) (hp : w.heap.size ≤ p) (hs : w.heap.size ≤ bs) (hm : w.heap.size ≤ bm)
    (hr : ∀ S : Nat → Prop, S q → (∀ b, w1.heap.size ≤ b → S b → b = q) → RefAt S w2 q n cap' cs' l2 bs' bv) (h2 : ∀ i, i < n → sec cs' i = s2 i) (hq : w1.heap.size ≤ q) (hl : q < w2.heap.size) (hF : Fr No w1 w2) (hF1 : Fr No w w1) :
    Two C w2 p q n bs bm l s l2 s2 := by
  have h1 := lt_of_heap H.head
  have h2' := lt_of_heap H.secs
  have h3 := H.buf.lt
  have h4 := hF.size
  have h5 := hF1.size
  refine ⟨⟨cap, cs, H.no hF, h⟩, ⟨cap', cs', bs', _, hr (SS p bs bm q) (.inr rfl) ?_, h2⟩, ?_, fun b hb => ?_, hn⟩
  · rintro b hb ((h | h | h) | h) <;> omega
  · rintro (h | h | h) <;> omega
  · rcases hb with (h | h | h) | h <;> omega

set_option maxHeartbeats 4000000 in
set_option maxRecDepth 100000 in
theorem forks_ok {w : World} {R : Ending → World → Prop} {v v2 : Value} {ds ds2 : List Dd} (D : Deeds w.heap.size w v ds) (D2 : Deeds w.heap.size w v2 ds2) (hR : ∀ w', Fr No w w' → R (.returned (.bool true)) w') :
    Calls Try.prog 7 #[v, v2] w R := by
  have HR := hid hR
  have HD := hid D
  have HD2 := hid D2
  clear hR D D2
  obtain ⟨_, da, dc, rfl, _⟩ := id HD.out.row
  obtain ⟨_, da2, dc2, rfl, _⟩ := id HD2.out.row
  go_enter Try.func7, Try.ntmps7
  go_wp2_with (first
    | (go_at_call 9; refine play_ok (by decide) (by decide) HD.out (Nat.le_refl _) ?_; intro w1 p q n bs bm l s t1 _ hf; have T1 := hid t1; have F1 := hid hf; clear t1 hf)
    | (go_at_call 10; refine live_ok ?_; intro w2 hf; have T2 := hid (T1.out.no hf); have F2 := hid (F1.out.no hf); clear hf)
    | (go_at_call 20; obtain ⟨cap, cs, td, th⟩ := T2.out.d; have TH := hid th; refine fork_ok td T2.out.pos ?_; clear td th; intro w3 pf capf csf bsf bmf hd hz hp hs hm hf; have ND := hid hd; have NZ : Hid (∀ i, i < n → sec csf i = s i) := (fun i hi => (hz i hi).trans (TH.out i hi)); have NB : Hid (w2.heap.size ≤ pf ∧ w2.heap.size ≤ bsf ∧ w2.heap.size ≤ bmf) := ⟨hp, hs, hm⟩; have NF := hid hf; clear TH hd hz hp hs hm hf)
    | (go_at_call 21; obtain ⟨capr, csr, bsr, bvr, tr, th⟩ := (T2.out.no NF.out).r; have TH := hid th; refine rfork_ok tr ?_; clear tr th; intro w4 qf capg csg bsg bvg hr hz hq hl hf; have T4 : Hid (Two w2.heap.size w4 pf qf n bsf bmf l s l s) := two_forked T2.out.pos (Nat.le_refl _) ND.out NZ.out NB.out.1 NB.out.2.1 NB.out.2.2 hr (fun i hi => (hz i hi).trans (TH.out i hi)) hq hl hf NF.out; have F4 : Hid (Fr No w2 w4) := NF.out.no hf; clear TH hr hz hq hl hf ND NZ NB NF))
  go_loopw [10] (fun t9 wr => ∃ k l s, k ≤ ds2.length ∧ t9 = .int .i64 (k : Nat) ∧ Hid (Two w2.heap.size wr pf qf n bsf bmf l s l s) ∧ Hid (Fr No w2 wr)) (fun t9 _ => ds2.length - (intOf t9).toNat)
  case atStart => exact ⟨0, _, _, Nat.zero_le _, rfl, T4, F4⟩
  case round =>
    obtain ⟨k, l', s', hk, rfl, ht, hf⟩ := hrel
    rename World => wo
    have HT := hid ht.out
    have HF := hid hf.out
    have hmost := HD2.out.most
    clear ht hf T4 F4
    by_cases hlt : k < ds2.length
    · by_cases h20 : k < 20
      · obtain ⟨d, hd⟩ : ∃ d, ds2[k]? = some d := ⟨ds2[k], List.getElem?_eq_getElem hlt⟩
        have D := (HD2.out.up (F2.out.no HF.out)).mono (C := w2.heap.size) F2.out.size
        obtain ⟨b, off, cap, e, _, _, hrow⟩ := deeds_row D hd
        simp only [Value.slice.injEq, true_and] at e
        obtain ⟨rfl, rfl⟩ := e
        obtain ⟨x0, x1, xk, xm⟩ := D.each _ (List.mem_of_getElem? hd)
        have HROW := hid hrow
        have HXK := hid xk
        have HXM := hid xm
        have HX0 := hid x0
        have HX1 := hid x1
        clear hrow D hd xk xm x0 x1
        go_wp2_with (first
          | (refine wpList_loadVar (x := .tmp 41) rfl rfl rfl (run_deed HROW) ?_)
          | (go_at_call 22; refine do_ok HT.out HX0.out HX1.out HXK.out HXM.out ?_; intro w5 l5 s5 t5 hf5; have T5 := hid t5; have HF5 : Hid (Fr No w2 w5) := HF.out.trans hf5 (fun b hb => .inr (HT.out.lo b hb).1); clear t5 hf5))
        go_roundw
        case rel => exact ⟨k + 1, l5, s5, by omega, by go_num, T5, HF5⟩
        case measure => simp [intOf]; omega
      · go_wp2_with (first
          | (go_at_call 11; refine same_ok (T2.out.no HF.out) (fun _ _ => rfl) rfl ?_; intro w6 hf6; have HF6 := hid (HF.out.no hf6); have HT6 := hid (HT.out.no hf6); clear hf6)
          | (go_at_call 11; refine same_ok HT6.out (fun _ _ => rfl) rfl ?_; intro w7 hf7; have HF7 := hid (HF6.out.no hf7); clear hf7))
        exact HR.out _ (F2.out.no HF7.out).up
    · go_wp2_with (first
        | (go_at_call 11; refine same_ok (T2.out.no HF.out) (fun _ _ => rfl) rfl ?_; intro w6 hf6; have HF6 := hid (HF.out.no hf6); have HT6 := hid (HT.out.no hf6); clear hf6)
        | (go_at_call 11; refine same_ok HT6.out (fun _ _ => rfl) rfl ?_; intro w7 hf7; have HF7 := hid (HF6.out.no hf7); clear hf7))
      exact HR.out _ (F2.out.no HF7.out).up

end Go.Proofs.Ytoffkaojhcnddaa
