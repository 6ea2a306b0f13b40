/- The law CacheDear. No condition beside that the deeds lie there. -/
import Derived.Test.YtokhbjllgaaogaaCWalks
namespace Go.Proofs.Ytokhbjllgaaogaa
set_option linter.unusedSimpArgs false
open Go.RowKit Go.Maps
attribute [local irreducible] wpQuiet wpAnyH

/-- What List gives reads as the fids. -/
theorem list_reads {w : World} {base : Nat} {v : Value} {hl : HL} (h : w.ownsRow base 27 1 v hl.length ((hl.map (·.1)).map encU)) : Reads w v (hl.map (·.1)) := by
  have := RowsAt.of_owns (S := No) h (fun _ _ h => h)
  unfold Reads
  rw [List.length_map]
  exact this

theorem nx_least {dl : List (Int × Int)} {hl : HL} (hyes : (nx dl hl).ok = true) {y u : Int} (hy : (y, (u, false)) ∈ hl) : (aget dl (nx dl hl).best).getD 0 ≤ (aget dl y).getD 0 := by
  rcases nx_p dl hl with ⟨h, _⟩ | ⟨_, _, h3, h4⟩
  · rw [h] at hyes; cases hyes
  · have := h4 _ hy rfl
    have h5 : (nx dl hl).l0 = (aget dl (nx dl hl).best).getD 0 := h3
    have h6 : dearOf dl y = (aget dl y).getD 0 := rfl
    simp only at this
    omega

set_option maxHeartbeats 16000000 in
set_option maxRecDepth 100000 in
theorem dears_ok {w : World} {R : Ending → World → Prop} {x f : Int} {v : Value} {ds : List D9} (h0 : 0 ≤ x) (h1 : x < 256) (D : Deeds9 w.heap.size w v ds) (hwf : (Lit.int .u32 f).wf = true)
    (hR : ∀ w', Fr No w w' → R (.returned (.bool true)) w') :
    Calls Try.prog 6 #[.int .u8 x, v, .int .u32 f] w R := by
  have HR := hid hR
  have HD := hid D
  have HW := hid hwf
  have HX := hid (And.intro h0 h1)
  clear hR D hwf
  go_enter Try.func6, Try.ntmps6
  go_wp2_with (first
    | (go_at_call 15; refine play_ok HX.out.1 HX.out.2 HD.out ?_; intro w1 p q hp hf; have F1 := hid hf; obtain ⟨B, t, l, dh, hl, dl, k, bh, bd, vl, vh, T, ht80, _, hSU⟩ := hp; have T1 := hid T; have SU := hid hSU; have HT80 := hid ht80; clear hf T ht80 hSU)
    | (go_at_call 13; refine live_ok ?_; intro w2 hf; have T2 := hid (T1.out.no hf); have F2 := hid (F1.out.no hf); clear hf)
    | (go_at_call 16; refine next_ok T2.out.hlen T2.out.c ?_; intro w4 hf; have T4 := hid (T2.out.no hf); have F4 := hid (F2.out.no hf); clear hf)
    | (go_at_call 18; refine fork_ok T4.out.c ?_; intro w5 pf bhf bdf cf hsf hf; have CF := hid cf; have SF := hid hsf; have T5 := hid (T4.out.no hf); have F5 := hid (F4.out.no hf); have LT4 := hid T4.out.c.lt; clear cf hsf hf T1 T2 T4 F1 F2))
  have HKT : Hid (k < 4611686018427387904) := by have := T5.out.kt; have := HT80.out; show _ < _; omega
  have H12 : Hid (hl.length ≤ 12) := T5.out.hlen
  have HE : Hid (l.length = hl.length) := T5.out.e.len
  have HWS : Hid (∀ y ∈ hl, (Lit.int .u32 y.1).wf = true) := T5.out.c.held.wf
  by_cases hf0 : f = 0
  · subst hf0
    go_wp2_with (go_at_call 12; refine put_zero ?_)
    exact HR.out _ F5.out
  obtain ⟨hz, hhz⟩ : ∃ hz, aget hl f = hz := ⟨_, rfl⟩
  cases hz with
  | some hh =>
    obtain ⟨u, d⟩ := hh
    have HG := hid hhz
    clear hhz
    go_wp2_with (go_at_call 12; refine put_has T5.out.c T5.out.k0 HKT.out H12.out hf0 HW.out HG.out ?_; intro w6 C hf; have F6 : Hid (Fr No w w6) := F5.out.trans hf (fun b hb => .inr (SU.out b hb)); clear C hf)
    exact HR.out _ F6.out
  | none =>
    have HG := hid hhz
    clear hhz
    by_cases hroom : (hl.length : Int) < x % 10 + 1
    · have HRM := hid hroom
      clear hroom
      go_wp2_with (go_at_call 12; refine put_room T5.out.c T5.out.k0 HKT.out H12.out HRM.out hf0 HW.out HG.out ?_; intro w6 C hf; have F6 : Hid (Fr No w w6) := F5.out.trans hf (fun b hb => .inr (SU.out b hb)); clear C hf)
      exact HR.out _ F6.out
    · have HFU : Hid (x % 10 + 1 ≤ (hl.length : Int)) := by show _ ≤ _; omega
      clear hroom
      rcases T5.out.e.next with ⟨hno, _, _⟩ | ⟨hyes, l1, l2, _, e1, u0, hg0⟩
      · have HNO := hid hno
        rw [hno]
        clear hno
        go_wp2_with (go_at_call 12; refine put_none T5.out.c H12.out HFU.out hf0 HW.out HG.out HNO.out ?_; intro w6 hf; have F6 := hid (F5.out.no hf); clear hf)
        exact HR.out _ F6.out
      · have HYES := hid hyes
        have HLEAST : Hid (∀ y u, (y, (u, false)) ∈ hl → (aget dl (nx dl hl).best).getD 0 ≤ (aget dl y).getD 0) := fun y u hy => nx_least hyes hy
        rw [hyes]
        obtain ⟨bb, hbb⟩ : ∃ bb, (nx dl hl).best = bb := ⟨_, rfl⟩
        have HBB := hid hbb
        rw [hbb] at hg0 HLEAST ⊢
        have HWB : Hid ((Lit.int .u32 bb).wf = true) := HWS.out _ (aget_some_mem hg0)
        have HBD : Hid (((aget hl bb).getD (0, false)).2 = false) := by rw [hg0]; rfl
        clear hyes e1 hbb hg0
        by_cases hb0 : bb = 0
        · subst hb0
          go_wp2_with (go_at_call 12; refine put_out T5.out.c T5.out.k0 HKT.out H12.out HFU.out hf0 HW.out HG.out HYES.out ?_; rw [HBB.out]; intro w6 C hf; have F6 : Hid (Fr No w w6) := F5.out.trans hf (fun b hb => .inr (SU.out b hb)); clear C hf)
          exact HR.out _ F6.out
        · have hb0' : (bb == 0) = false := by simpa using hb0
          go_wp2_with (first
            | (go_at_call 12; refine put_out T5.out.c T5.out.k0 HKT.out H12.out HFU.out hf0 HW.out HG.out HYES.out ?_; rw [HBB.out]; intro w6 C hf; have C6 := hid (CF.out.fr hf (fun b hb hc => by have h1 := SF.out b hb; have h2 := LT4.out b hc; omega)); have F6 : Hid (Fr No w w6) := F5.out.trans hf (fun b hb => .inr (SU.out b hb)); clear C hf)
            | (go_at_call 19; refine dirty_ok C6.out HWB.out ?_; rw [HBD.out]; intro w7 hf; have C7 := hid (C6.out.no hf); have F7 := hid (F6.out.no hf); clear hf)
            | (go_at_call 14; refine list_ok H12.out C7.out ?_; intro vl3 w8 ho hf; have HRD := hid (list_reads ho); have C8 := hid (C7.out.no hf); have F8 := hid (F7.out.no hf); clear hf ho C6 C7 F6 F7 F5 T5; obtain ⟨_, va, cp, rfl, hrow⟩ := id HRD.out; have HROW := hid hrow; clear hrow; rw [List.length_map]))
          have hl12 : hl.length ≤ 12 := H12.out
          go_loopw [16] (fun t16 wr => ∃ i : Nat, i ≤ hl.length ∧ t16 = .int .i64 (i : Nat) ∧ Hid (Fr No w8 wr)) (fun t16 _ => hl.length - (intOf t16).toNat)
          case atStart => exact ⟨0, Nat.zero_le _, rfl, Fr.refl _ _⟩
          case round =>
            obtain ⟨i, hi, rfl, hf⟩ := hrel
            rename World => wr
            have HF := hid hf.out
            clear hf
            by_cases hlt : i < hl.length
            · obtain ⟨⟨y, u, d⟩, hy⟩ : ∃ y, hl[i]? = some y := ⟨hl[i], List.getElem?_eq_getElem hlt⟩
              rcases HROW.out with hz | ⟨gb, off, rfl, _, hgl, hcells⟩
              · rw [List.length_map] at hz; omega
              have HGB := hid hgl
              have q3 : w8.cell? ⟨gb, off + i, none⟩ = some (.int .u32 y) := hcells i _ (by rw [List.getElem?_map, List.getElem?_map, hy]; rfl)
              have Q3 := hid q3
              have q1 : wr.cell? ⟨gb, off + i, none⟩ = some (.int .u32 y) := (HF.out.cell hgl (fun h => h)).trans q3
              have C9 := hid (C8.out.no HF.out)
              have hmem := List.mem_of_getElem? hy
              have HMEM := hid hmem
              have HWY := hid (HWS.out _ hmem)
              have HDY : Hid (((aget hl y).getD (0, false)).2 = d) := by show _ = _; rw [C9.out.held.srt.nodk.get hmem]; rfl
              clear hy hmem q3 hcells hgl
              cases d with
              | true =>
                go_wp2_with (first
                  | (go_at_call 19; refine dirty_ok C9.out HWY.out ?_; rw [HDY.out]; intro w10 hf; have HF10 := hid (HF.out.no hf); clear hf))
                go_roundw
                case rel => exact ⟨i + 1, by omega, by go_num, HF10⟩
                case measure => simp [intOf]; omega
              | false =>
                have HLE : Hid ((aget dl bb).getD 0 ≤ (aget dl y).getD 0) := HLEAST.out y u HMEM.out
                have hle : ¬ (aget dl y).getD 0 < (aget dl bb).getD 0 := by have := HLE.out; omega
                go_wp2_with (first
                  | (go_at_call 19; refine dirty_ok C9.out HWY.out ?_; rw [HDY.out]; intro w10 hf; have HF10 := hid (HF.out.no hf); have C10 := hid (C9.out.no hf); have q2 : w10.cell? ⟨gb, off + i, none⟩ = some (.int .u32 y) := (HF10.out.cell HGB.out (fun h => h)).trans Q3.out; clear hf)
                  | (go_at_call 21; refine dear_ok C10.out (by first | exact HWY.out | exact HWB.out) ?_))
                go_roundw
                case rel => exact ⟨i + 1, by omega, by go_num, HF10⟩
                case measure => simp [intOf]; omega
            · go_wp2
              exact HR.out _ (F8.out.no HF.out)

end Go.Proofs.Ytokhbjllgaaogaa
