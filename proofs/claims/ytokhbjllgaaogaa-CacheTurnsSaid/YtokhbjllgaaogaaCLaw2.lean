/- The law CacheTurns. No condition beside that the bytes lie there. -/
import Derived.Test.YtokhbjllgaaogaaCFids
namespace Go.Proofs.Ytokhbjllgaaogaa
set_option linter.unusedSimpArgs false
open Go.RowKit Go.Maps
attribute [local irreducible] wpQuiet wpAnyH

theorem bytesU : Try.prog.underlying 22 = some (.slice 5) := by kernel_rfl
theorem byteU : Try.prog.underlying 5 = some (.int .u8) := by kernel_rfl

theorem Fr.cellw {S : Nat → Prop} {w w' : World} (h : Fr S w w') {b o : Nat} (hb : b < w.heap.size) (hS : ¬ S b) : w'.cell? ⟨b, o, none⟩ = w.cell? ⟨b, o, none⟩ := by
  unfold World.cell?
  rw [h.blk b hb hS]

theorem wf_fid {f : Int} (h0 : 1 ≤ f) (h1 : f ≤ 16) : (Lit.int .u32 f).wf = true := by
  have : f = 1 ∨ f = 2 ∨ f = 3 ∨ f = 4 ∨ f = 5 ∨ f = 6 ∨ f = 7 ∨ f = 8 ∨ f = 9 ∨ f = 10 ∨ f = 11 ∨ f = 12 ∨ f = 13 ∨ f = 14 ∨ f = 15 ∨ f = 16 := by omega
  rcases this with rfl | rfl | rfl | rfl | rfl | rfl | rfl | rfl | rfl | rfl | rfl | rfl | rfl | rfl | rfl | rfl <;> decide

set_option maxHeartbeats 16000000 in
set_option maxRecDepth 100000 in
theorem turns_ok {w : World} {R : Ending → World → Prop} {x : Int} {va : Option Addr} {cap : Nat} {bs : List Int} (h0 : 0 ≤ x) (h1 : x < 256) (hb : ∀ (j : Nat) (u : Int), bs[j]? = some u → 0 ≤ u ∧ u < 256)
    (hrow : bs.length = 0 ∨ ∃ b off, va = some ⟨b, off, none⟩ ∧ b < w.heap.size ∧ ∀ (j : Nat) (u : Int), bs[j]? = some u → w.cell? ⟨b, off + j, none⟩ = some (.int .u8 u)) (hmax : bs.length < 9223372036854775808) (hR : ∀ w', Fr No w w' → R (.returned (.bool true)) w') :
    Calls Try.prog 3 #[.int .u8 x, .slice va bs.length cap] w R := by
  have HR := hid hR
  have HB := hid hb
  have HROW := hid hrow
  have HX := hid (And.intro h0 h1)
  have HM : Hid (1 ≤ x % 10 + 1 ∧ x % 10 + 1 ≤ 10) := ⟨by omega, by omega⟩
  have HMX := hid hmax
  clear hR hb hrow hmax
  go_enter Try.func3, Try.ntmps3
  go_wp2_with (go_at_call 11; refine new_ok HM.out.1 (Int.le_trans HM.out.2 (by decide)) ?_; intro w1 p bh bd c hp hh hd hf; have C1 := hid c; have F1 := hid hf; have SU : Hid (∀ b, CacheS p bh bd b → w.heap.size ≤ b) := (fun b hb => hb.elim (fun e => e ▸ hp) (fun hb => hb.elim (fun e => e ▸ hh) (fun e => e ▸ hd))); have SL := hid c.lt; clear c hp hh hd hf)
  go_loopw [6, 7] (fun t6 t7 wr => ∃ (i : Nat) (us : List Int) (hl : HL), i ≤ bs.length ∧ Hid (FR wr w1.heap.size t6 us) ∧ t7 = .int .i64 (i : Nat) ∧ Hid (CacheAt wr p (x % 10 + 1) (i : Nat) hl [] bh bd) ∧ Hid (Inv us hl (i : Nat)) ∧ Hid ((us.length : Int) ≤ x % 10 + 1) ∧ Hid (Fr No w wr) ∧ Hid (i ≤ 60 ∧ w1.heap.size ≤ wr.heap.size)) (fun _ t7 _ => bs.length - (intOf t7).toNat)
  case atStart => exact ⟨0, [], [], Nat.zero_le _, .inl ⟨rfl, rfl⟩, rfl, C1.out, Inv.nil, by show ((([] : List Int).length : Nat) : Int) ≤ _; have := HM.out.1; simp; omega, F1.out, by omega, Nat.le_refl _⟩
  case round =>
    obtain ⟨i, us, hl, hi, hfr, rfl, hc, hinv, hul, hf, hi60⟩ := hrel
    obtain ⟨ua, uc, rfl⟩ := hfr.out.shape
    rename World => wr
    have HFR := hid hfr.out
    have HC := hid hc.out
    have HI := hid hinv.out
    have HUL := hid hul.out
    have HF := hid hf.out
    have HSZ := hid hi60.out.2
    have HL12 : Hid (hl.length ≤ 12) := by show _ ≤ _; have h1 := hinv.out.length; have h2 := hul.out; have h3 := HM.out.2; omega
    have HU12 : Hid (us.length ≤ 12) := by show _ ≤ _; have h2 := hul.out; have h3 := HM.out.2; omega
    have hi61 : i ≤ 60 := hi60.out.1
    clear hfr hc hinv hul hf hi60 C1 F1
    have hmost := HMX.out
    by_cases hgo : i < bs.length ∧ i < 60
    · obtain ⟨hlt, h60⟩ := hgo
      obtain ⟨b, hbj⟩ : ∃ b, bs[i]? = some b := ⟨bs[i], List.getElem?_eq_getElem hlt⟩
      have hb01 := HB.out i b hbj
      rcases HROW.out with hz | ⟨bb, boff, rfl, hblt, hbc⟩
      · omega
      have q1 : wr.cell? ⟨bb, boff + i * 1, none⟩ = some (.int .u8 b) := by rw [Nat.mul_one]; exact (HF.out.cellw hblt (fun h => h)).trans (hbc i b hbj)
      have q2 : wr.cell? ⟨bb, boff + i, none⟩ = some (.int .u8 b) := (HF.out.cellw hblt (fun h => h)).trans (hbc i b hbj)
      have hi0 : (0 : Int) ≤ i := by omega
      have hi1 : (i : Int) < bs.length := by omega
      have hb0 := hb01.1
      have hb1 := hb01.2
      have h60i : (i : Int) < 60 := by omega
      have hb2 : 0 ≤ b % 16 := by omega
      have hb3 : b % 16 < 16 := by omega
      have hb4 : b % 16 + 1 < 4294967296 := by omega
      have hb5 : 0 ≤ b % 16 + 1 := by omega
      have hb6 : b % 16 < 256 := by omega
      clear hb01 hbc hblt hbj
      go_wp2
      obtain ⟨f, hf⟩ : ∃ f, b % 16 + 1 = f := ⟨_, rfl⟩
      rw [hf]
      have HFV : Hid (1 ≤ f ∧ f ≤ 16) := ⟨by omega, by omega⟩
      clear q1 q2 hb0 hb1 hb2 hb3 hb4 hb5 hb6 hf
      obtain ⟨N, hN⟩ : ∃ N, N = wr.heap.size := ⟨_, rfl⟩
      have HN := hid hN
      clear hN
      go_loopw [9, 10] (fun t9 t10 wq => ∃ j : Nat, j ≤ us.length ∧ Hid (FR wq N t9 ((us.take j).filter (fun a => decide (a ≠ f)))) ∧ t10 = .int .i64 (j : Nat) ∧ Hid (Fr No wr wq)) (fun _ t10 _ => us.length - (intOf t10).toNat)
      case atStart => exact ⟨0, Nat.zero_le _, .inl ⟨rfl, by simp⟩, rfl, Fr.refl _ _⟩
      case round =>
        obtain ⟨j, hj, hfr9, rfl, hq⟩ := hrel
        obtain ⟨ra, rc, rfl⟩ := hfr9.out.shape
        rename World => wq
        have HR9 := hid hfr9.out
        have HQ := hid hq.out
        clear hfr9 hq
        by_cases hju : j < us.length
        · obtain ⟨u, hu⟩ : ∃ u, us[j]? = some u := ⟨us[j], List.getElem?_eq_getElem hju⟩
          have HUJ := hid hu
          obtain ⟨g, off, ucap, e, qc⟩ := (HFR.out.no HQ.out).cell hu
          simp only [Value.slice.injEq, true_and] at e
          obtain ⟨rfl, rfl⟩ := e
          have q1 : wq.cell? ⟨g, off + j * 1, none⟩ = some (.int .u32 u) := by rw [Nat.mul_one]; exact qc
          have hj0 : (0 : Int) ≤ j := by omega
          have hj1 : (j : Int) < us.length := by omega
          have hu12 := HU12.out
          clear hu
          by_cases huf : u = f
          · subst huf
            go_wp2
            go_roundw
            case rel => exact ⟨j + 1, by omega, by show FR _ _ _ _; have := HR9.out; rw [List.take_add_one, HUJ.out]; simpa using this, by go_num, HQ.out⟩
            case measure => first | (simp [intOf]; done) | (simp [intOf]; omega)
          · have huf' : ¬ (u == f) = true := by simpa using huf
            have HL9 : Hid (((us.take j).filter (fun a => decide (a ≠ f))).length < 1000) := by
              show _ < _
              have h1 := List.length_filter_le (fun a => decide (a ≠ f)) (us.take j)
              rw [List.length_take] at h1
              omega
            have HB9 : Hid (N ≤ wq.heap.size) := by rw [HN.out]; exact HQ.out.size
            go_wp2_with (refine wpList_fpush rfl (.tmp 52) rfl 53 rfl rfl (.tmp 48) rfl u rfl (.slice ra ((us.take j).filter (fun a => decide (a ≠ f))).length rc) (fun _ => rfl) (fun _ => rfl) N _ HR9 HL9 HB9 ?_; intro v' w' k1 k2; have K1 := hid k1.out; have K2 : Hid (Fr No wr w') := HQ.out.trans k2.out (fun b hb => .inr (by rw [← HN.out]; exact hb)); clear k1 k2)
            go_roundw
            case rel => exact ⟨j + 1, by omega, by show FR _ _ _ _; have := K1.out; rw [List.take_add_one, HUJ.out]; simpa [huf] using this, by go_num, K2.out⟩
            case measure => first | (simp [intOf]; done) | (simp [intOf]; omega)
        · obtain rfl : j = us.length := by omega
          have HB9 : Hid (N ≤ wq.heap.size) := by rw [HN.out]; exact HQ.out.size
          obtain ⟨rs, hrs⟩ : ∃ rs, us.filter (fun a => decide (a ≠ f)) = rs := ⟨_, rfl⟩
          rw [List.take_length, hrs] at HR9 ⊢
          have HRR := HR9
          have HLR : Hid (rs.length < 1000) := by
            show _ < _
            have h1 := List.length_filter_le (fun a => decide (a ≠ f)) us
            have h2 := HU12.out
            rw [hrs] at h1
            omega
          have hf0 : f ≠ 0 := by have := HFV.out; omega
          have HWF := hid (wf_fid HFV.out.1 HFV.out.2)
          have HK : Hid ((0 : Int) ≤ (i : Nat) ∧ ((i : Nat) : Int) < 4611686018427387904) := ⟨by omega, by omega⟩
          have hus12 : us.length ≤ 12 := HU12.out
          have hrs12 : rs.length < 1000 := HLR.out
          by_cases hmem : f ∈ us
          · obtain ⟨u, hgu⟩ : ∃ u, aget hl f = some (u, false) := by
              obtain ⟨h, hh⟩ := Option.isSome_iff_exists.1 ((HI.out.mem f).1 hmem)
              exact ⟨h.1, by rw [hh, ← (HI.out.ok f h hh).1]⟩
            have HGU := hid hgu
            have hlt : rs.length < us.length := by
              rw [← hrs]
              exact List.length_filter_lt_length_iff_exists.2 ⟨f, hmem, by simp⟩
            have hne : ¬ ((rs.length : Int) = us.length) := by omega
            have HRS := hid hrs
            have HLT := hid hlt
            clear hgu hmem hrs hlt
            go_wp2_with (first
              | (refine wpList_fpush rfl (.tmp 74) rfl 75 rfl rfl (.tmp 73) rfl f rfl (.slice ra rs.length rc) (fun _ => rfl) (fun _ => rfl) N _ HRR HLR HB9 ?_; intro v' w5 k1 k2; have K1 := hid k1.out; have K2 : Hid (Fr No wr w5) := HQ.out.trans k2.out (fun b hb => .inr (by rw [← HN.out]; exact hb)); obtain ⟨va5, vc5, rfl⟩ := K1.out.shape; have C5 := hid (HC.out.no K2.out); clear k1 k2)
              | (go_at_call 12; have hc5 := C5.out; refine put_has hc5 HK.out.1 HK.out.2 HL12.out hf0 HWF.out HGU.out ?_; intro w6 c6 hf6; have C6 := hid c6; have HF6 := hid hf6; clear c6 hf6 hc5))
            have HE : Hid (FR w6 w1.heap.size (.slice va5 (rs ++ [f]).length vc5) (rs ++ [f])) := (K1.out.keep HF6.out (fun b hb _ hc => by have := SL.out b hc; have := HSZ.out; have := HN.out; omega)).low (by rw [HN.out]; exact HSZ.out)
            have HFW : Hid (Fr No w w6) := ((HF.out.no K2.out).trans HF6.out (fun b hb => .inr (SU.out b hb)))
            have HSW : Hid (w1.heap.size ≤ w6.heap.size) := Nat.le_trans HSZ.out (Nat.le_trans K2.out.size HF6.out.size)
            have HCW := hid C6.out
            have HIW : Hid (Inv (rs ++ [f]) (aput hl f ((i : Int) + 1, false)) ((i : Int) + 1)) := by show Inv _ _ _; rw [← HRS.out]; exact (HI.out.put (d := (0, false))).1
            have HUW : Hid (((rs ++ [f]).length : Int) ≤ x % 10 + 1) := by show _ ≤ _; have h2 := HUL.out; have h3 := HIW.out.length; have h4 := HLT.out; simp; omega
            have hcast : ((i + 1 : Nat) : Int) = (i : Int) + 1 := by omega
            go_roundw
            case rel => exact ⟨i + 1, rs ++ [f], _, by omega, by show FR _ _ _ _; have h := HE.out; simpa using h, by go_num, by rw [hcast]; exact HCW.out, by rw [hcast]; exact HIW.out, HUW, HFW, by show _ ∧ _; exact ⟨by omega, HSW.out⟩⟩
            case measure => first | (simp [intOf]; done) | (simp [intOf]; omega)
          · have hrs' : rs = us := by
              rw [← hrs]
              exact List.filter_eq_self.2 (fun a ha => by simp; exact fun e => hmem (e ▸ ha))
            have hgn : aget hl f = none := by have := mt (HI.out.mem f).2 hmem; simpa using this
            have HGN := hid hgn
            have HRS := hid hrs
            clear hgn hrs
            subst hrs'
            by_cases hroom : x % 10 < (rs.length : Int)
            · cases rs with
              | nil => exact absurd hroom (by have := HX.out; simp; omega)
              | cons b0 tl =>
                have HNX := hid HI.out.next
                have HMEM := hid hmem
                rcases HRR.out with ⟨_, h9⟩ | ⟨g9, off9, cap9, cur9, e9, hb9, hh9, hl9, hcp9, hc9⟩
                · cases h9
                simp only [Value.slice.injEq, true_and] at e9
                obtain ⟨rfl, rfl⟩ := e9
                simp only [List.length_cons] at hl9
                have hc0 : cur9[off9]? = some (.int .u32 b0) := hc9 0 b0 rfl
                have qc8 : wq.cell? ⟨g9, off9, none⟩ = some (.int .u32 b0) := cell_at hh9 hc0
                have hroom2 : x % 10 < (tl.length : Int) + 1 := by simpa using hroom
                have HNL : Hid (x % 10 + 1 ≤ (hl.length : Int)) := by show _ ≤ _; have h5 := HI.out.length; simp at h5; omega
                have HLT9 : Hid (tl.length < 1000) := by show _ < _; simp at hrs12; omega
                by_cases hrc : rc = 1
                · subst hrc
                  obtain rfl : tl = [] := List.eq_nil_of_length_eq_zero (by omega)
                  have HRT : Hid (FR wq N (.slice (some ⟨g9, off9, none⟩) 0 0) []) := .inr ⟨g9, off9, 0, cur9, rfl, hb9, hh9, Nat.le_refl _, by omega, fun j u hj => by simp at hj⟩
                  clear hmem hh9 hc9 hc0 hroom
                  go_wp2_with (first
                    | (refine wpList_fpush rfl (.tmp 74) rfl 75 rfl rfl (.tmp 73) rfl f rfl (.slice (some ⟨g9, off9, none⟩) 0 0) (fun _ => rfl) (fun _ => rfl) N [] HRT HLT9 HB9 ?_; intro v' w5 k1 k2; have K1 := hid k1.out; have K2 : Hid (Fr No wr w5) := HQ.out.trans k2.out (fun b hb => .inr (by rw [← HN.out]; exact hb)); obtain ⟨va5, vc5, rfl⟩ := K1.out.shape; have C5 := hid (HC.out.no K2.out); clear k1 k2)
                    | (go_at_call 12; have hc5 := C5.out; refine put_out hc5 HK.out.1 HK.out.2 HL12.out HNL.out hf0 HWF.out HGN.out HNX.out.1 ?_; rw [HNX.out.2]; intro w6 c6 hf6; have C6 := hid c6; have HF6 := hid hf6; clear c6 hf6 hc5))
                  have HE : Hid (FR w6 w1.heap.size (.slice va5 (([] : List Int) ++ [f]).length vc5) (([] : List Int) ++ [f])) := (K1.out.keep HF6.out (fun b hb _ hc => by have := SL.out b hc; have := HSZ.out; have := HN.out; omega)).low (by rw [HN.out]; exact HSZ.out)
                  have HFW : Hid (Fr No w w6) := ((HF.out.no K2.out).trans HF6.out (fun b hb => .inr (SU.out b hb)))
                  have HSW : Hid (w1.heap.size ≤ w6.heap.size) := Nat.le_trans HSZ.out (Nat.le_trans K2.out.size HF6.out.size)
                  have HCW := hid C6.out
                  have HIW : Hid (Inv (([] : List Int) ++ [f]) _ ((i : Int) + 1)) := HI.out.out (d := (0, false)) HMEM.out
                  have HUW : Hid (((([] : List Int) ++ [f]).length : Int) ≤ x % 10 + 1) := by show _ ≤ _; have h2 := HUL.out; have h3 := HIW.out.length; simp at h2 ⊢; omega
                  have hcast : ((i + 1 : Nat) : Int) = (i : Int) + 1 := by omega
                  go_roundw
                  case rel => exact ⟨i + 1, ([] : List Int) ++ [f], _, by omega, HE, by go_num, by rw [hcast]; exact HCW.out, by rw [hcast]; exact HIW.out, HUW, HFW, by show _ ∧ _; exact ⟨by omega, HSW.out⟩⟩
                  case measure => first | (simp [intOf]; done) | (simp [intOf]; omega)
                · have HRT : Hid (FR wq N (.slice (some ⟨g9, off9 + 1, none⟩) tl.length (rc - 1)) tl) := .inr ⟨g9, off9 + 1, rc - 1, cur9, rfl, hb9, hh9, by omega, by omega, fun j u hj => by rw [show off9 + 1 + j = off9 + (j + 1) by omega]; exact hc9 (j + 1) u (by simpa using hj)⟩
                  clear hmem hh9 hc9 hc0 hroom
                  go_wp2_with (first
                    | (refine wpList_fpush rfl (.tmp 74) rfl 75 rfl rfl (.tmp 73) rfl f rfl (.slice (some ⟨g9, off9 + 1, none⟩) tl.length (rc - 1)) (fun _ => rfl) (fun _ => rfl) N tl HRT HLT9 HB9 ?_; intro v' w5 k1 k2; have K1 := hid k1.out; have K2 : Hid (Fr No wr w5) := HQ.out.trans k2.out (fun b hb => .inr (by rw [← HN.out]; exact hb)); obtain ⟨va5, vc5, rfl⟩ := K1.out.shape; have C5 := hid (HC.out.no K2.out); clear k1 k2)
                    | (go_at_call 12; have hc5 := C5.out; refine put_out hc5 HK.out.1 HK.out.2 HL12.out HNL.out hf0 HWF.out HGN.out HNX.out.1 ?_; rw [HNX.out.2]; intro w6 c6 hf6; have C6 := hid c6; have HF6 := hid hf6; clear c6 hf6 hc5))
                  have HE : Hid (FR w6 w1.heap.size (.slice va5 (tl ++ [f]).length vc5) (tl ++ [f])) := (K1.out.keep HF6.out (fun b hb _ hc => by have := SL.out b hc; have := HSZ.out; have := HN.out; omega)).low (by rw [HN.out]; exact HSZ.out)
                  have HFW : Hid (Fr No w w6) := ((HF.out.no K2.out).trans HF6.out (fun b hb => .inr (SU.out b hb)))
                  have HSW : Hid (w1.heap.size ≤ w6.heap.size) := Nat.le_trans HSZ.out (Nat.le_trans K2.out.size HF6.out.size)
                  have HCW := hid C6.out
                  have HIW : Hid (Inv (tl ++ [f]) _ ((i : Int) + 1)) := HI.out.out (d := (0, false)) HMEM.out
                  have HUW : Hid (((tl ++ [f]).length : Int) ≤ x % 10 + 1) := by show _ ≤ _; have h2 := HUL.out; have h3 := HIW.out.length; simp at h2 ⊢; omega
                  have hcast : ((i + 1 : Nat) : Int) = (i : Int) + 1 := by omega
                  go_roundw
                  case rel => exact ⟨i + 1, tl ++ [f], _, by omega, by show FR _ _ _ _; have h := HE.out; simpa using h, by go_num, by rw [hcast]; exact HCW.out, by rw [hcast]; exact HIW.out, HUW, HFW, by show _ ∧ _; exact ⟨by omega, HSW.out⟩⟩
                  case measure => first | (simp [intOf]; done) | (simp [intOf]; omega)
            · have HRM : Hid ((hl.length : Int) < x % 10 + 1) := by show _ < _; have := HI.out.length; omega
              go_wp2_with (first
                | (refine wpList_fpush rfl (.tmp 74) rfl 75 rfl rfl (.tmp 73) rfl f rfl (.slice ra rs.length rc) (fun _ => rfl) (fun _ => rfl) N _ HRR HLR HB9 ?_; intro v' w5 k1 k2; have K1 := hid k1.out; have K2 : Hid (Fr No wr w5) := HQ.out.trans k2.out (fun b hb => .inr (by rw [← HN.out]; exact hb)); obtain ⟨va5, vc5, rfl⟩ := K1.out.shape; have C5 := hid (HC.out.no K2.out); clear k1 k2)
                | (go_at_call 12; have hc5 := C5.out; refine put_room hc5 HK.out.1 HK.out.2 HL12.out HRM.out hf0 HWF.out HGN.out ?_; intro w6 c6 hf6; have C6 := hid c6; have HF6 := hid hf6; clear c6 hf6 hc5))
              have HE : Hid (FR w6 w1.heap.size (.slice va5 (rs ++ [f]).length vc5) (rs ++ [f])) := (K1.out.keep HF6.out (fun b hb _ hc => by have := SL.out b hc; have := HSZ.out; have := HN.out; omega)).low (by rw [HN.out]; exact HSZ.out)
              have HFW : Hid (Fr No w w6) := ((HF.out.no K2.out).trans HF6.out (fun b hb => .inr (SU.out b hb)))
              have HSW : Hid (w1.heap.size ≤ w6.heap.size) := Nat.le_trans HSZ.out (Nat.le_trans K2.out.size HF6.out.size)
              have HCW := hid C6.out
              have HIW : Hid (Inv (rs ++ [f]) (aput (aput hl f (0, false)) f ((i : Int) + 1, false)) ((i : Int) + 1)) := by show Inv _ _ _; have := (HI.out.put (f := f) (d := (0, false))).2; rwa [HRS.out] at this
              have HUW : Hid (((rs ++ [f]).length : Int) ≤ x % 10 + 1) := by show _ ≤ _; have h2 := HUL.out; have h3 := HIW.out.length; simp; omega
              have hcast : ((i + 1 : Nat) : Int) = (i : Int) + 1 := by omega
              go_roundw
              case rel => exact ⟨i + 1, rs ++ [f], _, by omega, by show FR _ _ _ _; have h := HE.out; simpa using h, by go_num, by rw [hcast]; exact HCW.out, by rw [hcast]; exact HIW.out, HUW, HFW, by show _ ∧ _; exact ⟨by omega, HSW.out⟩⟩
              case measure => first | (simp [intOf]; done) | (simp [intOf]; omega)
    · have hex : (i < bs.length ∧ ¬ i < 60) ∨ ¬ i < bs.length := by omega
      clear hgo
      rcases hex with ⟨hlt, h60⟩ | hlt
      all_goals
        go_wp2_with (first
          | (go_at_call 13; refine live_ok ?_; intro w8 hf8; have C8 := hid (HC.out.no hf8); have F8 := hid (HF.out.no hf8); clear hf8)
          | (go_at_call 14; refine list_ok HL12.out C8.out ?_; intro vl w9 ho hf9; have HO := hid ho; have F9 := hid (F8.out.no hf9); clear ho hf9; obtain ⟨la, lc, rfl⟩ := owns_shape HO.out; rw [← HI.out.length]))
        exact HR.out _ F9.out

end Go.Proofs.Ytokhbjllgaaogaa
