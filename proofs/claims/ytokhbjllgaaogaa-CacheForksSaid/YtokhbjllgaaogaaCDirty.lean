/- The law CacheDirty. No condition beside that the deeds and the fids lie there. -/
import Derived.Test.YtokhbjllgaaogaaCDear
namespace Go.Proofs.Ytokhbjllgaaogaa
set_option linter.unusedSimpArgs false
open Go.RowKit Go.Maps
attribute [local irreducible] wpQuiet wpAnyH

theorem Deeds9.no {w w' : World} {v : Value} {ds : List D9} (D : Deeds9 w.heap.size w v ds) (hF : Fr No w w') : Deeds9 w'.heap.size w' v ds :=
  ⟨by
    obtain ⟨h1, a, cap, hv, hr⟩ := D.row
    refine ⟨h1, a, cap, hv, ?_⟩
    rcases hr with h0 | ⟨b, off, ha, hS, hb, hc⟩
    · exact .inl h0
    · exact .inr ⟨b, off, ha, fun h => by have := hF.size; omega, Nat.lt_of_lt_of_le hb hF.size, fun j u hj => (hF.cell hb (fun h => h)).trans (hc j u hj)⟩, D.each, D.most⟩

/-- What was dirty is dirty. -/
def Stays (hl hl' : HL) : Prop := ∀ y u, aget hl y = some (u, true) → ∃ u', aget hl' y = some (u', true)
theorem Stays.refl (hl : HL) : Stays hl hl := fun _ u h => ⟨u, h⟩
theorem Stays.put {hl hl' : HL} {f k : Int} {d : Bool} (h : Stays hl hl') (hd : ∀ u, aget hl' f = some (u, true) → d = true) : Stays hl (aput hl' f (k, d)) := fun y u hy => by
  obtain ⟨u', hu⟩ := h y u hy
  by_cases e : y = f
  · subst e
    rw [hd u' hu]
    exact ⟨k, aget_put_same _ _ _⟩
  · exact ⟨u', by rw [aget_put_other _ _ e]; exact hu⟩
theorem Stays.del {hl hl' : HL} {f : Int} (h : Stays hl hl') (hd : ∀ u, aget hl' f ≠ some (u, true)) : Stays hl (adel hl' f) := fun y u hy => by
  obtain ⟨u', hu⟩ := h y u hy
  by_cases e : y = f
  · subst e; exact absurd hu (hd u')
  · exact ⟨u', by rw [aget_del_other _ e]; exact hu⟩

set_option maxHeartbeats 16000000 in
set_option maxRecDepth 100000 in
theorem dirtys_ok {w : World} {R : Ending → World → Prop} {x : Int} {v vm : Value} {ds : List D9} {fs : List Int} (h0 : 0 ≤ x) (h1 : x < 256) (D : Deeds9 w.heap.size w v ds) (DF : FidsAt w vm fs)
    (hR : ∀ w', Fr No w w' → R (.returned (.bool true)) w') :
    Calls Try.prog 5 #[.int .u8 x, v, vm] w R := by
  have HR := hid hR
  have HD := hid D
  have HX := hid (And.intro h0 h1)
  have HFW := hid DF.2.1
  have hmost := DF.2.2
  obtain ⟨_, fa, fc, rfl, hfrow⟩ := DF.1
  have HFROW := hid hfrow
  clear hR D DF hfrow
  go_enter Try.func5, Try.ntmps5
  go_wp2_with (first
    | (go_at_call 15; refine playS_ok HX.out.1 HX.out.2 HD.out ?_; intro w1 p q hp hf; have F1 := hid hf; obtain ⟨⟨hl, dl, k⟩, hst⟩ : ∃ st, st = playS (x % 10 + 1) ds := ⟨_, rfl⟩; rw [← hst] at hp; have HST := hid hst; obtain ⟨B, t, l, dh, bh, bd, vl, vh, T, ht80, _, hSU⟩ := hp; have T1 : Hid (TwoC B w1 p q (x % 10 + 1) t l dh hl dl k bh bd vl vh) := hid T; have SU := hid hSU; have HT80 := hid ht80; clear hf T ht80 hSU hst)
    | (go_at_call 13; refine live_ok ?_; intro w2 hf; have T2 := hid (T1.out.no hf); have F2 := hid (F1.out.no hf); clear hf)
    | (go_at_call 14; refine list_ok T2.out.hlen T2.out.c ?_; intro vwas w3 ho hf; have HRD : Hid (RowsAt (CacheS p bh bd) w3 vwas hl.length 1 ((hl.map (·.1)).map encU)) := hid (RowsAt.of_owns (S := CacheS p bh bd) ho (fun b hb hS => by have := T2.out.c.lt b hS; omega)); have T3 := hid (T2.out.no hf); have F3 := hid (F2.out.no hf); clear hf ho T1 T2 F1 F2))
  obtain ⟨_, wa, wc, rfl, _⟩ := id HRD.out
  have hl12 : hl.length ≤ 12 := T3.out.hlen
  go_loopw [11] (fun t11 wr => ∃ (i : Nat) (l' : List (Int × Bool)) (hl' : HL) (k' : Int), i ≤ fs.length ∧ t11 = .int .i64 (i : Nat) ∧ Hid (CacheAt wr p (x % 10 + 1) k' hl' dl bh bd ∧ Eqv (x % 10 + 1) l' dh hl' dl k' ∧ Stays hl hl') ∧ Hid (0 ≤ k' ∧ k' ≤ 80 + i ∧ i ≤ 30) ∧ Hid (Fr (CacheS p bh bd) w3 wr)) (fun t11 _ => fs.length - (intOf t11).toNat)
  case atStart => exact ⟨0, l, hl, k, Nat.zero_le _, rfl, ⟨T3.out.c, T3.out.e, Stays.refl _⟩, ⟨T3.out.k0, by have := T3.out.kt; have := HT80.out; omega, Nat.zero_le _⟩, Fr.refl _ _⟩
  case round =>
    obtain ⟨i, l', hl', k', hi, rfl, hc, hk, hf⟩ := hrel
    rename World => wr
    have HC := hid hc.out
    have HK := hid hk.out
    have HF := hid hf.out
    have hi30 := hk.out.2.2
    clear hc hk hf
    have HKT : Hid (k' < 4611686018427387904) := by have := HK.out.2.1; have := HK.out.2.2; show _ < _; omega
    have HLN : Hid (l'.length = hl'.length) := HC.out.2.1.len
    have H12 : Hid (hl'.length ≤ 12) := by have := HC.out.2.1.few; have := HLN.out; have := HX.out; show _ ≤ _; omega
    have HFN : Hid (Fr No w wr) := F3.out.trans HF.out (fun b hb => .inr (SU.out b hb))
    by_cases hgo : i < fs.length ∧ i < 30
    · obtain ⟨hlt, h30⟩ := hgo
      obtain ⟨y, hy⟩ : ∃ y, fs[i]? = some y := ⟨fs[i], List.getElem?_eq_getElem hlt⟩
      rcases HFROW.out with hz | ⟨gb, off, rfl, _, hgl, hcells⟩
      · omega
      have q1 : wr.cell? ⟨gb, off + i, none⟩ = some (.int .u32 y) := (HFN.out.cell hgl (fun h => h)).trans (hcells i _ (by rw [List.getElem?_map, hy]; rfl))
      have HWY := hid (HFW.out y (List.mem_of_getElem? hy))
      have h30i : (i : Int) < 30 := by omega
      have hi1 : (i : Int) < fs.length := by omega
      clear hy hcells hgl
      by_cases hy0 : y = 0
      · subst hy0
        go_wp2_with (go_at_call 12; refine put_zero ?_)
        go_roundw
        case rel => exact ⟨i + 1, l', hl', k', by omega, by go_num, HC, ⟨HK.out.1, by have := HK.out.2.1; omega, by omega⟩, HF⟩
        case measure => simp [intOf]; omega
      cases hg : aget hl' y with
      | some hh =>
        obtain ⟨u, d⟩ := hh
        have HG := hid hg
        obtain ⟨l1, l2, e1, _⟩ := aget_split (HC.out.2.1.some hg)
        have HE2 := hid (HC.out.2.1.used e1)
        have HS2 : Hid (Stays hl (aput hl' y (k' + 1, d))) := HC.out.2.2.put (fun u' hu => by rw [hg] at hu; cases hu; rfl)
        clear hg e1
        go_wp2_with (go_at_call 12; refine put_has HC.out.1 HK.out.1 HKT.out H12.out hy0 HWY.out HG.out ?_; intro w6 C hf; have C6 := hid C; have HF6 : Hid (Fr (CacheS p bh bd) w3 w6) := HF.out.trans hf (fun b hb => .inl hb); clear C hf)
        go_roundw
        case rel => exact ⟨i + 1, _, _, k' + 1, by omega, by go_num, ⟨C6.out, HE2.out, HS2.out⟩, ⟨by have := HK.out.1; omega, by have := HK.out.2.1; omega, by omega⟩, HF6⟩
        case measure => simp [intOf]; omega
      | none =>
        have HG := hid hg
        clear hg
        by_cases hroom : (hl'.length : Int) < x % 10 + 1
        · have HRM := hid hroom
          have HE2 := hid (HC.out.2.1.taken HG.out (by have := HLN.out; have := HRM.out; omega))
          have HS2 : Hid (Stays hl (aput (aput hl' y (0, false)) y (k' + 1, false))) := (HC.out.2.2.put (fun u' hu => by rw [HG.out] at hu; cases hu)).put (fun u' hu => by rw [aget_put_same] at hu; cases hu)
          clear hroom
          go_wp2_with (go_at_call 12; refine put_room HC.out.1 HK.out.1 HKT.out H12.out HRM.out hy0 HWY.out HG.out ?_; intro w6 C hf; have C6 := hid C; have HF6 : Hid (Fr (CacheS p bh bd) w3 w6) := HF.out.trans hf (fun b hb => .inl hb); clear C hf)
          go_roundw
          case rel => exact ⟨i + 1, _, _, k' + 1, by omega, by go_num, ⟨C6.out, HE2.out, HS2.out⟩, ⟨by have := HK.out.1; omega, by have := HK.out.2.1; omega, by omega⟩, HF6⟩
          case measure => simp [intOf]; omega
        · have HFU : Hid (x % 10 + 1 ≤ (hl'.length : Int)) := by show _ ≤ _; omega
          clear hroom
          rcases HC.out.2.1.next with ⟨hno, _, _⟩ | ⟨hyes, l1, l2, _, e1, u0, hg0⟩
          · have HNO := hid hno
            clear hno
            go_wp2_with (go_at_call 12; refine put_none HC.out.1 H12.out HFU.out hy0 HWY.out HG.out HNO.out ?_; intro w6 hf; have C6 : Hid (CacheAt w6 p (x % 10 + 1) k' hl' dl bh bd ∧ Eqv (x % 10 + 1) l' dh hl' dl k' ∧ Stays hl hl') := ⟨HC.out.1.no hf, HC.out.2⟩; have HF6 := hid (HF.out.no hf); clear hf)
            go_roundw
            case rel => exact ⟨i + 1, l', hl', k', by omega, by go_num, C6, ⟨HK.out.1, by have := HK.out.2.1; omega, by omega⟩, HF6⟩
            case measure => simp [intOf]; omega
          · have HYES := hid hyes
            obtain ⟨bb, hbb⟩ : ∃ bb, (nx dl hl').best = bb := ⟨_, rfl⟩
            have HBB := hid hbb
            rw [hbb] at e1 hg0
            have HE2 := hid (HC.out.2.1.gone HG.out e1)
            have hne : bb ≠ y := fun e => by rw [e, HG.out] at hg0; cases hg0
            have HS2 : Hid (Stays hl (aput (aput (adel hl' bb) y (0, false)) y (k' + 1, false))) := ((HC.out.2.2.del (fun u' hu => by rw [hg0] at hu; cases hu)).put (fun u' hu => by rw [aget_del_other _ (Ne.symm hne), HG.out] at hu; cases hu)).put (fun u' hu => by rw [aget_put_same] at hu; cases hu)
            have HNH : Hid ((aget (aput (aput (adel hl' bb) y (0, false)) y (k' + 1, false)) bb).isSome = false) := by show _ = _; rw [aget_put_other _ _ hne, aget_put_other _ _ hne, aget_del_same]; rfl
            have HWB : Hid ((Lit.int .u32 bb).wf = true) := HC.out.1.held.wf _ (aget_some_mem hg0)
            clear hyes e1 hbb hg0 hne
            by_cases hb0 : bb = 0
            · subst hb0
              go_wp2_with (go_at_call 12; refine put_out HC.out.1 HK.out.1 HKT.out H12.out HFU.out hy0 HWY.out HG.out HYES.out ?_; rw [HBB.out]; intro w6 C hf; have C6 := hid C; have HF6 : Hid (Fr (CacheS p bh bd) w3 w6) := HF.out.trans hf (fun b hb => .inl hb); clear C hf)
              go_roundw
              case rel => exact ⟨i + 1, _, _, k' + 1, by omega, by go_num, ⟨C6.out, HE2.out, HS2.out⟩, ⟨by have := HK.out.1; omega, by have := HK.out.2.1; omega, by omega⟩, HF6⟩
              case measure => simp [intOf]; omega
            · have hb0' : (bb != 0) = true := by simpa using hb0
              go_wp2_with (first
                | (go_at_call 12; refine put_out HC.out.1 HK.out.1 HKT.out H12.out HFU.out hy0 HWY.out HG.out HYES.out ?_; rw [HBB.out]; intro w6 C hf; have C6 := hid C; have HF6 : Hid (Fr (CacheS p bh bd) w3 w6) := HF.out.trans hf (fun b hb => .inl hb); clear C hf)
                | (go_at_call 17; refine has_ok C6.out HWB.out ?_; rw [HNH.out]; intro w7 hf; have C7 := hid (C6.out.no hf); have HF7 := hid (HF6.out.no hf); clear hf))
              go_roundw
              case rel => exact ⟨i + 1, _, _, k' + 1, by omega, by go_num, ⟨C7.out, HE2.out, HS2.out⟩, ⟨by have := HK.out.1; omega, by have := HK.out.2.1; omega, by omega⟩, HF7⟩
              case measure => simp [intOf]; omega
    · have hex : (i < fs.length ∧ ¬ i < 30) ∨ ¬ i < fs.length := by omega
      clear hgo
      have HRW := hid (HRD.out.fr HF.out (fun b hb => hb))
      have HWL : Hid (∀ y ∈ hl, (Lit.int .u32 y.1).wf = true) := T3.out.c.held.wf
      rcases hex with ⟨hlt, h30⟩ | hlt
      all_goals
        go_wp2_with (go_at_call 18; refine fork_ok HC.out.1 ?_; intro w5 pf bhf bdf cf hsf hf; have CF := hid cf; have C5 := hid (HC.out.1.no hf); have F5 := hid (HFN.out.no hf); have HRW5 := hid (HRW.out.fr hf (fun b hb => hb.elim)); clear cf hsf hf)
        go_loopw [15] (fun t15 ws => ∃ j : Nat, j ≤ hl.length ∧ t15 = .int .i64 (j : Nat) ∧ Hid (Fr No w5 ws)) (fun t15 _ => hl.length - (intOf t15).toNat)
        case atStart => exact ⟨0, Nat.zero_le _, rfl, Fr.refl _ _⟩
        case round =>
          obtain ⟨j, hj, rfl, hf⟩ := hrel
          rename World => ws
          have HFS := hid hf.out
          clear hf
          have hl12 : hl.length ≤ 12 := T3.out.hlen
          by_cases hjl : j < hl.length
          · obtain ⟨⟨y, u, d⟩, hy⟩ : ∃ y, hl[j]? = some y := ⟨hl[j], List.getElem?_eq_getElem hjl⟩
            obtain ⟨_, wa', wc', e, hr⟩ := id HRW5.out
            simp only [Value.slice.injEq, true_and] at e
            obtain ⟨rfl, rfl⟩ := e
            rcases hr with hz | ⟨gb, off, rfl, _, hgl, hcells⟩
            · omega
            have HGB := hid hgl
            have q3 : w5.cell? ⟨gb, off + j, none⟩ = some (.int .u32 y) := hcells j _ (by rw [List.getElem?_map, List.getElem?_map, hy]; rfl)
            have Q3 := hid q3
            have q1 : ws.cell? ⟨gb, off + j, none⟩ = some (.int .u32 y) := (HFS.out.cell hgl (fun h => h)).trans q3
            have HWY := hid (HWL.out _ (List.mem_of_getElem? hy))
            have C6 := hid (CF.out.no HFS.out)
            have hj1 : (j : Int) < hl.length := by omega
            clear hy q3 hcells hgl
            cases hd : ((aget hl' y).getD (0, false)).2 with
            | false =>
              have HDD := hid hd
              clear hd
              go_wp2_with (go_at_call 19; refine dirty_ok C6.out HWY.out ?_; rw [HDD.out]; intro w7 hf; have HF7 := hid (HFS.out.no hf); clear hf)
              go_roundw
              case rel => exact ⟨j + 1, by omega, by go_num, HF7⟩
              case measure => simp [intOf]; omega
            | true =>
              have HDD := hid hd
              obtain ⟨u', hu'⟩ : ∃ u', aget hl' y = some (u', true) := by
                cases h : aget hl' y with
                | none => rw [h] at hd; cases hd
                | some z => rw [h] at hd; exact ⟨z.1, by rw [← show z.2 = true from hd]⟩
              have HG := hid hu'
              clear hd hu'
              go_wp2_with (first
                | (go_at_call 19; refine dirty_ok C6.out HWY.out ?_; rw [HDD.out]; intro w7 hf; have C7 := hid (C6.out.no hf); have HF7 := hid (HFS.out.no hf); have q2 : w7.cell? ⟨gb, off + j, none⟩ = some (.int .u32 y) := (HF7.out.cell HGB.out (fun h => h)).trans Q3.out; clear hf)
                | (go_at_call 20; refine drop_dirty C7.out HWY.out HG.out ?_; intro w8 hf; have HF8 := hid (HF7.out.no hf); clear hf))
              go_roundw
              case rel => exact ⟨j + 1, by omega, by go_num, HF8⟩
              case measure => simp [intOf]; omega
          · have HFT := hid (F5.out.no HFS.out)
            have HD7 := hid (HD.out.no HFT.out)
            go_wp2_with (go_at_call 15; refine playS_ok HX.out.1 HX.out.2 HD7.out ?_; intro w8 p2 q2 hp hf; have F8 := hid (HFT.out.no hf); rw [← HST.out] at hp; obtain ⟨B2, t2, l2, dh2, bh2, bd2, vl2, vh2, T, _, _, _⟩ := hp; have T8 : Hid (CacheAt w8 p2 (x % 10 + 1) k hl dl bh2 bd2) := hid T.c; have C8 := hid (C5.out.no (HFS.out.no hf)); have HRW8 := hid (HRW5.out.fr (HFS.out.no hf) (fun b hb => hb.elim)); clear T hf)
            go_loopw [19] (fun t19 wt => ∃ j : Nat, j ≤ hl.length ∧ t19 = .int .i64 (j : Nat) ∧ Hid (Fr No w8 wt)) (fun t19 _ => hl.length - (intOf t19).toNat)
            case atStart => exact ⟨0, Nat.zero_le _, rfl, Fr.refl _ _⟩
            case round =>
              obtain ⟨j, hj, rfl, hf⟩ := hrel
              rename World => wt
              have HFU := hid hf.out
              clear hf
              have hl12 : hl.length ≤ 12 := T3.out.hlen
              by_cases hjl : j < hl.length
              · obtain ⟨⟨y, u, d⟩, hy⟩ : ∃ y, hl[j]? = some y := ⟨hl[j], List.getElem?_eq_getElem hjl⟩
                obtain ⟨_, wa', wc', e, hr⟩ := id HRW8.out
                simp only [Value.slice.injEq, true_and] at e
                obtain ⟨rfl, rfl⟩ := e
                rcases hr with hz | ⟨gb, off, rfl, _, hgl, hcells⟩
                · omega
                have HGB := hid hgl
                have q3 : w8.cell? ⟨gb, off + j, none⟩ = some (.int .u32 y) := hcells j _ (by rw [List.getElem?_map, List.getElem?_map, hy]; rfl)
                have Q3 := hid q3
                have q1 : wt.cell? ⟨gb, off + j, none⟩ = some (.int .u32 y) := (HFU.out.cell hgl (fun h => h)).trans q3
                have hmem := List.mem_of_getElem? hy
                have HWY := hid (HWL.out _ hmem)
                have HGY := hid (T3.out.c.held.srt.nodk.get hmem)
                have D9' := hid (T8.out.no HFU.out)
                have C9 := hid (C8.out.no HFU.out)
                have hj1 : (j : Int) < hl.length := by omega
                clear hy q3 hcells hgl hmem
                cases d with
                | false =>
                  have HDD : Hid (((aget hl y).getD (0, false)).2 = false) := by show _ = _; rw [HGY.out]; rfl
                  go_wp2_with (go_at_call 19; refine dirty_ok D9'.out HWY.out ?_; rw [HDD.out]; intro w9 hf; have HF9 := hid (HFU.out.no hf); clear hf)
                  go_roundw
                  case rel => exact ⟨j + 1, by omega, by go_num, HF9⟩
                  case measure => simp [intOf]; omega
                | true =>
                  have HDD : Hid (((aget hl y).getD (0, false)).2 = true) := by show _ = _; rw [HGY.out]; rfl
                  have HDC : Hid (((aget hl' y).getD (0, false)).2 = true) := by obtain ⟨u', hu⟩ := HC.out.2.2 y u HGY.out; show _ = _; rw [hu]; rfl
                  go_wp2_with (first
                    | (go_at_call 19; have hd9 := D9'.out; refine dirty_ok hd9 HWY.out ?_; rw [HDD.out]; intro w9 hf; have HF9 := hid (HFU.out.no hf); have C10 := hid (C9.out.no hf); have q2 : w9.cell? ⟨gb, off + j, none⟩ = some (.int .u32 y) := (HF9.out.cell HGB.out (fun h => h)).trans Q3.out; clear hf hd9 D9')
                    | (go_at_call 19; have hd9 := C10.out; refine dirty_ok hd9 HWY.out ?_; rw [HDC.out]; intro w10 hf; have HF10 := hid (HF9.out.no hf); clear hf hd9))
                  go_roundw
                  case rel => exact ⟨j + 1, by omega, by go_num, HF10⟩
                  case measure => simp [intOf]; omega
              · go_wp2
                exact HR.out _ (F8.out.no HFU.out)

end Go.Proofs.Ytokhbjllgaaogaa
