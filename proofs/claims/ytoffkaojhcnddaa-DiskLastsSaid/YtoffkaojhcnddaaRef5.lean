/- The reference's disk: the buffer is written out, wholly or in part. No condition beside that it lies there. -/
import Derived.Test.YtoffkaojhcnddaaRef4
import Derived.Test.YtoffkaojhcnddaaPush2
namespace Go.Proofs.Ytoffkaojhcnddaa
set_option linter.unusedSimpArgs false
open Go.RowKit Go.Maps
attribute [local irreducible] wpQuiet

theorem rsecT : ElemT Try.prog 65 41 32 32 := ⟨by kernel_rfl, by kernel_rfl⟩
theorem rsecs1 : (Try.prog.info? 65).map (·.size) = some 1 := by kernel_rfl
theorem rfieldD0 (b : Nat) (W : World) : (Instr.fieldAt 68 (.pointer (some ⟨b, 0, none⟩)) 0).run Try.prog W = .ok (.pointer (some ⟨b, 0, none⟩)) W := by kernel_rfl
theorem rfieldD1 (b : Nat) (W : World) : (Instr.fieldAt 68 (.pointer (some ⟨b, 0, none⟩)) 1).run Try.prog W = .ok (.pointer (some ⟨b, 1, none⟩)) W := by kernel_rfl
theorem rfieldL0 (b o : Nat) (W : World) : (Instr.fieldAt 70 (.pointer (some ⟨b, o, none⟩)) 0).run Try.prog W = .ok (.pointer (some ⟨b, o, none⟩)) W := by kernel_rfl
theorem rfieldL1 (b o : Nat) (W : World) : (Instr.fieldAt 70 (.pointer (some ⟨b, o, none⟩)) 1).run Try.prog W = .ok (.pointer (some ⟨b, o + 1, none⟩)) W := by kernel_rfl
theorem loosesI : (Try.prog.info? 70).map (·.size) = some 33 := looseI
theorem var_cell {P : Program} {ty : TypeId} {d : TypeDesc} {w : World} {ad : Addr} {v : Value} (hu : P.underlying ty = some d) (hd : d.isRow = false) (h : w.cell? ad = some v) : (loadVar ty ad).run P w = .ok v w := by
  have hagg : (isAgg ty).run P w = .ok false w := by unfold isAgg; rw [Sem.run_bind, run_underlying hu w]; cases d <;> first | rfl | cases hd
  simp [loadVar, Sem.run_bind, hagg, h]
theorem intU : Try.prog.underlying 3 = some (.int .i64) := by kernel_rfl
theorem intsU : Try.prog.underlying 30 = some (.slice 3) := by kernel_rfl
theorem intI : (Try.prog.info? 3).map (·.size) = some 1 := by kernel_rfl

theorem aget_snoc {l : List (Int × Array Value)} (h : Srt l) {k : Nat} {x : Int × Array Value} (hx : l[k]? = some x) (i : Int) : aget (l.take (k + 1)) i = if i = x.1 then some x.2 else aget (l.take k) i := by
  rw [take_snoc' hx]
  have hno : aget (l.take k) x.1 = none := by
    refine aget_none.2 fun y hy e => ?_
    have := srt_any h hx (i := x.1) (List.any_eq_true.2 ⟨y, hy, by simp [e]⟩)
    omega
  by_cases hi : i = x.1
  · subst hi
    rw [if_pos rfl]
    simp only [aget, List.find?_append] at hno ⊢
    cases hf : (l.take k).find? (fun y => y.1 == x.1) with
    | none => simp
    | some y => rw [hf] at hno; simp at hno
  · rw [if_neg hi]
    have : (x.1 == i) = false := by simp; exact fun e => hi e.symm
    simp only [aget, List.find?_append, List.find?_cons, this, List.find?_nil, Option.or_none]

/-- The state of out's loop: the new row of sectors at g. -/
structure OutInv (w : World) (g n : Nat) (cs : Array Value) (l : List (Int × Array Value)) (f : Int → Bool) (k : Nat) (cur : Array Value) (wr : World) : Prop where
  row : wr.heap[g]? = some (.cells cur 41 (0, 0))
  size : n * 32 ≤ cur.size
  byte : Bytes n cur
  read : ∀ i : Nat, i < n → sec cur i = if f i = true then (aget (l.take k) i).getD (sec cs i) else sec cs i
  fr : Fr No w wr

theorem OutInv.put {w : World} {g n : Nat} {cs : Array Value} {l : List (Int × Array Value)} {f : Int → Bool} {k : Nat} {cur : Array Value} {wr wr' : World} (I : OutInv w g n cs l f k cur wr) (hs : Srt l) {x : Int × Array Value} (hx : l[k]? = some x) {i : Nat} (hi : x.1 = i) (hin : i < n) (hc : IsSec x.2) (hf : f i = true) (hg : w.heap.size ≤ g)
    (hF : Fr (fun b => b = g) wr wr') (hr : wr'.heap[g]? = some (.cells (mput cur (i * 32) x.2) 41 (0, 0))) : OutInv w g n cs l f (k + 1) (mput cur (i * 32) x.2) wr' := by
  have hsz := I.size
  have hfit : i * 32 + x.2.size ≤ cur.size := by rw [hc.1]; omega
  refine ⟨hr, by rw [mput_size hfit]; exact hsz, fun j v hj hv => ?_, fun j hj => ?_, I.fr.trans hF (fun b hb => .inr (by rw [hb]; exact hg))⟩
  · rw [mput_get hfit] at hv
    split at hv
    · exact hc.2 v (Array.mem_of_getElem? hv)
    · exact I.byte j v hj hv
  · rw [aget_snoc hs hx]
    by_cases hji : j = i
    · subst hji
      rw [sec_mput_same hsz hin hc.1, if_pos hf, if_pos hi.symm]; rfl
    · rw [sec_mput_other hsz hin hc.1 hji, if_neg (show ¬ (j : Int) = x.1 by omega)]; exact I.read j hj

theorem OutInv.pass {w : World} {g n : Nat} {cs : Array Value} {l : List (Int × Array Value)} {f : Int → Bool} {k : Nat} {cur : Array Value} {wr wr' : World} (I : OutInv w g n cs l f k cur wr) (hs : Srt l) {x : Int × Array Value} (hx : l[k]? = some x) (hf : f x.1 = false) (hF : Fr No wr wr') : OutInv w g n cs l f (k + 1) cur wr' := by
  refine ⟨hF.keep I.row (fun h => h), I.size, I.byte, fun j hj => ?_, I.fr.no hF⟩
  rw [aget_snoc hs hx]
  by_cases hji : (j : Int) = x.1
  · have := I.read j hj
    rw [hji, hf] at this
    rw [hji, hf]
    simpa using this
  · rw [if_neg hji]; exact I.read j hj

theorem has_snoc {xs : List Int} {j : Nat} {y : Int} (hy : xs[j]? = some y) (i : Int) : (xs.take (j + 1)).contains i = ((xs.take j).contains i || y == i) := by
  obtain ⟨hj, rfl⟩ := List.getElem?_eq_some_iff.1 hy
  rw [List.take_succ_eq_append_getElem hj]
  rw [Bool.eq_iff_iff]
  simp only [List.contains_iff_mem, List.mem_append, List.mem_singleton, Bool.or_eq_true, beq_iff_eq]
  exact or_congr Iff.rfl eq_comm

set_option maxHeartbeats 4000000 in
set_option maxRecDepth 100000 in
theorem rout_ok {S : Nat → Prop} {p n cap : Nat} {cs : Array Value} {l : List (Int × Array Value)} {bs : Nat} {bv : Value} {all : Bool} {v : Value} {m : Nat} {xs : List Int} {w : World} {R : Ending → World → Prop} (H : RefAt S w p n cap cs l bs bv) (hk : RowsAt S w v m 1 (ints xs)) (hm : m < 9223372036854775808) (hS : ∀ b, S b → b < w.heap.size)
    (hR : ∀ w' cap' cs' bs', Settled n cs l (fun i => all || xs.contains i) cs' → RefAt S w' p n cap' cs' [] bs' (.slice none 0 0) → Fr (fun b => b = p) w w' → R (.returned (.tuple #[])) w') :
    Calls Try.prog 33 #[.pointer (some ⟨p, 0, none⟩), .bool all, v] w R := by
  have c0 := cell_at (o := 0) H.head rfl
  simp only [List.getElem_toArray, List.getElem_cons_zero] at c0
  have HS := hid hS
  have HR := hid hR
  have HH := hid H
  have HT := hid rsecT
  have hmost := H.most
  have hfew := H.few
  obtain ⟨hxl, ka, kc, rfl, hkr⟩ := hk
  have HXL := hid hxl
  have HKR := hid hkr
  have hsec := H.secs
  have hsz : Hid (n * 32 ≤ cs.size) := H.size
  have h1c : Hid (∀ j u, j < n * 32 → cs[j]? = some u → u.oneCell' = true) := fun j u hj hu => by obtain ⟨q, _, _, rfl⟩ := H.byte j u hj hu; rfl
  have FW := hid (Fr.refl No w)
  have ZW := hid (rfl : w.heap.size = w.heap.size)
  clear hR H hS hxl hkr
  go_enter Try.func33, Try.ntmps33
  go_wp2_with (first
    | (refine wpList_built0 _ _ 32 32 HT rfl rfl ?_; intro v0 w1 ho0 hf0 hv0; have c0' : w1.cell? ⟨p, 0, none⟩ = some (.slice (some ⟨bs, 0, none⟩) n cap) := cell_at (o := 0) (hf0.out.keep HH.out.head (fun h => h)) rfl; clear c0 hsec)
    | (refine wpList_copyRow _ _ 32 32 HT (by decide) rfl _ _ rfl _ rfl bs n cap rfl cs _ (hf0.out.keep HH.out.secs (fun h => h)) hsz h1c w w.heap.size ZW hf0 ho0 hv0 (by simp only [maxLen]; omega) (by omega) ?_; intro g cap' cur w2 hg2 hh2 hs2 hc2 hf2; have HG := hg2; have hg2b : g = g := rfl; clear c0' hg2))
  go_loopw [7, 8, 9] (fun t7 _ _ wr => ∃ k cur', k ≤ l.length ∧ t7 = .int .i64 k ∧ Hid (OutInv w g n cs l (fun i => all || xs.contains i) k cur' wr)) (fun t7 _ _ _ => l.length - (intOf t7).toNat)
  case atStart =>
    refine ⟨0, cur, Nat.zero_le _, rfl, hh2.out, hs2.out, fun j v hj hv => HH.out.byte j v hj (by rw [← hc2.out j hj]; exact hv), fun i hi => ?_, hf2.out⟩
    rw [sec_congr HH.out.size hs2.out hc2.out hi]; simp [aget]
  case round =>
    obtain ⟨k, cur', hk, rfl, hI⟩ := hrel
    rename World => wo
    have HI := hid hI.out
    clear hI hh2 hs2 hc2 hf2 hg2b
    have q0 : wo.cell? ⟨p, 1, none⟩ = some bv := cell_at (o := 1) (HI.out.fr.keep HH.out.head (fun h => h)) rfl
    obtain ⟨_, ba, bc, rfl, _⟩ := HH.out.buf
    by_cases hlt : k < l.length
    · obtain ⟨x, hx⟩ : ∃ x, l[k]? = some x := ⟨l[k], List.getElem?_eq_getElem hlt⟩
      obtain ⟨b, off, cp, e, hbl, _, hcell1, hrow⟩ := buf_at HH.out.buf HH.out.vals hx
      simp only [Value.slice.injEq, true_and] at e
      obtain ⟨rfl, rfl⟩ := e
      have HX : Hid (IsSec x.2) := HH.out.vals _ (List.mem_of_getElem? hx)
      have hkeys := HH.out.keys _ (List.mem_of_getElem? hx)
      obtain ⟨i, hi⟩ : ∃ i : Nat, x.1 = i := ⟨x.1.toNat, by omega⟩
      have hin : i < n := by omega
      have HXE := hid hx
      have hk0 : (0 : Int) ≤ k := by omega
      have hk1 : (k : Int) < l.length := by omega
      have hi0 : (0 : Int) ≤ i := by omega
      have hi1 : (i : Int) < n := by omega
      have HQ : Hid (∀ W, Fr No w W → W.cell? ⟨p, 1, none⟩ = some (.slice (some ⟨b, off, none⟩) l.length bc) ∧ W.cell? ⟨b, off + k * 33, none⟩ = some (.int .i64 i) ∧ W.rangeAt b (off + k * 33 + 1) x.2.toList) :=
        fun W h => ⟨cell_at (o := 1) (h.keep HH.out.head (fun h => h)) rfl, hi ▸ (h.cell hbl (fun h => h)).trans hcell1, h.range hbl (fun h => h) hrow⟩
      clear hcell1 hrow hbl hx hkeys
      obtain ⟨_, q1, q2⟩ := HQ.out wo HI.out.fr
      have Q2 := hid q2
      clear q2
      go_wp2
      go_loopw [8, 9] (fun t8 t9 wi => ∃ j : Nat, j ≤ m ∧ t9 = .int .i64 j ∧ t8 = .bool (all || (xs.take j).contains (i : Int)) ∧ Hid (Fr No wo wi)) (fun _ t9 _ => m - (intOf t9).toNat)
      case atStart => exact ⟨0, Nat.zero_le _, rfl, by simp, Fr.refl _ _⟩
      case round =>
        obtain ⟨j, hj, rfl, rfl, hf⟩ := hrel
        rename World => wi
        have HF := hid hf.out
        clear hf
        clear q0 q1 Q2
        by_cases hjlt : j < m
        · obtain ⟨y, hy⟩ : ∃ y, xs[j]? = some y := ⟨xs[j]'(by have := HXL.out; simp at this; omega), List.getElem?_eq_getElem _⟩
          have HY := hid (has_snoc hy (i : Int))
          cases hgot : (all || (xs.take j).contains (i : Int)) with
          | true =>
            have HGT := hid hgot
            clear hgot hy
            go_wp2
            refine region_quiet (Fr No wi) follows (by kernel_rfl) ((Fr.refl No wi).drew) ?_
            (refine q_move (by kernel_rfl) rfl rfl ?_; simp only [Act.put, Act.eval, Array.getD_eq_getD_getElem?, List.setIfInBounds_toArray, List.set_cons_succ, List.set_cons_zero, List.getElem?_toArray, List.getElem?_cons_succ, List.getElem?_cons_zero, Option.getD_some])
            (refine q_move (by kernel_rfl) rfl rfl ?_; simp only [Act.put, Act.eval, Array.getD_eq_getD_getElem?, List.setIfInBounds_toArray, List.set_cons_succ, List.set_cons_zero, List.getElem?_toArray, List.getElem?_cons_succ, List.getElem?_cons_zero, Option.getD_some])
            iterate 13 (refine q_skip (by kernel_rfl) ?_; simp only [Act.put, Act.eval, Array.getD_eq_getD_getElem?, List.setIfInBounds_toArray, List.set_cons_succ, List.set_cons_zero, List.getElem?_toArray, List.getElem?_cons_succ, List.getElem?_cons_zero, Option.getD_some])
            (refine q_pickTc (by kernel_rfl) rfl rfl ?_; simp only [Act.put, Act.eval, Array.getD_eq_getD_getElem?, List.setIfInBounds_toArray, List.set_cons_succ, List.set_cons_zero, List.getElem?_toArray, List.getElem?_cons_succ, List.getElem?_cons_zero, Option.getD_some])
            (refine q_assign (by kernel_rfl) rfl rfl ?_; simp only [Act.put, Act.eval, Array.getD_eq_getD_getElem?, List.setIfInBounds_toArray, List.set_cons_succ, List.set_cons_zero, List.getElem?_toArray, List.getElem?_cons_succ, List.getElem?_cons_zero, Option.getD_some])
            refine wpQuiet_nil ?_
            intro w3 hw3
            have HW3 := hid hw3
            clear hw3
            go_wp2
            go_roundw
            case rel => exact ⟨j + 1, by omega, by go_num, by rw [HY.out, ← Bool.or_assoc, HGT.out]; rfl, HF.out.no HW3.out⟩
            case measure => simp [intOf]; omega
          | false =>
            have HGT := hid hgot
            clear hgot
            have hj0 : (0 : Int) ≤ j := by omega
            have hj1 : (j : Int) < m := by omega
            rcases HKR.out with h0 | ⟨b2, off2, rfl, _, hb2, hc2⟩
            · omega
            have HC2 : Hid (∀ W, Fr No w W → W.cell? ⟨b2, off2 + j * 1, none⟩ = some (.int .i64 y)) := fun W h => (h.cell hb2 (fun h => h)).trans (by rw [Nat.mul_one]; exact hc2 j _ (by simp [hy]))
            clear hc2 hb2 hy
            go_wp2
            refine region_quiet (Fr No wi) follows (by kernel_rfl) ((Fr.refl No wi).drew) ?_
            have HWW : Hid (∀ W, Fr No wi W → Fr No w W) := fun W h => (HI.out.fr.no HF.out).no h
            (refine q_move (by kernel_rfl) rfl rfl ?_; simp only [Act.put, Act.eval, Array.getD_eq_getD_getElem?, List.setIfInBounds_toArray, List.set_cons_succ, List.set_cons_zero, List.getElem?_toArray, List.getElem?_cons_succ, List.getElem?_cons_zero, Option.getD_some])
            (refine q_move (by kernel_rfl) rfl rfl ?_; simp only [Act.put, Act.eval, Array.getD_eq_getD_getElem?, List.setIfInBounds_toArray, List.set_cons_succ, List.set_cons_zero, List.getElem?_toArray, List.getElem?_cons_succ, List.getElem?_cons_zero, Option.getD_some])
            (refine q_move (by kernel_rfl) rfl rfl ?_; simp only [Act.put, Act.eval, Array.getD_eq_getD_getElem?, List.setIfInBounds_toArray, List.set_cons_succ, List.set_cons_zero, List.getElem?_toArray, List.getElem?_cons_succ, List.getElem?_cons_zero, Option.getD_some])
            (refine q_move (by kernel_rfl) rfl rfl ?_; simp only [Act.put, Act.eval, Array.getD_eq_getD_getElem?, List.setIfInBounds_toArray, List.set_cons_succ, List.set_cons_zero, List.getElem?_toArray, List.getElem?_cons_succ, List.getElem?_cons_zero, Option.getD_some])
            refine q_index (m := off2 + j * 1) (by kernel_rfl) rfl rfl rfl intsU intI hj0 hj1 (by simp) ?_
            simp only [Act.put, Act.eval, Array.getD_eq_getD_getElem?, List.setIfInBounds_toArray, List.set_cons_succ, List.set_cons_zero, List.getElem?_toArray, List.getElem?_cons_succ, List.getElem?_cons_zero, Option.getD_some]
            (refine q_load (v := .int .i64 y) (by kernel_rfl) rfl rfl (fun W hW => var_cell intU rfl (HC2.out W (HWW.out W hW))) ?_; simp only [Act.put, Act.eval, Array.getD_eq_getD_getElem?, List.setIfInBounds_toArray, List.set_cons_succ, List.set_cons_zero, List.getElem?_toArray, List.getElem?_cons_succ, List.getElem?_cons_zero, Option.getD_some])
            (refine q_move (by kernel_rfl) rfl rfl ?_; simp only [Act.put, Act.eval, Array.getD_eq_getD_getElem?, List.setIfInBounds_toArray, List.set_cons_succ, List.set_cons_zero, List.getElem?_toArray, List.getElem?_cons_succ, List.getElem?_cons_zero, Option.getD_some])
            (refine q_nilCheck (by kernel_rfl) rfl rfl ?_; simp only [Act.put, Act.eval, Array.getD_eq_getD_getElem?, List.setIfInBounds_toArray, List.set_cons_succ, List.set_cons_zero, List.getElem?_toArray, List.getElem?_cons_succ, List.getElem?_cons_zero, Option.getD_some])
            (refine q_field (by kernel_rfl) rfl rfl (rfieldD1 p) ?_; simp only [Act.put, Act.eval, Array.getD_eq_getD_getElem?, List.setIfInBounds_toArray, List.set_cons_succ, List.set_cons_zero, List.getElem?_toArray, List.getElem?_cons_succ, List.getElem?_cons_zero, Option.getD_some])
            (refine q_load (v := .slice (some ⟨b, off, none⟩) l.length bc) (by kernel_rfl) rfl rfl (fun W hW => var_cell loosesU rfl (HQ.out W (HWW.out W hW)).1) ?_; simp only [Act.put, Act.eval, Array.getD_eq_getD_getElem?, List.setIfInBounds_toArray, List.set_cons_succ, List.set_cons_zero, List.getElem?_toArray, List.getElem?_cons_succ, List.getElem?_cons_zero, Option.getD_some])
            (refine q_move (by kernel_rfl) rfl rfl ?_; simp only [Act.put, Act.eval, Array.getD_eq_getD_getElem?, List.setIfInBounds_toArray, List.set_cons_succ, List.set_cons_zero, List.getElem?_toArray, List.getElem?_cons_succ, List.getElem?_cons_zero, Option.getD_some])
            refine q_index (m := off + k * 33) (by kernel_rfl) rfl rfl rfl loosesU looseI hk0 hk1 (by simp) ?_
            simp only [Act.put, Act.eval, Array.getD_eq_getD_getElem?, List.setIfInBounds_toArray, List.set_cons_succ, List.set_cons_zero, List.getElem?_toArray, List.getElem?_cons_succ, List.getElem?_cons_zero, Option.getD_some]
            (refine q_field (by kernel_rfl) rfl rfl (rfieldL0 b (off + k * 33)) ?_; simp only [Act.put, Act.eval, Array.getD_eq_getD_getElem?, List.setIfInBounds_toArray, List.set_cons_succ, List.set_cons_zero, List.getElem?_toArray, List.getElem?_cons_succ, List.getElem?_cons_zero, Option.getD_some])
            (refine q_load (v := .int .i64 i) (by kernel_rfl) rfl rfl (fun W hW => var_cell intU rfl (HQ.out W (HWW.out W hW)).2.1) ?_; simp only [Act.put, Act.eval, Array.getD_eq_getD_getElem?, List.setIfInBounds_toArray, List.set_cons_succ, List.set_cons_zero, List.getElem?_toArray, List.getElem?_cons_succ, List.getElem?_cons_zero, Option.getD_some])
            refine q_bin (v := .bool (y == (i : Int))) (by kernel_rfl) rfl rfl rfl (fun W => by kernel_rfl) ?_
            simp only [Act.put, Act.eval, Array.getD_eq_getD_getElem?, List.setIfInBounds_toArray, List.set_cons_succ, List.set_cons_zero, List.getElem?_toArray, List.getElem?_cons_succ, List.getElem?_cons_zero, Option.getD_some]
            (refine q_pickF (by kernel_rfl) rfl rfl rfl ?_; simp only [Act.put, Act.eval, Array.getD_eq_getD_getElem?, List.setIfInBounds_toArray, List.set_cons_succ, List.set_cons_zero, List.getElem?_toArray, List.getElem?_cons_succ, List.getElem?_cons_zero, Option.getD_some])
            (refine q_assign (by kernel_rfl) rfl rfl ?_; simp only [Act.put, Act.eval, Array.getD_eq_getD_getElem?, List.setIfInBounds_toArray, List.set_cons_succ, List.set_cons_zero, List.getElem?_toArray, List.getElem?_cons_succ, List.getElem?_cons_zero, Option.getD_some])
            refine wpQuiet_nil ?_
            intro w3 hw3
            have HW3 := hid hw3
            clear hw3
            go_wp2
            go_roundw
            case rel => exact ⟨j + 1, by omega, by go_num, by rw [HY.out, ← Bool.or_assoc, HGT.out, Bool.false_or], HF.out.no HW3.out⟩
            case measure => simp [intOf]; omega
        · obtain rfl : j = m := by omega
          have hxm : xs.take j = xs := List.take_of_length_le (by have := HXL.out; simp at this; omega)
          rw [hxm]
          clear hxm
          have q0 : wi.cell? ⟨p, 1, none⟩ = some (.slice (some ⟨b, off, none⟩) l.length bc) := (HQ.out wi (HI.out.fr.no HF.out)).1
          have q1 : wi.cell? ⟨b, off + k * 33, none⟩ = some (.int .i64 i) := (HQ.out wi (HI.out.fr.no HF.out)).2.1
          cases hgot : (all || xs.contains (i : Int)) with
          | true =>
            have HGT := hid hgot
            clear hgot
            go_wp2
            refine wp_tail 18 follows (by kernel_rfl) ?_
            simp only [List.take_succ_cons, List.take_zero, List.drop_succ_cons, List.drop_zero]
            repeat still_step
            refine wpStill_loadVar rfl rfl rfl (range_row (w := wi.drew) (HQ.out wi (HI.out.fr.no HF.out)).2.2 rsectorU HX.out.rinfo) ?_
            repeat still_step
            refine wpStill_nil ?_
            refine wpList_storeVar rfl rfl rfl rfl (run_mput (w := wi.drew) (HF.out.keep HI.out.row (fun h => h)) (by rw [HX.out.1]; have := HI.out.size; omega) HX.out.rinfo HX.out.one) ?_
            go_wp2
            go_roundw
            case rel => exact ⟨k + 1, mput cur' (i * 32) x.2, by omega, by go_num, HI.out.put HH.out.srt HXE.out hi hin HX.out HGT.out HG.out ((HF.out.any (S := fun b => b = g)).drew.setRow (.inl rfl) _) (setRow_heap wi.drew g _ _ _ _ (HF.out.keep HI.out.row (fun h => h)))⟩
            case measure => simp [intOf]; omega
          | false =>
            have HGT := hid hgot
            clear hgot
            go_wp2
            go_roundw
            case rel => exact ⟨k + 1, cur', by omega, by go_num, HI.out.pass HH.out.srt HXE.out (by rw [hi]; exact HGT.out) HF.out⟩
            case measure => simp [intOf]; omega
    · obtain rfl : k = l.length := by omega
      have q5 : wo.heap[p]? = some (.cells #[.slice (some ⟨bs, 0, none⟩) n cap, .slice ba l.length bc] 68 (0, 0)) := HI.out.fr.keep HH.out.head (fun h => h)
      go_wp2_with (first
        | (refine wpList_storeVar (x := .tmp 70) rfl rfl rfl rfl (run_set1 q5 rfl rsecs1 rfl rfl) ?_; have q6 := heap_setRow_at q5 (mput #[.slice (some ⟨bs, 0, none⟩) n cap, .slice ba l.length bc] 0 #[.slice (some ⟨g, 0, none⟩) n cap']))
        | (refine wpList_storeVar (x := .tmp 73) rfl rfl rfl rfl (run_set1 q6 rfl rlooses1 rfl rfl) ?_))
      have hpl : p < w.heap.size := lt_of_heap HH.out.head
      have hgl : w.heap.size ≤ g := HG.out
      have hgp : g ≠ p := by omega
      go_end0
      refine HR.out _ cap' cur' g (fun i hi => ?_) ⟨heap_setRow_at q6 _, setRow_keep (setRow_keep HI.out.row _ _ hgp) _ _ hgp, HI.out.size, HH.out.most, HI.out.byte, ⟨rfl, none, 0, rfl, .inl rfl⟩, List.Pairwise.nil, (fun _ h => by cases h), (fun _ h => by cases h), HH.out.inS, fun h => by have := HS.out g h; omega⟩ (((HI.out.fr.any (S := fun b => b = p)).setRow (.inl rfl) _).setRow (.inl rfl) _)
      have := HI.out.read i hi
      rwa [List.take_length] at this

end Go.Proofs.Ytoffkaojhcnddaa
