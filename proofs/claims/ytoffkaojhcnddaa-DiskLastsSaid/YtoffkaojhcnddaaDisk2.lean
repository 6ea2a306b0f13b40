/- The disk's buffer is written out, wholly or in part. No condition beside that the disk lies there. -/
import Derived.Test.YtoffkaojhcnddaaDisk
import Derived.Test.YtoffkaojhcnddaaQuiet
namespace Go.Proofs.Ytoffkaojhcnddaa
set_option linter.unusedSimpArgs false
open Go.RowKit Go.Maps
attribute [local irreducible] wpQuiet

theorem fieldD0 (b : Nat) (W : World) : (Instr.fieldAt 63 (.pointer (some ⟨b, 0, none⟩)) 0).run Try.prog W = .ok (.pointer (some ⟨b, 0, none⟩)) W := by kernel_rfl
theorem fieldD1 (b : Nat) (W : World) : (Instr.fieldAt 63 (.pointer (some ⟨b, 0, none⟩)) 1).run Try.prog W = .ok (.pointer (some ⟨b, 1, none⟩)) W := by kernel_rfl
theorem secsU : Try.prog.underlying 60 = some (.slice 36) := by kernel_rfl
theorem var_secs {w : World} {p : Nat} {c : Array Value} {t : TypeId} {fr : Nat × Nat} {v : Value} {o : Nat} (h : w.heap[p]? = some (.cells c t fr)) (hv : c[o]? = some v) : (loadVar 60 ⟨p, o, none⟩).run Try.prog w = .ok v w := by
  have hagg : (isAgg 60).run Try.prog w = .ok false w := by unfold isAgg; rw [Sem.run_bind, run_underlying secsU w]; rfl
  simp [loadVar, Sem.run_bind, hagg, cell_at h hv]
theorem noGuard : Try.prog.eqGuardType Try.prog.depth 36 = false := by kernel_rfl
theorem IsSec.ints {c : Array Value} (h : IsSec c) : ∀ v ∈ c, ∃ n, v = Value.int .u8 n := fun v hv => by obtain ⟨n, _, _, e⟩ := h.2 v hv; exact ⟨n, e⟩
theorem neqSec {a b : Array Value} (ha : IsSec a) (hb : IsSec b) {r : Bool} (hr : r = true ↔ a = b) (W : World) : (binOp .neq 36 (.agg a) (.agg b)).run Try.prog W = .ok (.bool (!r)) W :=
  run_bin_neq (run_eql_ints (q := .u8) sectorU (by kernel_rfl) (by kernel_rfl) (by kernel_rfl) a b ha.ints hb.ints ha.1 hb.1 hr W)

/-- The state of settle's loop. -/
structure SInv (w : World) (p n cap : Nat) (cs : Array Value) (l : List (Int × Array Value)) (bs bm : Nat) (f : Int → Bool) (left : Lit → Bool) (cnt : Nat) (cs' : Array Value) (l' : List (Int × Array Value)) (wr : World) : Prop where
  head : wr.heap[p]? = some (.cells #[.slice (some ⟨bs, 0, none⟩) n cap, .map (some bm)] 63 (0, 0))
  secs : wr.heap[bs]? = some (.cells cs' 36 (0, 0))
  size : n * 32 ≤ cs'.size
  byte : Bytes n cs'
  rng : RangeAt Try.prog 3 .i64 Value.agg wr bm w.heap.size l' left cnt
  srt : Srt l'
  sub : ∀ x ∈ l', x ∈ l
  got : ∀ k, aget l' k = if left (.int .i64 k) then aget l k else none
  read : ∀ i : Nat, i < n → sec cs' i = if left (.int .i64 i) = false ∧ f i = true then (aget l i).getD (sec cs i) else sec cs i
  fr : Fr (DiskS p bs bm) w wr

theorem sec_mput_same {cs c : Array Value} {n i : Nat} (hs : n * 32 ≤ cs.size) (hi : i < n) (hc : c.size = 32) : sec (mput cs (i * 32) c) i = c := by
  have := mput_extract_same (cs := cs) (c := c) (k := i * 32) (by omega)
  rw [hc] at this
  exact this

theorem sec_mput_other {cs c : Array Value} {n i j : Nat} (hs : n * 32 ≤ cs.size) (hi : i < n) (hc : c.size = 32) (hne : j ≠ i) : sec (mput cs (i * 32) c) j = sec cs j := by
  refine mput_extract_other (by omega) ?_
  rw [hc]; omega

theorem SInv.step {w : World} {p n cap : Nat} {cs : Array Value} {l : List (Int × Array Value)} {bs bm : Nat} {f : Int → Bool} {left : Lit → Bool} {cnt : Nat} {cs' : Array Value} {l' : List (Int × Array Value)} {wr : World}
    (S : SInv w p n cap cs l bs bm f left cnt cs' l' wr) (hk : ∀ x ∈ l, 0 ≤ x.1 ∧ x.1 < n) (hv : ∀ x ∈ l, IsSec x.2) {k : Int} {d : Array Value} (hl : left (.int .i64 k) = true) (hd : aget l' k = some d) {cs2 : Array Value}
    (h2 : cs2 = (if f k = true then mput cs' (k.toNat * 32) d else cs') ∨ (cs2 = cs' ∧ f k = true ∧ sec cs' k.toNat = d)) {w2 : World} {cnt2 : Nat}
    (hhead : w2.heap[p]? = some (.cells #[.slice (some ⟨bs, 0, none⟩) n cap, .map (some bm)] 63 (0, 0)))
    (hsecs : w2.heap[bs]? = some (.cells cs2 36 (0, 0)))
    (hrng : RangeAt Try.prog 3 .i64 Value.agg w2 bm w.heap.size (adel l' k) (fun z => left z && !z.sameKey (.int .i64 k)) cnt2) (hfr : Fr (DiskS p bs bm) w w2) :
    SInv w p n cap cs l bs bm f (fun z => left z && !z.sameKey (.int .i64 k)) cnt2 cs2 (adel l' k) w2 := by
  have hm := S.sub _ (aget_some_mem hd)
  have hdl : aget l k = some d := by have := S.got k; rw [hl, hd] at this; simpa using this.symm
  have hkk := hk _ hm
  have hdd := hv _ hm
  obtain ⟨i, rfl⟩ : ∃ i : Nat, k = i := ⟨k.toNat, by omega⟩
  have hin : i < n := by omega
  simp only [Int.toNat_natCast] at h2
  have hsz := S.size
  have hsz2 : n * 32 ≤ cs2.size := by
    rcases h2 with h2 | ⟨h2, _⟩
    · rw [h2]; split
      · rw [mput_size (by rw [hdd.1]; omega)]; exact hsz
      · exact hsz
    · rw [h2]; exact hsz
  refine ⟨hhead, hsecs, hsz2, fun j v hj hv' => ?_, hrng, S.srt.del _, fun x hx => S.sub x (adel_mem.1 hx).1, fun j => ?_, fun j hj => ?_, hfr⟩
  · rcases h2 with h2 | ⟨h2, _⟩
    · rw [h2] at hv'; split at hv'
      · rw [mput_get (by rw [hdd.1]; omega)] at hv'
        split at hv'
        · exact hdd.2 v (Array.mem_of_getElem? hv')
        · exact S.byte j v hj hv'
      · exact S.byte j v hj hv'
    · rw [h2] at hv'; exact S.byte j v hj hv'
  · rw [sameKey_int]
    by_cases hj : j = i
    · subst hj; rw [aget_del_same]; simp
    · rw [aget_del_other _ hj, S.got j]
      simp [hj]
  · rw [sameKey_int]
    have hr := S.read j hj
    by_cases hji : j = i
    · subst hji
      have hs0 : sec cs' j = sec cs j := by rw [hr, hl]; simp
      simp only [BEq.rfl, Bool.not_true, Bool.and_false, true_and, hdl, Option.getD_some]
      rcases h2 with h2 | ⟨h2, hf, he⟩
      · by_cases hf : f j = true
        · rw [if_pos hf] at h2 ⊢; rw [h2]; exact sec_mput_same S.size hin hdd.1
        · rw [if_neg hf] at h2 ⊢; rw [h2]; exact hs0
      · rw [h2, if_pos hf]; exact he
    · have hne : ((j : Int) == (i : Int)) = false := by simp; omega
      simp only [hne, Bool.not_false, Bool.and_true]
      rw [← hr]
      rcases h2 with h2 | ⟨h2, _⟩
      · rw [h2]; split
        · exact sec_mput_other S.size hin hdd.1 hji
        · rfl
      · rw [h2]


set_option maxHeartbeats 400000 in
set_option maxRecDepth 100000 in
theorem settle_ok {p n cap : Nat} {cs : Array Value} {l : List (Int × Array Value)} {bs bm g : Nat} {caps : Array Value} {f : Int → Bool} {w : World} {R : Ending → World → Prop} (H : DiskAt w p n cap cs l bs bm)
    (hg : ∀ (args : Array Value) (W : World), (callFunc g args).run Try.prog W = .ok (.enter g args) W)
    (hf : ∀ (W : World) (i : Int), 0 ≤ i → i < n → Fr (DiskS p bs bm) w W → Calls Try.prog g (#[.int .i64 i] ++ caps) W (fun e w' => e = .returned (.bool (f i)) ∧ Fr No W w'))
    (hR : ∀ w' cs', (∀ i : Nat, i < n → sec cs' i = if f i = true then (aget l i).getD (sec cs i) else sec cs i) → DiskAt w' p n cap cs' [] bs bm → Fr (DiskS p bs bm) w w' → R (.returned (.int .i64 0)) w') :
    Calls Try.prog 31 #[.pointer (some ⟨p, 0, none⟩), .func (.func g) #[] caps] w R := by
  have c1 : w.cell? ⟨p, 1, none⟩ = some (.map (some bm)) := cell_at H.head rfl
  have HF := hid hf
  have HG := hid hg
  have HH := hid H
  have HR := hid hR
  have hpr : p < w.heap.size := lt_of_heap H.head
  have hsr : bs < w.heap.size := lt_of_heap H.secs
  have hmr : bm < w.heap.size := H.buf.lt
  have hN : Hid ((p ≠ bm ∧ bs ≠ bm) ∧ p ≠ bs) := ⟨⟨H.ne_pm, H.ne_sm⟩, H.ne_ps⟩
  clear hf hg hR
  go_enter Try.func31, Try.ntmps31
  go_wp2_with (refine wpList_arange rfl rfl underlyingI bufU H.buf rfl ?_; intro w0 hrg0 hfr0 hsz0)
  go_frame
  clear c1
  go_loopw [5] (fun _ wr => ∃ left cnt cs' l', SInv w p n cap cs l bs bm f left cnt cs' l' wr) (fun _ wr => wr.rangeLeft bm w.heap.size)
  case atStart =>
    refine ⟨_, _, cs, l, hfr0.keep H.head (fun h => h), hfr0.keep H.secs (fun h => h), H.size, H.byte, hrg0, H.buf.srt, fun x hx => hx, fun k => ?_, fun i hi => ?_, hfr0.any⟩
    · rw [toD_has]; cases h : aget l k <;> simp
    · rw [toD_has]; cases h : aget l i <;> simp
  case round =>
    obtain ⟨left, cnt, cs', l', S⟩ := hrel
    have SS := hid S
    have c0 := cell_at (o := 0) S.head rfl
    clear S H hfr0 hrg0 hsz0
    go_wp2_with (refine wpList_anext rfl rfl underlyingI rfl SS.out.rng ?_ ?_)
    · intro hl0
      have HL := hid hl0
      clear hl0
      go_wp2
      have S := SS.out
      have hl' : l' = [] := by
        cases l' with
        | nil => rfl
        | cons x r => have := S.got x.1; rw [HL.out x.1] at this; simp [aget] at this
      subst hl'
      refine HR.out wr cs' (fun i hi => ?_) ⟨S.head, S.secs, S.size, HH.out.most, S.byte, RangeAt.map S.rng S.srt (fun _ hx => by cases hx), (fun _ hx => by cases hx), (fun _ hx => by cases hx)⟩ S.fr
      have := S.read i hi
      rw [HL.out i] at this
      simpa using this
    · intro k d w1 cnt1 hwf hlk hgk hrg1 hlt hfr1 hen
      have hm := SS.out.sub _ (aget_some_mem hgk)
      obtain ⟨hk0, hkn⟩ := HH.out.keys _ hm
      have hd : IsSec d := HH.out.vals _ hm
      simp only at hk0 hkn
      have HW := hid hwf
      have HK := hid hlk
      have HGK := hid hgk
      have HRG := hid hrg1
      have HLT := hid hlt
      have HD := hid hd
      have HFR1 := hid hfr1
      have HM := hid hm
      clear hwf hlk hgk hrg1 hlt hd hfr1 hm c0
      have hsd : Hid (Z32.size = d.size) := by show _ = _; rw [HD.out.1]; exact Z32_is.1
      go_wp2_with (first
        | (refine wpList_allocRow rfl rfl (zeroSec _) ?_)
        | (refine wpList_storeNew (x := .tmp 6) rfl rfl rfl rfl (heap_alloc_new _ _) HD.out.info hsd.out HD.out.one (World.setRow_alloc_new _ _ _ _) ?_))
      obtain ⟨i, rfl⟩ : ∃ i : Nat, k = i := ⟨k.toNat, by omega⟩
      have head1 : w1.heap[p]? = some (.cells #[.slice (some ⟨bs, 0, none⟩) n cap, .map (some bm)] 63 (0, 0)) := HFR1.out.keep SS.out.head (by show p ≠ _; omega)
      have secs1 : w1.heap[bs]? = some (.cells cs' 36 (0, 0)) := HFR1.out.keep SS.out.secs (by show bs ≠ _; omega)
      have hfit : Hid (i * 32 + 32 ≤ cs'.size) := by have := SS.out.size; show _ ≤ _; omega
      have hsec : Hid (IsSec (sec cs' i)) := sec_is SS.out.size SS.out.byte (by omega)
      have hFr2 : Hid (Fr (DiskS p bs bm) w w1) := SS.out.fr.trans HFR1.out (fun x hx => .inr (by show w.heap.size ≤ x; rw [hx]; exact Nat.le_refl _))
      obtain ⟨w2, hw2⟩ : ∃ w2, w2 = w1.alloc (.cells d 36) := ⟨_, rfl⟩
      have head2 : w2.heap[p]? = some (.cells #[.slice (some ⟨bs, 0, none⟩) n cap, .map (some bm)] 63 (0, 0)) := by rw [hw2]; exact alloc_keep head1 _
      have secs2 : w2.heap[bs]? = some (.cells cs' 36 (0, 0)) := by rw [hw2]; exact alloc_keep secs1 _
      have box2 : w2.heap[w1.heap.size]? = some (.cells d 36 (0, 0)) := by rw [hw2]; exact heap_alloc_new _ _
      have hF12 : Hid (Fr No w1 w2) := by rw [hw2]; exact (Fr.refl No w1).alloc _
      rw [← hw2]
      clear hw2
      by_cases hfi : f i = true
      · have HFI := hid hfi
        by_cases heq : sec cs' i = d
        · skip
          refine region_quiet (Fr No w2) follows (by kernel_rfl) ((Fr.refl No w2).drew) ?_
          (refine q_move (by kernel_rfl) rfl rfl ?_; simp only [Act.put, Act.eval, Array.getD_eq_getD_getElem?, List.setIfInBounds_toArray, List.set_cons_succ, List.set_cons_zero, List.getElem?_toArray, List.getElem?_cons_succ, List.getElem?_cons_zero, Option.getD_some])
          (refine q_move (by kernel_rfl) rfl rfl ?_; simp only [Act.put, Act.eval, Array.getD_eq_getD_getElem?, List.setIfInBounds_toArray, List.set_cons_succ, List.set_cons_zero, List.getElem?_toArray, List.getElem?_cons_succ, List.getElem?_cons_zero, Option.getD_some])
          refine q_call (f := g) (args := #[.int .i64 i] ++ caps) (v := .bool true) rfl ?hr ?hc ?_
          case hr => exact run_callv1 HG.out rfl rfl rfl
          case hc => exact fun W hW => (hfi ▸ HF.out W i hk0 hkn ((hFr2.out.no hF12.out).no hW)).mono (fun e w' he => ⟨he.1, hW.no he.2⟩)
          simp only [Act.put, Act.eval, Array.getD_eq_getD_getElem?, List.setIfInBounds_toArray, List.set_cons_succ, List.set_cons_zero, List.getElem?_toArray, List.getElem?_cons_succ, List.getElem?_cons_zero, Option.getD_some]
          (refine q_move (by kernel_rfl) rfl rfl ?_; simp only [Act.put, Act.eval, Array.getD_eq_getD_getElem?, List.setIfInBounds_toArray, List.set_cons_succ, List.set_cons_zero, List.getElem?_toArray, List.getElem?_cons_succ, List.getElem?_cons_zero, Option.getD_some])
          (refine q_move (by kernel_rfl) rfl rfl ?_; simp only [Act.put, Act.eval, Array.getD_eq_getD_getElem?, List.setIfInBounds_toArray, List.set_cons_succ, List.set_cons_zero, List.getElem?_toArray, List.getElem?_cons_succ, List.getElem?_cons_zero, Option.getD_some])
          (refine q_nilCheck (by kernel_rfl) rfl rfl ?_; simp only [Act.put, Act.eval, Array.getD_eq_getD_getElem?, List.setIfInBounds_toArray, List.set_cons_succ, List.set_cons_zero, List.getElem?_toArray, List.getElem?_cons_succ, List.getElem?_cons_zero, Option.getD_some])
          (refine q_field (by kernel_rfl) rfl rfl (fieldD0 p) ?_; simp only [Act.put, Act.eval, Array.getD_eq_getD_getElem?, List.setIfInBounds_toArray, List.set_cons_succ, List.set_cons_zero, List.getElem?_toArray, List.getElem?_cons_succ, List.getElem?_cons_zero, Option.getD_some])
          (refine q_load (by kernel_rfl) rfl rfl (fun W hW => var_secs (hW.keep head2 (fun h => h)) rfl) ?_; simp only [Act.put, Act.eval, Array.getD_eq_getD_getElem?, List.setIfInBounds_toArray, List.set_cons_succ, List.set_cons_zero, List.getElem?_toArray, List.getElem?_cons_succ, List.getElem?_cons_zero, Option.getD_some])
          (refine q_move (by kernel_rfl) rfl rfl ?_; simp only [Act.put, Act.eval, Array.getD_eq_getD_getElem?, List.setIfInBounds_toArray, List.set_cons_succ, List.set_cons_zero, List.getElem?_toArray, List.getElem?_cons_succ, List.getElem?_cons_zero, Option.getD_some])
          refine q_index (m := i * 32) (by kernel_rfl) rfl rfl rfl secsU sectorI hk0 hkn (by simp) ?_
          simp only [Act.put, Act.eval, Array.getD_eq_getD_getElem?, List.setIfInBounds_toArray, List.set_cons_succ, List.set_cons_zero, List.getElem?_toArray, List.getElem?_cons_succ, List.getElem?_cons_zero, Option.getD_some]
          (refine q_load (v := .agg (sec cs' i)) (by kernel_rfl) rfl rfl (fun W hW => var_mid (hW.keep secs2 (fun h => h)) sectorU sectorI hfit.out) ?_; simp only [Act.put, Act.eval, Array.getD_eq_getD_getElem?, List.setIfInBounds_toArray, List.set_cons_succ, List.set_cons_zero, List.getElem?_toArray, List.getElem?_cons_succ, List.getElem?_cons_zero, Option.getD_some])
          (refine q_load (v := .agg d) (by kernel_rfl) rfl rfl (fun W hW => var_row (hW.keep box2 (fun h => h)) sectorU HD.out.info) ?_; simp only [Act.put, Act.eval, Array.getD_eq_getD_getElem?, List.setIfInBounds_toArray, List.set_cons_succ, List.set_cons_zero, List.getElem?_toArray, List.getElem?_cons_succ, List.getElem?_cons_zero, Option.getD_some])
          (refine q_val (v := .bool false) (by kernel_rfl) (fun W _ => run_cmp_ints rfl rfl rfl noGuard (neqSec hsec.out HD.out (r := true) (by simp [heq]) W)) ?_; simp only [Act.put, Act.eval, Array.getD_eq_getD_getElem?, List.setIfInBounds_toArray, List.set_cons_succ, List.set_cons_zero, List.getElem?_toArray, List.getElem?_cons_succ, List.getElem?_cons_zero, Option.getD_some])
          (refine q_pickT (by kernel_rfl) rfl rfl rfl ?_; simp only [Act.put, Act.eval, Array.getD_eq_getD_getElem?, List.setIfInBounds_toArray, List.set_cons_succ, List.set_cons_zero, List.getElem?_toArray, List.getElem?_cons_succ, List.getElem?_cons_zero, Option.getD_some])
          refine wpQuiet_nil ?_
          intro w3 hw3
          have head3 := hw3.keep head2 (fun h => h)
          have secs3 := hw3.keep secs2 (fun h => h)
          have box3 := hw3.keep box2 (fun h => h)
          have c0 := cell_at (o := 0) head3 rfl
          have c1 := cell_at (o := 1) head3 rfl
          have hrg3 : Hid (RangeAt Try.prog 3 .i64 Value.agg w3 bm w.heap.size l' (fun z => left z && !z.sameKey (.int .i64 i)) cnt1) := RangeAt.fr (RangeAt.fr HRG.out hF12.out (fun h => h) (fun h => h)) hw3 (fun h => h) (fun h => h)
          have HW3 := hid hw3
          clear hw3
          clear hfi
          go_wp2_with (refine wpList_adelRange rfl rfl underlyingI bufU rfl hrg3.out rfl HW.out ?_; intro w4 cnt4 hrg4 hle hfr4; go_frame)
          rw [strike_twice] at hrg4
          go_roundw
          case rel => exact ⟨_, cnt4, _, _, SS.out.step HH.out.keys HH.out.vals HK.out HGK.out (.inr ⟨rfl, HFI.out, by simpa using heq⟩) (hfr4.keep head3 hN.out.1.1) (hfr4.keep secs3 hN.out.1.2) hrg4 (((hFr2.out.no hF12.out).no HW3.out).trans hfr4 (fun x hx => .inl (.inr (.inr hx))))⟩
          case measure => rw [hrg4.left_eq, SS.out.rng.left_eq]; have := HLT.out; omega
        · skip
          refine region_quiet (Fr No w2) follows (by kernel_rfl) ((Fr.refl No w2).drew) ?_
          (refine q_move (by kernel_rfl) rfl rfl ?_; simp only [Act.put, Act.eval, Array.getD_eq_getD_getElem?, List.setIfInBounds_toArray, List.set_cons_succ, List.set_cons_zero, List.getElem?_toArray, List.getElem?_cons_succ, List.getElem?_cons_zero, Option.getD_some])
          (refine q_move (by kernel_rfl) rfl rfl ?_; simp only [Act.put, Act.eval, Array.getD_eq_getD_getElem?, List.setIfInBounds_toArray, List.set_cons_succ, List.set_cons_zero, List.getElem?_toArray, List.getElem?_cons_succ, List.getElem?_cons_zero, Option.getD_some])
          refine q_call (f := g) (args := #[.int .i64 i] ++ caps) (v := .bool true) rfl ?hr ?hc ?_
          case hr => exact run_callv1 HG.out rfl rfl rfl
          case hc => exact fun W hW => (hfi ▸ HF.out W i hk0 hkn ((hFr2.out.no hF12.out).no hW)).mono (fun e w' he => ⟨he.1, hW.no he.2⟩)
          simp only [Act.put, Act.eval, Array.getD_eq_getD_getElem?, List.setIfInBounds_toArray, List.set_cons_succ, List.set_cons_zero, List.getElem?_toArray, List.getElem?_cons_succ, List.getElem?_cons_zero, Option.getD_some]
          (refine q_move (by kernel_rfl) rfl rfl ?_; simp only [Act.put, Act.eval, Array.getD_eq_getD_getElem?, List.setIfInBounds_toArray, List.set_cons_succ, List.set_cons_zero, List.getElem?_toArray, List.getElem?_cons_succ, List.getElem?_cons_zero, Option.getD_some])
          (refine q_move (by kernel_rfl) rfl rfl ?_; simp only [Act.put, Act.eval, Array.getD_eq_getD_getElem?, List.setIfInBounds_toArray, List.set_cons_succ, List.set_cons_zero, List.getElem?_toArray, List.getElem?_cons_succ, List.getElem?_cons_zero, Option.getD_some])
          (refine q_nilCheck (by kernel_rfl) rfl rfl ?_; simp only [Act.put, Act.eval, Array.getD_eq_getD_getElem?, List.setIfInBounds_toArray, List.set_cons_succ, List.set_cons_zero, List.getElem?_toArray, List.getElem?_cons_succ, List.getElem?_cons_zero, Option.getD_some])
          (refine q_field (by kernel_rfl) rfl rfl (fieldD0 p) ?_; simp only [Act.put, Act.eval, Array.getD_eq_getD_getElem?, List.setIfInBounds_toArray, List.set_cons_succ, List.set_cons_zero, List.getElem?_toArray, List.getElem?_cons_succ, List.getElem?_cons_zero, Option.getD_some])
          (refine q_load (by kernel_rfl) rfl rfl (fun W hW => var_secs (hW.keep head2 (fun h => h)) rfl) ?_; simp only [Act.put, Act.eval, Array.getD_eq_getD_getElem?, List.setIfInBounds_toArray, List.set_cons_succ, List.set_cons_zero, List.getElem?_toArray, List.getElem?_cons_succ, List.getElem?_cons_zero, Option.getD_some])
          (refine q_move (by kernel_rfl) rfl rfl ?_; simp only [Act.put, Act.eval, Array.getD_eq_getD_getElem?, List.setIfInBounds_toArray, List.set_cons_succ, List.set_cons_zero, List.getElem?_toArray, List.getElem?_cons_succ, List.getElem?_cons_zero, Option.getD_some])
          refine q_index (m := i * 32) (by kernel_rfl) rfl rfl rfl secsU sectorI hk0 hkn (by simp) ?_
          simp only [Act.put, Act.eval, Array.getD_eq_getD_getElem?, List.setIfInBounds_toArray, List.set_cons_succ, List.set_cons_zero, List.getElem?_toArray, List.getElem?_cons_succ, List.getElem?_cons_zero, Option.getD_some]
          (refine q_load (v := .agg (sec cs' i)) (by kernel_rfl) rfl rfl (fun W hW => var_mid (hW.keep secs2 (fun h => h)) sectorU sectorI hfit.out) ?_; simp only [Act.put, Act.eval, Array.getD_eq_getD_getElem?, List.setIfInBounds_toArray, List.set_cons_succ, List.set_cons_zero, List.getElem?_toArray, List.getElem?_cons_succ, List.getElem?_cons_zero, Option.getD_some])
          (refine q_load (v := .agg d) (by kernel_rfl) rfl rfl (fun W hW => var_row (hW.keep box2 (fun h => h)) sectorU HD.out.info) ?_; simp only [Act.put, Act.eval, Array.getD_eq_getD_getElem?, List.setIfInBounds_toArray, List.set_cons_succ, List.set_cons_zero, List.getElem?_toArray, List.getElem?_cons_succ, List.getElem?_cons_zero, Option.getD_some])
          (refine q_val (v := .bool true) (by kernel_rfl) (fun W _ => run_cmp_ints rfl rfl rfl noGuard (neqSec hsec.out HD.out (r := false) (by simp [heq]) W)) ?_; simp only [Act.put, Act.eval, Array.getD_eq_getD_getElem?, List.setIfInBounds_toArray, List.set_cons_succ, List.set_cons_zero, List.getElem?_toArray, List.getElem?_cons_succ, List.getElem?_cons_zero, Option.getD_some])
          (refine q_pickT (by kernel_rfl) rfl rfl rfl ?_; simp only [Act.put, Act.eval, Array.getD_eq_getD_getElem?, List.setIfInBounds_toArray, List.set_cons_succ, List.set_cons_zero, List.getElem?_toArray, List.getElem?_cons_succ, List.getElem?_cons_zero, Option.getD_some])
          refine wpQuiet_nil ?_
          intro w3 hw3
          have head3 := hw3.keep head2 (fun h => h)
          have secs3 := hw3.keep secs2 (fun h => h)
          have box3 := hw3.keep box2 (fun h => h)
          have c0 := cell_at (o := 0) head3 rfl
          have c1 := cell_at (o := 1) head3 rfl
          have hrg3 : Hid (RangeAt Try.prog 3 .i64 Value.agg w3 bm w.heap.size l' (fun z => left z && !z.sameKey (.int .i64 i)) cnt1) := RangeAt.fr (RangeAt.fr HRG.out hF12.out (fun h => h) (fun h => h)) hw3 (fun h => h) (fun h => h)
          have HW3 := hid hw3
          clear hw3
          clear hfi heq
          go_wp2
          refine wp_tail 7 follows (by kernel_rfl) ?_
          simp only [List.take_succ_cons, List.take_zero, List.drop_succ_cons, List.drop_zero]
          repeat still_step
          refine wpStill_loadVar rfl rfl rfl (var_row (w := w3.drew) box3 sectorU HD.out.info) ?_
          repeat still_step
          refine wpStill_nil ?_
          refine wpList_storeVar rfl rfl rfl rfl (run_mput (w := w3.drew) secs3 (by rw [HD.out.1]; exact hfit.out) HD.out.info HD.out.one) ?_
          obtain ⟨w5, hw5⟩ : ∃ w5, w5 = w3.drew.setRow bs (mput cs' (i * 32) d) := ⟨_, rfl⟩
          have head5 : w5.heap[p]? = some (.cells #[.slice (some ⟨bs, 0, none⟩) n cap, .map (some bm)] 63 (0, 0)) := by rw [hw5]; exact setRow_keep (w := w3.drew) head3 _ _ hN.out.2
          have secs5 : w5.heap[bs]? = some (.cells (mput cs' (i * 32) d) 36 (0, 0)) := by rw [hw5]; exact setRow_heap w3.drew bs _ _ _ _ secs3
          have hF5 : Hid (Fr (fun x => x = bs) w3 w5) := by rw [hw5]; exact (((Fr.refl (fun x => x = bs) w3).drew)).setRow (.inl rfl) _
          have hrg5 : Hid (RangeAt Try.prog 3 .i64 Value.agg w5 bm w.heap.size l' (fun z => left z && !z.sameKey (.int .i64 i)) cnt1) := RangeAt.fr hrg3.out hF5.out (fun h => hN.out.1.2 h.symm) (by show w.heap.size ≠ bs; omega)
          rw [← hw5]
          clear c0 c1 hw5
          have c1 := cell_at (o := 1) head5 rfl
          go_wp2_with (refine wpList_adelRange rfl rfl underlyingI bufU rfl hrg5.out rfl HW.out ?_; intro w4 cnt4 hrg4 hle hfr4; go_frame)
          rw [strike_twice] at hrg4
          go_roundw
          case rel => exact ⟨_, cnt4, _, _, SS.out.step HH.out.keys HH.out.vals HK.out HGK.out (.inl (by rw [if_pos HFI.out, Int.toNat_natCast])) (hfr4.keep head5 hN.out.1.1) (hfr4.keep secs5 hN.out.1.2) hrg4 ((((hFr2.out.no hF12.out).no HW3.out).trans hF5.out (fun x hx => .inl (.inr (.inl hx)))).trans hfr4 (fun x hx => .inl (.inr (.inr hx))))⟩
          case measure => rw [hrg4.left_eq, SS.out.rng.left_eq]; have := HLT.out; omega
      · have hfi' : f i = false := by simpa using hfi
        clear hfi
        refine region_quiet (Fr No w2) follows (by kernel_rfl) ((Fr.refl No w2).drew) ?_
        (refine q_move (by kernel_rfl) rfl rfl ?_; simp only [Act.put, Act.eval, Array.getD_eq_getD_getElem?, List.setIfInBounds_toArray, List.set_cons_succ, List.set_cons_zero, List.getElem?_toArray, List.getElem?_cons_succ, List.getElem?_cons_zero, Option.getD_some])
        (refine q_move (by kernel_rfl) rfl rfl ?_; simp only [Act.put, Act.eval, Array.getD_eq_getD_getElem?, List.setIfInBounds_toArray, List.set_cons_succ, List.set_cons_zero, List.getElem?_toArray, List.getElem?_cons_succ, List.getElem?_cons_zero, Option.getD_some])
        refine q_call (f := g) (args := #[.int .i64 i] ++ caps) (v := .bool false) rfl ?hr ?hc ?_
        case hr => exact run_callv1 HG.out rfl rfl rfl
        case hc => exact fun W hW => (hfi' ▸ HF.out W i hk0 hkn ((hFr2.out.no hF12.out).no hW)).mono (fun e w' he => ⟨he.1, hW.no he.2⟩)
        simp only [Act.put, Act.eval, Array.getD_eq_getD_getElem?, List.setIfInBounds_toArray, List.set_cons_succ, List.set_cons_zero, List.getElem?_toArray, List.getElem?_cons_succ, List.getElem?_cons_zero, Option.getD_some]
        (refine q_move (by kernel_rfl) rfl rfl ?_; simp only [Act.put, Act.eval, Array.getD_eq_getD_getElem?, List.setIfInBounds_toArray, List.set_cons_succ, List.set_cons_zero, List.getElem?_toArray, List.getElem?_cons_succ, List.getElem?_cons_zero, Option.getD_some])
        iterate 9 (refine q_skip (by kernel_rfl) ?_; simp only [Act.put, Act.eval, Array.getD_eq_getD_getElem?, List.setIfInBounds_toArray, List.set_cons_succ, List.set_cons_zero, List.getElem?_toArray, List.getElem?_cons_succ, List.getElem?_cons_zero, Option.getD_some])
        (refine q_pickFc (by kernel_rfl) rfl rfl ?_; simp only [Act.put, Act.eval, Array.getD_eq_getD_getElem?, List.setIfInBounds_toArray, List.set_cons_succ, List.set_cons_zero, List.getElem?_toArray, List.getElem?_cons_succ, List.getElem?_cons_zero, Option.getD_some])
        refine wpQuiet_nil ?_
        intro w3 hw3
        have head3 := hw3.keep head2 (fun h => h)
        have secs3 := hw3.keep secs2 (fun h => h)
        have c1 := cell_at (o := 1) head3 rfl
        have hrg3 : Hid (RangeAt Try.prog 3 .i64 Value.agg w3 bm w.heap.size l' (fun z => left z && !z.sameKey (.int .i64 i)) cnt1) := RangeAt.fr (RangeAt.fr HRG.out hF12.out (fun h => h) (fun h => h)) hw3 (fun h => h) (fun h => h)
        have HW3 := hid hw3
        clear hw3
        go_wp2_with (refine wpList_adelRange rfl rfl underlyingI bufU rfl hrg3.out rfl HW.out ?_; intro w4 cnt4 hrg4 hle hfr4; go_frame)
        rw [strike_twice] at hrg4
        go_roundw
        case rel => exact ⟨_, cnt4, _, _, SS.out.step HH.out.keys HH.out.vals HK.out HGK.out (.inl (by rw [if_neg (by simp [hfi'])])) (hfr4.keep head3 hN.out.1.1) (hfr4.keep secs3 hN.out.1.2) hrg4 (((hFr2.out.no hF12.out).no HW3.out).trans hfr4 (fun x hx => .inl (.inr (.inr hx))))⟩
        case measure => rw [hrg4.left_eq, SS.out.rng.left_eq]; have := HLT.out; omega

end Go.Proofs.Ytoffkaojhcnddaa
