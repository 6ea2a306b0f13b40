/- The cache's iterator, for a body that keeps what it does not own; List. No condition beside that it lies there. -/
import Derived.Test.YtokhbjllgaaogaaCLive
namespace Go.Proofs.Ytokhbjllgaaogaa
set_option linter.unusedSimpArgs false
open Go.RowKit Go.Maps Go.Shelf
attribute [local go_sem] Oper.semAt_some

set_option maxHeartbeats 4000000 in
set_option maxRecDepth 100000 in
theorem sorted1K_in {S : World → Nat → Prop} {K : World → World → Prop} (hKr : ∀ W, K W W) (hKt : ∀ {A B C : World}, K A B → K B C → K A C) (hKeep : ∀ W1 W2 b o, K W1 W2 → W1.heap[b]? = some o → (o.isCells = true ∨ o.isWalk = true) → ¬ S W1 b → W2.heap[b]? = some o) (n : Nat) (hn : 1 ≤ n) (l Bx p : Nat) {k m : Int} {hl : List (Int × (Int × Bool))} {bh bd : Nat} {tb : TypeId} (hlen : hl.length ≤ 12) {hU : List UH} (hUe : hU.map Subtype.val = hl) (J Jx : List UH → World → Prop)
    (hY : ∀ pre x W, J pre W → pre.length < hU.length → YieldAt Fence.wide (n - 1) Try.prog l (encs2 x) W fun e W' => (e = .returned (.bool true) ∧ J (pre ++ [x]) W' ∧ K W W') ∨ (e = .returned (.bool false) ∧ Jx (pre ++ [x]) W'))
    (W : World) (hJ : AbidesFrom W.heap.size J) (hS : ∀ w2, Fr No W w2 → ∀ b, S w2 b → b < W.heap.size ∧ b ≠ Bx ∧ b ≠ p ∧ b ≠ bh) (hB : W.heap[Bx]? = some (.cells #[.pointer (some ⟨p, 0, none⟩)] tb (0, 0)))
    (hp : W.heap[p]? = some (.cells #[.int .i64 m, .int .i64 k, .map (some bh), .map (some bd)] 58 (0, 0))) (M : MapAt Try.prog 27 .u32 encH W bh hl) (h0 : J [] W) :
    CallsIn Fence.wide n Try.prog 55 #[.func (.yield l) #[] #[], .pointer (some ⟨Bx, 0, none⟩)] W fun e W' => (∃ v, e = .returned v) ∧ ((∃ ss, ss = hU ∧ J ss W') ∨ (∃ pre : List UH, True ∧ Jx pre W')) := by
  have HUL : Hid (hU.length = hl.length) := by show _ = _; rw [← hUe]; simp
  have HM := hid M
  have HP := hid hp
  have HB := hid hB
  have c0 : W.cell? ⟨Bx, 0, none⟩ = some (.pointer (some ⟨p, 0, none⟩)) := cell_at hB rfl
  have c2 : W.cell? ⟨p, 2, none⟩ = some (.map (some bh)) := cell_at hp rfl
  clear M hp hB
  refine callsIn_of_wp Try.func55 rfl trivial ?_ rfl
  simp only [Try.ntmps55, List.size_toArray, List.length_cons, List.length_nil, Nat.reduceAdd, Nat.reduceSub, Array.replicate_succ, Array.replicate_zero, List.push_toArray, List.append_toArray, List.nil_append, List.cons_append]
  gi_wp2_with (first
    | (refine ⟨trivial, ?_⟩; refine callsIn_wide.2 (hkeys_ok ⟨_, rfl⟩ ?_))
    | (refine ⟨trivial, ?_⟩; refine callsIn_wide.2 (hsorted_ok (cell_at (heap_alloc_new W _) rfl) (lt_of_heap (heap_alloc_new W (.cells #[.map (some bh)] 55))) (HM.out.alloc _) hlen ?_); intro v w2 hrow hf; have HROW := hid hrow; have F2 := hid (((Fr.refl No W).alloc (.cells #[.map (some bh)] 55)).no hf); clear hrow hf; obtain ⟨va, vc, rfl⟩ := owns_shape HROW.out))
  have J2 := hid (hJ [] W w2 none h0 (grown_of_fr F2.out) (fun r e => by cases e))
  have hSg : Hid (∀ b, S w2 b → b < W.heap.size ∧ b ≠ Bx ∧ b ≠ p ∧ b ≠ bh) := hS w2 F2.out
  have C02 : Hid (w2.heap[Bx]? = some (.cells #[.pointer (some ⟨p, 0, none⟩)] tb (0, 0))) := F2.out.keep HB.out (fun h => h)
  have P2 := hid (F2.out.keep HP.out (fun h => h))
  have M2 : Hid (MapAt Try.prog 27 .u32 encH w2 bh hl) := HM.out.fr F2.out (fun h => h)
  clear c0 c2 h0
  gi_loopw [14] (fun t14 wr => ∃ j : Nat, j ≤ hl.length ∧ t14 = .int .i64 (j : Nat) ∧ Hid (J (hU.take j) wr ∧ K w2 wr)) (fun t14 _ => hl.length - (intOf t14).toNat)
  case atStart => exact ⟨0, Nat.zero_le _, rfl, by simpa using J2.out, hKr _⟩
  case round =>
    obtain ⟨j, hj, rfl, hh⟩ := hrel
    have JJ := hid hh.out.1
    have KK := hid hh.out.2
    clear hh J2
    by_cases hlt : j < hl.length
    · obtain ⟨⟨⟨kx, u, d⟩, hw⟩, hx'⟩ : ∃ x, hU[j]? = some x := ⟨hU[j]'(by rw [HUL.out]; exact hlt), List.getElem?_eq_getElem _⟩
      have hx : hl[j]? = some (kx, u, d) := by rw [← hUe]; simp [hx']
      have HX' := hid hx'
      clear hx'
      obtain ⟨g, cur, rfl, hg, hcur, hcell⟩ := owns_cell HROW.out (j := j) (u := encU kx) (by simp [hx])
      have q0 : wr.cell? ⟨g, j, none⟩ = some (.int .u32 kx) := cell_at (hKeep _ _ _ _ KK.out hcur (.inl rfl) (fun h => by have h1 := (hSg.out _ h).1; have : (W.alloc (.cells #[.map (some bh)] 55)).heap.size = W.heap.size + 1 := (by simp); omega)) hcell
      have c0 : wr.cell? ⟨Bx, 0, none⟩ = some (.pointer (some ⟨p, 0, none⟩)) := cell_at (hKeep _ _ _ _ KK.out C02.out (.inl rfl) (fun h => (hSg.out _ h).2.1 rfl)) rfl
      have c2 : wr.cell? ⟨p, 2, none⟩ = some (.map (some bh)) := cell_at (hKeep _ _ _ _ KK.out P2.out (.inl rfl) (fun h => (hSg.out _ h).2.2.1 rfl)) rfl
      have MR : Hid (MapAt Try.prog 27 .u32 encH wr bh hl) := by
        obtain ⟨es, clock, hb, _⟩ := id M2.out.owns
        exact M2.out.heap ((hKeep _ _ _ _ KK.out hb (.inr rfl) (fun h => (hSg.out _ h).2.2.2 rfl)).trans hb.symm)
      have HD : Hid (aget hl kx = some (u, d)) := aget_at HM.out.srt hx
      have HWF : Hid ((Lit.int .u32 kx).wf = true) := HM.out.wf _ (List.mem_of_getElem? hx)
      have hj0 : (0 : Int) ≤ j := by omega
      have hj1 : (j : Int) < hl.length := by omega
      have HX := hid hx
      obtain ⟨fn, tmps, assign, body, hy, hR⟩ := hY (hU.take j) ⟨(kx, u, d), hw⟩ wr JJ.out (by have := HUL.out; simp; omega)
      clear hcell hcur hx
      gi_wp2_with (refine wpListIn_look rfl rfl (run_look_op rfl rfl rfl (run_look_some MR.out fidU heldU (zeroH _) HWF.out HD.out)) ?_)
      refine hR.mono ?_
      rintro e W3 (⟨rfl, hJ3, hk3⟩ | ⟨rfl, hJx3⟩)
      · have J3 := hid hJ3
        have K3 := hid hk3
        clear hJ3 hk3
        gi_wp2
        go_roundw
        case rel => exact ⟨j + 1, by omega, by go_num, by have := J3.out; rwa [List.take_add_one, HX'.out], hKt KK.out K3.out⟩
        case measure => first | (simp [intOf]; done) | (simp [intOf]; omega)
      · have J3 := hid hJx3
        clear hJx3
        gi_wp2
        refine bodyPost_ret (results_none rfl _ _ _) rfl ?_
        exact ⟨⟨_, rfl⟩, .inr ⟨_, trivial, J3.out⟩⟩
    · obtain rfl : j = hl.length := by omega
      gi_wp2
      go_end0
      exact ⟨⟨_, rfl⟩, .inl ⟨hU, rfl, by have := JJ.out; rwa [← HUL.out, List.take_length] at this⟩⟩

theorem sorted1K_stops {S : World → Nat → Prop} {K : World → World → Prop} (hKr : ∀ W, K W W) (hKt : ∀ {A B C : World}, K A B → K B C → K A C) (hKeep : ∀ W1 W2 b o, K W1 W2 → W1.heap[b]? = some o → (o.isCells = true ∨ o.isWalk = true) → ¬ S W1 b → W2.heap[b]? = some o)
    (n : Nat) (hn : 1 ≤ n) (Bx p : Nat) {k m : Int} {hl : List (Int × (Int × Bool))} {dl : List (Int × Int)} {bh bd : Nat} {tb : TypeId} (hlen : hl.length ≤ 12) {hU : List UH} (hUe : hU.map Subtype.val = hl) (w : World)
    (hS : ∀ W, Below w.heap.size w W → ∀ b, S W b → b < w.heap.size ∧ b ≠ Bx ∧ b ≠ p ∧ b ≠ bh) (hB : w.heap[Bx]? = some (.cells #[.pointer (some ⟨p, 0, none⟩)] tb (0, 0))) (C : CacheAt w p m k hl dl bh bd) :
    SeqStopsK Fence.wide n Try.prog 55 #[.pointer (some ⟨Bx, 0, none⟩)] encs2 K (fun ss => ss = hU) (fun _ => True) hU.length w :=
  fun l J Jx W hW hJ _ hY h0 => sorted1K_in hKr hKt hKeep n hn l Bx p hlen hUe J Jx hY W hJ
    (fun w2 hf b hb => by
      have := hS w2 (hW.trans (hf.below.mono hW.size)) b hb
      exact ⟨Nat.lt_of_lt_of_le this.1 hW.size, this.2⟩)
    ((hW.block Bx (lt_of_heap hB)).trans hB) ((hW.block p (lt_of_heap C.head)).trans C.head) (C.held.heap (hW.block bh C.held.lt)) h0

/-- The box of a row, and what was laid since the row. -/
def LS (B : Nat) (W : World) (b : Nat) : Prop := b = B ∨ ∃ g n cap, W.cell? ⟨B, 0, none⟩ = some (.slice (some ⟨g, 0, none⟩) n cap) ∧ g ≤ b
/-- What a body keeps that appends to the row in the box B. -/
def KpL (B : Nat) (W W' : World) : Prop := W.heap.size ≤ W'.heap.size ∧ (∀ b o, W.heap[b]? = some o → (o.isCells = true ∨ o.isWalk = true) → ¬ LS B W b → W'.heap[b]? = some o) ∧ ∀ b, b < W.heap.size → LS B W' b → LS B W b

theorem KpL.refl (B : Nat) (W : World) : KpL B W W := ⟨Nat.le_refl _, fun _ _ h _ _ => h, fun _ _ h => h⟩
theorem KpL.trans {B : Nat} {X Y Z : World} (h : KpL B X Y) (k : KpL B Y Z) : KpL B X Z :=
  ⟨Nat.le_trans h.1 k.1, fun b o hb ho hs => k.2.1 b o (h.2.1 b o hb ho hs) ho (fun hy => hs (h.2.2 b (lt_of_heap hb) hy)), fun b hb hz => h.2.2 b hb (k.2.2 b (Nat.lt_of_lt_of_le hb h.1) hz)⟩
theorem KpL.putObj {B : Nat} {W : World} {l : Nat} {o : Obj} (o' : Obj) (hne : B ≠ l) (h : W.heap[l]? = some o) (hc : o.isCells = false) (hw : o.isWalk = false) : KpL B W (W.putObj l o') := by
  have hcell : (W.putObj l o').cell? ⟨B, 0, none⟩ = W.cell? ⟨B, 0, none⟩ := by
    unfold World.cell?
    rw [World.putObj_heap_other hne]
  refine ⟨by simp, fun b x hb hx _ => ?_, fun b _ hs => ?_⟩
  · by_cases e : b = l
    · subst e; rw [h] at hb; cases hb; rw [hc, hw] at hx; simp at hx
    · exact (World.putObj_heap_other e).trans hb
  · rcases hs with e | ⟨g, n, cap, hv, ho⟩
    · exact .inl e
    · exact .inr ⟨g, n, cap, by rw [← hcell]; exact hv, ho⟩

theorem own_at {w : World} {base : Nat} {e : TypeId} {sz : Nat} {v : Value} {n : Nat} {cs : List Value} (h : w.ownsRow base e sz v n cs) :
    (v = .slice none 0 0 ∧ n = 0 ∧ cs = []) ∨ ∃ g cap, v = .slice (some ⟨g, 0, none⟩) n cap ∧ base ≤ g ∧ g < w.heap.size ∧ w.ownsRow g e sz v n cs := by
  obtain ⟨hl, ⟨hv, h0⟩ | ⟨g, cap, cur, rfl, hb, hh, h1, h2, h3, h4⟩⟩ := h
  · exact .inl ⟨hv, h0, List.eq_nil_of_length_eq_zero (by rw [hl, h0]; simp)⟩
  · exact .inr ⟨g, cap, rfl, hb, lt_of_heap hh, hl, .inr ⟨g, cap, cur, rfl, Nat.le_refl _, hh, h1, h2, h3, h4⟩⟩
theorem owns_low {w : World} {base base' : Nat} {e : TypeId} {sz : Nat} {v : Value} {n : Nat} {cs : List Value} (h : w.ownsRow base e sz v n cs) (hb : base' ≤ base) : w.ownsRow base' e sz v n cs := by
  obtain ⟨hl, h | ⟨g, cap, cur, hv, h0, hr⟩⟩ := h
  · exact ⟨hl, .inl h⟩
  · exact ⟨hl, .inr ⟨g, cap, cur, hv, Nat.le_trans hb h0, hr⟩⟩

/-- Behind the append: what it keeps. -/
theorem KpL.push {B g' m c' : Nat} {W w1 : World} {v : Value} {tmp : Obj} (hc : W.cell? ⟨B, 0, none⟩ = some v) (hg : (W.alloc tmp).grownBy w1 v.ownBlock) (hB1 : ∃ u, w1.cell? ⟨B, 0, none⟩ = some u)
    (hv : (v = .slice none 0 0 ∧ W.heap.size ≤ g') ∨ ∃ g n cap, v = .slice (some ⟨g, 0, none⟩) n cap ∧ g ≤ g') : KpL B W (w1.setCell ⟨B, 0, none⟩ (.slice (some ⟨g', 0, none⟩) m c')) := by
  have hs : W.heap.size ≤ w1.heap.size := by have := hg.size; simp at this; omega
  have hcell : (w1.setCell ⟨B, 0, none⟩ (.slice (some ⟨g', 0, none⟩) m c')).cell? ⟨B, 0, none⟩ = some (.slice (some ⟨g', 0, none⟩) m c') := by
    obtain ⟨u, hu⟩ := hB1
    exact World.cell?_setCell_same' _ _ _ (by rw [hu]; rfl)
  refine ⟨by simp [World.setCell]; exact hs, fun b o hb ho hn => ?_, fun b hb hl => ?_⟩
  · have hbB : b ≠ B := fun e => hn (.inl e)
    refine setCell_keep ?_ _ _ hbB
    refine (hg.block b (by simp; have := lt_of_heap hb; omega) ?_).trans (alloc_keep hb tmp)
    rcases hv with ⟨rfl, _⟩ | ⟨g, n, cap, rfl, _⟩
    · simp [Value.ownBlock]
    · intro e
      have : b = g := by simpa [Value.ownBlock] using e
      exact hn (.inr ⟨g, n, cap, hc, by omega⟩)
  · rcases hl with e | ⟨x, n, cap, hx, hle⟩
    · exact .inl e
    · rw [hcell] at hx
      have : g' = x := by simpa using congrArg (fun o => match o with | some (Value.slice (some a) _ _) => a.block | _ => 0) hx
      subst this
      rcases hv with ⟨_, h⟩ | ⟨g, n', cap', rfl, h⟩
      · omega
      · exact .inr ⟨g, n', cap', hc, by omega⟩

set_option maxHeartbeats 8000000 in
set_option maxRecDepth 100000 in
theorem list_in {w : World} {p bh bd : Nat} {m k : Int} {hl : List (Int × (Int × Bool))} {dl : List (Int × Int)} (hlen : hl.length ≤ 12) (C : CacheAt w p m k hl dl bh bd) :
    CallsIn Fence.wide 9 Try.prog 14 #[.pointer (some ⟨p, 0, none⟩)] w fun e W' => ∃ v, e = .returned v ∧ W'.ownsRow w.heap.size 27 1 v hl.length ((hl.map (·.1)).map encU) ∧ Below w.heap.size w W' := by
  obtain ⟨hU, hUe⟩ := uh_of C.held.wf
  have HUL : Hid (hU.length = hl.length) := by show _ = _; rw [← hUe]; simp
  have HUM : Hid (hU.map (fun x : UH => encU x.1.1) = (hl.map (·.1)).map encU) := by show _ = _; rw [← hUe]; simp
  obtain ⟨i0, hi, hz0, hz1, hz2⟩ := info_parts fidI
  have HC := hid C
  clear C
  refine callsIn_of_wp_marks Try.func14 rfl trivial ?_ rfl
  simp only [Try.ntmps14, List.size_toArray, List.length_cons, List.length_nil, Nat.reduceAdd, Nat.reduceSub, Array.replicate_succ, Array.replicate_zero, List.push_toArray, List.append_toArray, List.nil_append, List.cons_append]
  gi_wp2_with (refine ⟨trivial, ?_⟩; refine callsIn_wide.2 (sorted_ok ?_))
  have hA : Boxed ((w.alloc (.cells #[.slice none 0 0] 25)).alloc (.cells #[.pointer (some ⟨p, 0, none⟩)] 23)) w.heap.size 25 (.slice none 0 0) := alloc_keep (heap_alloc_new w _) _
  have hX : ((w.alloc (.cells #[.slice none 0 0] 25)).alloc (.cells #[.pointer (some ⟨p, 0, none⟩)] 23)).heap[w.heap.size + 1]? = some (.cells #[.pointer (some ⟨p, 0, none⟩)] 23 (0, 0)) := by
    have := heap_alloc_new (w.alloc (.cells #[.slice none 0 0] 25)) (.cells #[.pointer (some ⟨p, 0, none⟩)] 23)
    simpa only [World.size_alloc] using this
  have hB0 : Below w.heap.size w ((w.alloc (.cells #[.slice none 0 0] 25)).alloc (.cells #[.pointer (some ⟨p, 0, none⟩)] 23)) := (((Fr.refl No w).alloc _).alloc _).below
  have hsz : ((w.alloc (.cells #[.slice none 0 0] 25)).alloc (.cells #[.pointer (some ⟨p, 0, none⟩)] 23)).heap.size = w.heap.size + 2 := by simp
  obtain ⟨W0, hW0⟩ : ∃ W0, ((w.alloc (.cells #[.slice none 0 0] 25)).alloc (.cells #[.pointer (some ⟨p, 0, none⟩)] 23)) = W0 := ⟨_, rfl⟩
  rw [hW0] at hA hX hB0 hsz ⊢
  clear hW0
  have C0 := hid (HC.out.no (Fr.of_below hB0))
  have hlt0 := HC.out.lt
  refine wpIn_rangeFunc_ownG rfl (by decide) (gf := 55) (lb := #[.pointer (some ⟨w.heap.size + 1, 0, none⟩)]) rfl trivial (enters_of Try.func55 (by kernel_rfl) rfl)
    (sorted1K_stops (S := LS w.heap.size) (K := KpL w.heap.size) (KpL.refl _) KpL.trans (fun W1 W2 b o h hb ho hs => h.2.1 b o hb ho hs) 8 (by decide) (w.heap.size + 1) p hlen hUe W0 (fun W hW b hb => by
      have hc : W.cell? ⟨w.heap.size, 0, none⟩ = some (.slice none 0 0) := cell_at ((hW.block w.heap.size (by omega)).trans hA) rfl
      have h1 := hlt0 p (.inl rfl)
      have h2 := hlt0 bh (.inr (.inl rfl))
      rcases hb with rfl | ⟨g, n, cap, h, _⟩
      · omega
      · rw [hc] at h; cases h) hX C0.out) KpL.trans (fun W l o o' hl h hc hw => KpL.putObj o' (by omega) h hc hw) (Below.refl _ _) (fun _ => rfl)
    (fun (pre : List UH) W => (∃ v, Boxed W w.heap.size 25 v ∧ W.ownsRow w.heap.size 27 1 v pre.length (pre.map (fun x : UH => encU x.1.1))) ∧ Below w.heap.size w W)
    (fun _ _ _ => False)
    (OwnFrom.and (Own.from (fun s W W' row ⟨v, h1, h2⟩ hg hr => by
      have := (holdsRow_own w.heap.size w.heap.size 25 27 1 (fun pre : List UH => pre.length) (fun pre => pre.map (fun x : UH => encU x.1.1)) (fun _ _ => True)) s W W' row ⟨v, h1, h2, trivial⟩ hg hr
      obtain ⟨v', a, b, _⟩ := this
      exact ⟨v', a, b⟩) _) (ownFrom_below (Nat.le_refl _) (by omega)))
    (fun _ _ _ _ _ hs _ _ => hs)
    ⟨⟨_, hA, World.ownsRow_nil _ _ _ _⟩, hB0⟩
    (fun x => { tmps := #[.pointer (some ⟨p, 0, none⟩), undef, .slice none 0 0, .pointer (some ⟨w.heap.size, 0, none⟩), .int .u32 x.1.1, .pointer (some ⟨p, 0, none⟩), .func (.func 55) #[] #[.pointer (some ⟨w.heap.size + 1, 0, none⟩)], .int .u32 x.1.1, encH x.1.2, undef, undef, undef, undef, undef], defers := [] }) ?assign ?body ?done ?stop
  case assign =>
    rintro l ⟨⟨kx, u, d⟩, hwf⟩ W K hK
    gi_wp2
    exact hK
  case body =>
    rintro l pre ⟨⟨kx, u, d⟩, hwf⟩ W ⟨⟨v, hv, hrow⟩, hB⟩ hlt
    have hc := hv.cell
    have hsize := hB.size
    have hlt' : pre.length < 13 := by have := HUL.out; omega
    rcases own_at hrow with ⟨rfl, h0, _⟩ | ⟨g, cap, rfl, hg0, hgl, hown⟩
    · have hrow2 : W.ownsRow W.heap.size 27 1 (.slice none 0 0) pre.length (pre.map (fun x : UH => encU x.1.1)) := ⟨hrow.1, .inl ⟨rfl, h0⟩⟩
      clear h0
      gi_wp2_with (gi_at_builtin; refine wpListIn_append_own _ rfl _ _ 25 rfl W.heap.size 27 i0 (.int .u32 0) 1 4 fidsU hi hz0 hz1 hz2 rfl (by decide) _ _ _ rfl (hrow2.alloc _) ⟨W.heap.size, 0, none⟩ 1 1 [.int .u32 kx] rfl rfl (cell_one_new _ _ _) (by simp [Value.oneCell']) (by simp only [maxLen]; omega) (by omega) (by simp) ?_; intro v' w1 hown' hgrow _; obtain ⟨g', cap', rfl⟩ := ownsRow_succ hown'; obtain ⟨hv1, hv2, hr2, hk2, hb2⟩ := hv.appended (by decide) hrow hsize (Nat.le_refl _) (owns_low hown' hsize) hgrow; have hc1 := hv1.cell; have hf1 := hv1.frozen)
      have hg' : W.heap.size ≤ g' := by
        rcases own_at hown' with ⟨h, _⟩ | ⟨x, c, h, hx, _⟩
        · cases h
        · simp only [Value.slice.injEq, Option.some.injEq, Addr.mk.injEq] at h; omega
      exact ⟨hk2.from _, KpL.push hc hgrow ⟨_, hc1⟩ (.inl ⟨rfl, hg'⟩), ⟨⟨_, hv2, by simpa using hr2⟩, hB.trans hb2⟩⟩
    · gi_wp2_with (gi_at_builtin; refine wpListIn_append_own _ rfl _ _ 25 rfl g 27 i0 (.int .u32 0) 1 4 fidsU hi hz0 hz1 hz2 rfl (by decide) _ _ _ rfl (hown.alloc _) ⟨W.heap.size, 0, none⟩ 1 1 [.int .u32 kx] rfl rfl (cell_one_new _ _ _) (by simp [Value.oneCell']) (by simp only [maxLen]; omega) (by omega) (by simp; omega) ?_; intro v' w1 hown' hgrow _; obtain ⟨g', cap', rfl⟩ := ownsRow_succ hown'; obtain ⟨hv1, hv2, hr2, hk2, hb2⟩ := hv.appended (by decide) hrow hsize (Nat.le_refl _) (owns_low hown' hg0) hgrow; have hc1 := hv1.cell; have hf1 := hv1.frozen)
      have hg' : g ≤ g' := by
        rcases own_at hown' with ⟨h, _⟩ | ⟨x, c, h, hx, _⟩
        · cases h
        · simp only [Value.slice.injEq, Option.some.injEq, Addr.mk.injEq] at h; omega
      exact ⟨hk2.from _, KpL.push hc hgrow ⟨_, hc1⟩ (.inr ⟨g, _, _, rfl, hg'⟩), ⟨⟨_, hv2, by simpa using hr2⟩, hB.trans hb2⟩⟩
  case done =>
    rintro D zU W hD rfl ⟨⟨v, hv, hrow⟩, hB1⟩ hK
    have hc := hv.cell
    gi_wp2
    refine ⟨by simp, .inl ⟨_, _, rfl, run_takeDeferred hK, ?_⟩⟩
    refine ⟨_, results_tmp rfl _ _ _, v, rfl, ?_, hB1.trans (belowK_b (w := w) (Nat.le_refl _) W D _ _ (by omega) hK rfl rfl)⟩
    have := ownsRow_putObj hrow (.deferred none) hK rfl
    rw [HUL.out, HUM.out] at this
    exact this
  case stop =>
    rintro D c pre W _ _ h _
    exact h.elim

theorem list_ok {w : World} {p bh bd : Nat} {m k : Int} {hl : List (Int × (Int × Bool))} {dl : List (Int × Int)} {R : Ending → World → Prop} (hlen : hl.length ≤ 12) (C : CacheAt w p m k hl dl bh bd)
    (hR : ∀ v w', w'.ownsRow w.heap.size 27 1 v hl.length ((hl.map (·.1)).map encU) → Fr No w w' → R (.returned v) w') : Calls Try.prog 14 #[.pointer (some ⟨p, 0, none⟩)] w R := by
  refine (callsIn_wide (n := 9)).1 ((list_in hlen C).mono ?_)
  rintro e W' ⟨v, rfl, hr, hb⟩
  exact hR v W' hr (Fr.of_below hb)

end Go.Proofs.Ytokhbjllgaaogaa
