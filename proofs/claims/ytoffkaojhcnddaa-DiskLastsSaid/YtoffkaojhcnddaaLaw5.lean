/- The law DiskLasts. No condition beside that the deeds and the places lie there. -/
import Derived.Test.YtoffkaojhcnddaaLaw3
import Derived.Test.YtoffkaojhcnddaaLaw4
import Derived.Test.YtoffkaojhcnddaaOpen
namespace Go.Proofs.Ytoffkaojhcnddaa
set_option linter.unusedSimpArgs false
open Go.RowKit Go.Maps
attribute [local irreducible] wpQuiet wpAnyH

theorem lastsU : Try.prog.underlying 47 = some (.array 8 3) := by kernel_rfl
def Z8 : Array Value := Array.replicate 8 (.int .i64 0)
theorem zero8 (w : World) : (zeroValue 47).run Try.prog w = .ok (.agg Z8) w := by kernel_rfl
theorem fieldM1 (b m : Nat) (W : World) : (Instr.fieldAt 32 (.pointer (some ⟨b, m, none⟩)) 1).run Try.prog W = .ok (.pointer (some ⟨b, m + 1, none⟩)) W := by kernel_rfl
theorem fieldM2 (b m : Nat) (W : World) : (Instr.fieldAt 32 (.pointer (some ⟨b, m, none⟩)) 2).run Try.prog W = .ok (.pointer (some ⟨b, m + 2, none⟩)) W := by kernel_rfl

/-- What the law's row of last bytes says of the buffer. -/
def LW (lw : List (Int × Array Value)) (cs : Array Value) : Prop :=
  cs.size = 8 ∧ ∀ i : Nat, i < 8 → ∃ v : Int, cs[i]? = some (.int .i64 v) ∧ ((v = 0 ∧ aget lw i = none) ∨ ∃ c, 0 ≤ c ∧ c < 256 ∧ v = c + 1 ∧ aget lw i = some (secOf c))

theorem Fr.no2 {S : Nat → Prop} {a b w8 w10 : World} (h : Fr S a b) (h8 : Fr No b w8) (h10 : Fr No b w10) (cs : Array Value) : Fr S a (w10.setRow w8.heap.size cs) :=
  (h.no h10).setRow (.inr (Nat.le_trans h.size h8.size)) cs

theorem take_has {xs : List Int} {j : Nat} {y a : Int} (h : xs[j]? = some y) : (xs.take (j + 1)).contains a = ((xs.take j).contains a || (y == a)) := by
  rw [List.take_add_one, h]
  simp only [Option.toList_some, List.contains_eq_any_beq, List.any_append, List.any_cons, List.any_nil, Bool.or_false]
  rw [show (a == y) = (y == a) from BEq.comm]

theorem LW.zero : LW [] Z8 := ⟨by simp [Z8], fun i hi => ⟨0, by simp [Z8, hi], .inl ⟨rfl, rfl⟩⟩⟩
theorem LW.put {lw : List (Int × Array Value)} {cs : Array Value} (h : LW lw cs) {i : Nat} (hi : i < 8) {c : Int} (h0 : 0 ≤ c) (h1 : c < 256) : LW (aput lw i (secOf c)) (cs.setIfInBounds i (.int .i64 (c + 1))) := by
  refine ⟨by simp [h.1], fun j hj => ?_⟩
  by_cases hji : j = i
  · subst hji
    exact ⟨c + 1, by rw [Array.getElem?_setIfInBounds_self_of_lt (by rw [h.1]; exact hi)], .inr ⟨c, h0, h1, rfl, aget_put_same _ _ _⟩⟩
  · obtain ⟨v, h2, h3⟩ := h.2 j hj
    refine ⟨v, by rw [Array.getElem?_setIfInBounds_ne (by omega)]; exact h2, ?_⟩
    rw [aget_put_other _ _ (by omega)]
    exact h3

theorem wcode_in {n : Nat} {i : Int} (h : 0 ≤ i ∧ i < n) : wcode n i = 0 := if_pos h
theorem wcode_out {n : Nat} {i : Int} (h : ¬ (0 ≤ i ∧ i < n)) : wcode n i = 2 := if_neg h

def SL (p bs bm e b : Nat) : Prop := DiskS p bs bm b ∨ b = e

/-- The disk alone. -/
def One (w : World) (p n bs bm : Nat) (l : List (Int × Array Value)) (s : Nat → Array Value) : Prop := ∃ cap cs, DiskAt w p n cap cs l bs bm ∧ ∀ i, i < n → sec cs i = s i

section
variable {w : World} {p n bs bm : Nat} {l : List (Int × Array Value)} {s : Nat → Array Value} {R : Ending → World → Prop} {i g : Int} {c : Array Value}

theorem One.fr (O : One w p n bs bm l s) {S : Nat → Prop} {w' : World} (hf : Fr S w w') (hS : ∀ b, DiskS p bs bm b → ¬ S b) : One w' p n bs bm l s := by
  obtain ⟨cap, cs, H, h⟩ := O
  exact ⟨cap, cs, H.fr hf hS, h⟩
theorem One.no (O : One w p n bs bm l s) {w' : World} (hf : Fr No w w') : One w' p n bs bm l s := O.fr hf (fun _ _ h => h)
theorem One.is (O : One w p n bs bm l s) {i : Nat} (hi : i < n) : IsSec (val l s i) := by
  obtain ⟨cap, cs, H, h⟩ := O
  unfold val
  cases hg : aget l i with
  | none => show IsSec (s i); rw [← h i hi]; exact sec_is H.size H.byte hi
  | some c => exact H.vals _ (aget_some_mem hg)

theorem one_write (O : One w p n bs bm l s) (hc : IsSec c) (hg : wcode n i = g)
    (hR : ∀ w', One w' p n bs bm (wleft l n i c) s → Fr (DiskS p bs bm) w w' → R (.returned (.int .i64 g)) w') :
    Calls Try.prog 12 #[.pointer (some ⟨p, 0, none⟩), .int .i64 i, .agg c] w R := by
  subst hg
  unfold wcode wleft at hR
  obtain ⟨cap, cs, H, h⟩ := O
  split at hR
  · rename_i hi
    refine write_ok H hi.1 hi.2 hc fun w' H' hF => ?_
    exact hR w' ⟨cap, cs, H', h⟩ (hF.mono (fun b hb => .inr (.inr hb)))
  · exact write_no (cell_at H.head rfl) (by omega) fun w' hF => hR w' ⟨cap, cs, H.no hF, h⟩ hF.any

theorem one_crash (O : One w p n bs bm l s) {v : Value} {m : Nat} {xs : List Int} (hk : RowsAt (DiskS p bs bm) w v m 1 (ints xs)) (hm : m < 9223372036854775808)
    (hR : ∀ w', One w' p n bs bm [] (put l s (fun i => xs.contains i)) → Fr (DiskS p bs bm) w w' → R (.returned (.int .i64 0)) w') :
    Calls Try.prog 19 #[.pointer (some ⟨p, 0, none⟩), v] w R := by
  obtain ⟨cap, cs, H, h⟩ := O
  refine crash_ok H hm hk fun w' cs' hs H' hF => ?_
  exact hR w' ⟨cap, cs', H', fun i hi => by rw [hs i hi, h i hi]; rfl⟩ hF

theorem one_loose (O : One w p n bs bm l s) (hR : ∀ v w', RowsAt No w' v l.length 1 (ints (l.map (·.1))) → Fr No w w' → R (.returned v) w') :
    Calls Try.prog 18 #[.pointer (some ⟨p, 0, none⟩)] w R := by
  obtain ⟨cap, cs, H, _⟩ := O
  exact loose_ok H fun v w' h hf => hR v w' (h No (fun _ _ h => h)) hf

theorem one_read (O : One w p n bs bm l s) {i : Nat} (h1 : i < n)
    (hR : ∀ w', Fr No w w' → R (.returned (.tuple #[.agg (val l s i), .int .i64 0])) w') :
    Calls Try.prog 14 #[.pointer (some ⟨p, 0, none⟩), .int .i64 i] w R := by
  obtain ⟨cap, cs, H, h⟩ := O
  unfold val at hR
  cases hg : aget l i with
  | none => rw [hg] at hR; exact read_none H h1 hg (by rw [h i h1]; exact hR)
  | some c => rw [hg] at hR; exact read_some H h1 hg hR
end

theorem one_readV {w : World} {p n bs bm : Nat} {l : List (Int × Array Value)} {s : Nat → Array Value} {R : Ending → World → Prop} {c : Array Value} (O : One w p n bs bm l s) {i : Nat} (h1 : i < n) (hv : val l s i = c)
    (hR : ∀ w', Fr No w w' → R (.returned (.tuple #[.agg c, .int .i64 0])) w') :
    Calls Try.prog 14 #[.pointer (some ⟨p, 0, none⟩), .int .i64 i] w R := by
  subst hv
  exact one_read O h1 hR



set_option maxHeartbeats 16000000 in
set_option maxRecDepth 100000 in
theorem lasts_ok {w : World} {R : Ending → World → Prop} {v v2 v3 : Value} {ds ds2 : List Dd} {m : Nat} {xs : List Int} (D : Deeds w.heap.size w v ds) (D2 : Deeds w.heap.size w v2 ds2) (hks : RowsAt (Up w.heap.size) w v3 m 1 (ints xs)) (hm : m < 9223372036854775808) (hR : ∀ w', Fr No w w' → R (.returned (.bool true)) w') :
    Calls Try.prog 6 #[v, v2, v3] w R := by
  have HR := hid hR
  have HD := hid D
  have HD2 := hid D2
  have HKS := hid hks
  have HM := hid hm
  clear hR D D2 hks
  obtain ⟨_, da, dc, rfl, _⟩ := id HD.out.row
  obtain ⟨_, da2, dc2, rfl, _⟩ := id HD2.out.row
  obtain ⟨_, ka, kc, rfl, _⟩ := id HKS.out
  go_enter Try.func6, Try.ntmps6
  go_wp2_with (first
    | (go_at_call 9; refine play_ok (by decide) (by decide) HD.out (Nat.le_refl _) ?_; intro w1 p q n bs bm l s t1 hn hf; obtain rfl : n = 8 := (by omega); have T1 := hid t1; have F1 := hid hf; clear t1 hf hn)
    | (go_at_call 10; refine live_ok ?_; intro w2 hf; have T2 := hid (T1.out.no hf); have F2 := hid (F1.out.no hf); clear hf)
    | (go_at_call 16; refine two_flush T2.out ?_; intro w3 t hf; have T3 := hid t; have F3 : Hid (Fr (Up w.heap.size) w w3) := F2.out.trans hf (fun _ h => .inl (T2.out.lo _ h).1); clear t hf)
    | (go_at_call 20; obtain ⟨cap, cs, td, th⟩ := T3.out.d; have TH := hid th; refine fork_ok td T3.out.pos ?_; clear td th; intro w4 pf capf csf bsf bmf hd hz hp hs hm hf; have ND := hid hd; have NZ : Hid (∀ i, i < 8 → sec csf i = put l s (fun _ => true) i) := (fun i hi => (hz i hi).trans (TH.out i hi)); have NB : Hid (w3.heap.size ≤ pf ∧ w3.heap.size ≤ bsf ∧ w3.heap.size ≤ bmf) := ⟨hp, hs, hm⟩; have T4 := hid (T3.out.no hf); have F4 := hid (F3.out.no hf); have LT := hid (fun b hb => (T3.out.lo b hb).2); clear TH hd hz hp hs hm hf)
    | (refine wpList_allocRow rfl rfl (zero8 _) ?_))
  obtain ⟨w5, hw5⟩ : ∃ w5, w5 = w4.alloc (.cells Z8 47) := ⟨_, rfl⟩
  have A5 : Fr No w4 w5 := by rw [hw5]; exact (Fr.refl No _).alloc _
  have H11 : Hid (w5.heap[w4.heap.size]? = some (.cells Z8 47 (0, 0))) := by rw [hw5]; exact heap_alloc_new w4 _
  rw [← hw5]
  clear hw5
  have O5 : Hid (One w5 p 8 bs bm [] (put l s (fun _ => true))) := (T4.out.no A5).d
  have F5 := hid (F4.out.no A5)
  have P5 : Hid (One w5 pf 8 bsf bmf [] (put l s (fun _ => true))) := ⟨_, _, ND.out.no A5, NZ.out⟩
  have LO : Hid (∀ b, DiskS p bs bm b → w.heap.size ≤ b ∧ b < w4.heap.size) := fun b hb => T4.out.lo b (.inl hb)
  have N11 : Hid (¬ DiskS p bs bm w4.heap.size) := fun h => Nat.lt_irrefl _ (LO.out _ h).2
  have E11 : Hid (w.heap.size ≤ w4.heap.size) := F4.out.size
  have DJ : Hid (∀ b, DiskS pf bsf bmf b → ¬ SL p bs bm w4.heap.size b) := by
    have h1 := lt_of_heap ND.out.head
    have h2 := lt_of_heap ND.out.secs
    have h3 := ND.out.buf.lt
    have h4 := NB.out
    have h5 := LT.out
    intro b hb hs
    have hb' : w3.heap.size ≤ b ∧ b < w4.heap.size := by rcases hb with h | h | h <;> omega
    rcases hs with hs | hs
    · have := h5 b (.inl hs); omega
    · omega
  have SU : Hid (∀ b, SL p bs bm w4.heap.size b → Up w.heap.size b) := by
    rintro b (hb | hb)
    · exact (LO.out b hb).1
    · rw [hb]; exact E11.out
  clear A5 T4 F4 ND LT NB T3 F3 T2 F2 T1 F1
  go_loopw [12] (fun t12 wr => ∃ k lw cs, k ≤ ds2.length ∧ t12 = .int .i64 (k : Nat) ∧ Hid (One wr p 8 bs bm lw (put l s (fun _ => true)) ∧ wr.heap[w4.heap.size]? = some (.cells cs 47 (0, 0)) ∧ LW lw cs ∧ Fr (SL p bs bm w4.heap.size) w5 wr)) (fun t12 _ => ds2.length - (intOf t12).toNat)
  case atStart => exact ⟨0, [], Z8, Nat.zero_le _, rfl, O5.out, H11.out, LW.zero, Fr.refl _ _⟩
  case round =>
    obtain ⟨k, lw, cs, hk, rfl, ht⟩ := hrel
    rename World => wo
    have HT := hid ht.out.1
    have HC := hid ht.out.2.1
    have HL := hid ht.out.2.2.1
    have HF := hid ht.out.2.2.2
    have HFU : Hid (Fr (Up w.heap.size) w wo) := F5.out.trans HF.out (fun b hb => .inl (SU.out b hb))
    have hmost := HD2.out.most
    clear ht O5 H11
    have hcases : (k < ds2.length ∧ k < 40) ∨ ((k < ds2.length ∧ ¬ k < 40) ∨ ¬ k < ds2.length) := by omega
    rcases hcases with ⟨hlt, h40⟩ | hend
    · obtain ⟨d, hd⟩ : ∃ d, ds2[k]? = some d := ⟨ds2[k], List.getElem?_eq_getElem hlt⟩
      have D := HD2.out.up HFU.out
      obtain ⟨b, off, cap, e, hnb, hbl, hrow⟩ := deeds_row D hd
      simp only [Value.slice.injEq, true_and] at e
      obtain ⟨rfl, rfl⟩ := e
      obtain ⟨x0, x1, _, _⟩ := D.each _ (List.mem_of_getElem? hd)
      have HX := hid (secOf_is x0 x1)
      have HX0 := hid (And.intro x0 x1)
      have NBB : Hid (¬ SL p bs bm w4.heap.size b) := fun h => hnb (SU.out b h)
      have NBS : Hid (¬ DiskS p bs bm b) := fun h => hnb (SU.out b (.inl h))
      have HBL := hid hbl
      have Q1 : Hid (wo.cell? ⟨b, off + k * 4 + 1, none⟩ = some (.int .i64 d.a) ∧ wo.cell? ⟨b, off + k * 4 + 2, none⟩ = some (.int .u8 d.x)) := ⟨hrow 1 _ rfl, hrow 2 _ rfl⟩
      clear hrow D hd x0 x1 hnb hbl
      have hk0 : (0 : Int) ≤ k := by omega
      have hk1 : (k : Int) < ds2.length := by omega
      go_wp2
      obtain ⟨g, hg⟩ : ∃ g, wcode 8 d.a = g := ⟨_, rfl⟩
      have HG := hid hg
      clear hg
      refine region_held (n := 14) (fun W => b < W.heap.size ∧ W.cell? ⟨b, off + k * 4 + 1, none⟩ = some (.int .i64 d.a) ∧ W.cell? ⟨b, off + k * 4 + 2, none⟩ = some (.int .u8 d.x)) follows (by kernel_rfl) ?_
      have HS : (fun W : World => b < W.heap.size ∧ W.cell? ⟨b, off + k * 4 + 1, none⟩ = some (.int .i64 d.a) ∧ W.cell? ⟨b, off + k * 4 + 2, none⟩ = some (.int .u8 d.x)) wo.drew := ⟨HBL.out, Q1.out⟩
      (refine h_val 0 rfl (by kernel_rfl) (by kernel_rfl) (by kernel_rfl) (fun _ _ _ h => h) HS (by kernel_rfl) (fun W _ => run_move rfl rfl W) ?_; simp only [Act.put, Act.eval, Array.getD_eq_getD_getElem?, List.setIfInBounds_toArray, List.set_cons_succ, List.set_cons_zero, List.getElem?_toArray, List.getElem?_cons_succ, List.getElem?_cons_zero, Option.getD_some])
      (refine h_val 1 rfl (by kernel_rfl) (by kernel_rfl) (by kernel_rfl) (fun _ _ _ h => h) HS (by kernel_rfl) (fun W _ => run_move rfl rfl W) ?_; simp only [Act.put, Act.eval, Array.getD_eq_getD_getElem?, List.setIfInBounds_toArray, List.set_cons_succ, List.set_cons_zero, List.getElem?_toArray, List.getElem?_cons_succ, List.getElem?_cons_zero, Option.getD_some])
      (refine h_val 2 rfl (by kernel_rfl) (by kernel_rfl) (by kernel_rfl) (fun _ _ _ h => h) HS (by kernel_rfl) (fun W _ => run_move rfl rfl W) ?_; simp only [Act.put, Act.eval, Array.getD_eq_getD_getElem?, List.setIfInBounds_toArray, List.set_cons_succ, List.set_cons_zero, List.getElem?_toArray, List.getElem?_cons_succ, List.getElem?_cons_zero, Option.getD_some])
      (refine h_val (v := .pointer (some ⟨b, off + k * 4, none⟩)) 3 rfl (by kernel_rfl) (by kernel_rfl) (by kernel_rfl) (fun _ _ _ h => h) HS (by kernel_rfl) (fun W _ => run_index rfl rfl rfl (deedsU) (deedI) (hk0) (hk1) (by simp) W) ?_; simp only [Act.put, Act.eval, Array.getD_eq_getD_getElem?, List.setIfInBounds_toArray, List.set_cons_succ, List.set_cons_zero, List.getElem?_toArray, List.getElem?_cons_succ, List.getElem?_cons_zero, Option.getD_some])
      (refine h_val 4 rfl (by kernel_rfl) (by kernel_rfl) (by kernel_rfl) (fun _ _ _ h => h) HS (by kernel_rfl) (fun W _ => run_field rfl rfl (fieldM1 b (off + k * 4)) W) ?_; simp only [Act.put, Act.eval, Array.getD_eq_getD_getElem?, List.setIfInBounds_toArray, List.set_cons_succ, List.set_cons_zero, List.getElem?_toArray, List.getElem?_cons_succ, List.getElem?_cons_zero, Option.getD_some])
      (refine h_val (v := .int .i64 d.a) 5 rfl (by kernel_rfl) (by kernel_rfl) (by kernel_rfl) (fun _ _ _ h => h) HS (by kernel_rfl) (fun W hW => run_loadv rfl rfl (var_cell intU rfl hW.2.1)) ?_; simp only [Act.put, Act.eval, Array.getD_eq_getD_getElem?, List.setIfInBounds_toArray, List.set_cons_succ, List.set_cons_zero, List.getElem?_toArray, List.getElem?_cons_succ, List.getElem?_cons_zero, Option.getD_some])
      (refine h_val 6 rfl (by kernel_rfl) (by kernel_rfl) (by kernel_rfl) (fun _ _ _ h => h) HS (by kernel_rfl) (fun W _ => run_move rfl rfl W) ?_; simp only [Act.put, Act.eval, Array.getD_eq_getD_getElem?, List.setIfInBounds_toArray, List.set_cons_succ, List.set_cons_zero, List.getElem?_toArray, List.getElem?_cons_succ, List.getElem?_cons_zero, Option.getD_some])
      (refine h_val 7 rfl (by kernel_rfl) (by kernel_rfl) (by kernel_rfl) (fun _ _ _ h => h) HS (by kernel_rfl) (fun W _ => run_move rfl rfl W) ?_; simp only [Act.put, Act.eval, Array.getD_eq_getD_getElem?, List.setIfInBounds_toArray, List.set_cons_succ, List.set_cons_zero, List.getElem?_toArray, List.getElem?_cons_succ, List.getElem?_cons_zero, Option.getD_some])
      (refine h_val (v := .pointer (some ⟨b, off + k * 4, none⟩)) 8 rfl (by kernel_rfl) (by kernel_rfl) (by kernel_rfl) (fun _ _ _ h => h) HS (by kernel_rfl) (fun W _ => run_index rfl rfl rfl (deedsU) (deedI) (hk0) (hk1) (by simp) W) ?_; simp only [Act.put, Act.eval, Array.getD_eq_getD_getElem?, List.setIfInBounds_toArray, List.set_cons_succ, List.set_cons_zero, List.getElem?_toArray, List.getElem?_cons_succ, List.getElem?_cons_zero, Option.getD_some])
      (refine h_val 9 rfl (by kernel_rfl) (by kernel_rfl) (by kernel_rfl) (fun _ _ _ h => h) HS (by kernel_rfl) (fun W _ => run_field rfl rfl (fieldM2 b (off + k * 4)) W) ?_; simp only [Act.put, Act.eval, Array.getD_eq_getD_getElem?, List.setIfInBounds_toArray, List.set_cons_succ, List.set_cons_zero, List.getElem?_toArray, List.getElem?_cons_succ, List.getElem?_cons_zero, Option.getD_some])
      (refine h_val (v := .int .u8 d.x) 10 rfl (by kernel_rfl) (by kernel_rfl) (by kernel_rfl) (fun _ _ _ h => h) HS (by kernel_rfl) (fun W hW => run_loadv rfl rfl (var_cell byteU rfl hW.2.2)) ?_; simp only [Act.put, Act.eval, Array.getD_eq_getD_getElem?, List.setIfInBounds_toArray, List.set_cons_succ, List.set_cons_zero, List.getElem?_toArray, List.getElem?_cons_succ, List.getElem?_cons_zero, Option.getD_some])
      refine h_call (args := #[.int .u8 d.x]) 11 (by kernel_rfl) rfl (by kernel_rfl) (run_callf1 (g := 13) (v := .int .u8 d.x) (fun _ _ => by kernel_rfl) rfl rfl _) ?_
      refine sector_ok HX0.out.1 HX0.out.2 ?_
      intro w6 hf6
      have T6 := HT.out.no (((Fr.refl No _).drew).no hf6)
      have HC6 := hid (hf6.keep (w := wo.drew) HC.out (fun h => h))
      have HF6 := hid (HF.out.no (((Fr.refl No _).drew).no hf6))
      have HS1 := And.intro (Nat.lt_of_lt_of_le HS.1 hf6.size) (And.intro ((hf6.cell HS.1 (fun h => h)).trans HS.2.1) ((hf6.cell HS.1 (fun h => h)).trans HS.2.2))
      clear HS
      have HS := HS1
      refine ⟨HS, ?_⟩
      clear HS1
      simp only [Act.put, Act.eval, Array.getD_eq_getD_getElem?, List.setIfInBounds_toArray, List.set_cons_succ, List.set_cons_zero, List.getElem?_toArray, List.getElem?_cons_succ, List.getElem?_cons_zero, Option.getD_some]
      refine h_call (args := #[.pointer (some ⟨p, 0, none⟩), .int .i64 d.a, .agg (secOf d.x)]) 12 (by kernel_rfl) rfl (by kernel_rfl) (run_callf3 (g := 12) (v := .pointer (some ⟨p, 0, none⟩)) (z := .int .i64 d.a) (y := .agg (secOf d.x)) (fun _ _ => by kernel_rfl) rfl rfl rfl rfl _) ?_
      refine one_write T6 HX.out HG.out ?_
      intro w7 t7 hf7
      have T7 := hid t7
      have HC7 := hid (hf7.keep HC6.out N11.out)
      have HF7 : Hid (Fr (SL p bs bm w4.heap.size) w5 w7) := HF6.out.trans hf7 (fun _ h => .inl (.inl h))
      have HS1 := And.intro (Nat.lt_of_lt_of_le HS.1 hf7.size) (And.intro ((hf7.cell HS.1 NBS.out).trans HS.2.1) ((hf7.cell HS.1 NBS.out).trans HS.2.2))
      clear HS
      have HS := HS1
      refine ⟨HS, ?_⟩
      clear HS1
      simp only [Act.put, Act.eval, Array.getD_eq_getD_getElem?, List.setIfInBounds_toArray, List.set_cons_succ, List.set_cons_zero, List.getElem?_toArray, List.getElem?_cons_succ, List.getElem?_cons_zero, Option.getD_some]
      (refine h_val (v := .bool (g == 0)) 13 rfl (by kernel_rfl) (by kernel_rfl) (by kernel_rfl) (fun _ _ _ h => h) HS (by kernel_rfl) (fun W _ => run_bin rfl rfl rfl ((by kernel_rfl))) ?_; simp only [Act.put, Act.eval, Array.getD_eq_getD_getElem?, List.setIfInBounds_toArray, List.set_cons_succ, List.set_cons_zero, List.getElem?_toArray, List.getElem?_cons_succ, List.getElem?_cons_zero, Option.getD_some])
      refine h_done (by kernel_rfl) ?_
      have HS7 := hid HS
      clear HS T6 t7 hf6 hf7
      by_cases hin : 0 ≤ d.a ∧ d.a < 8
      · obtain rfl : g = 0 := by rw [← HG.out]; exact wcode_in hin
        obtain ⟨i, hi⟩ : ∃ i : Nat, d.a = i := ⟨d.a.toNat, by omega⟩
        rw [show ((0 : Int) == 0) = true from rfl]
        obtain ⟨u, hu⟩ : ∃ u, cs[i]? = some u := ⟨cs[i]'(by have := HL.out.1; omega), Array.getElem?_eq_getElem _⟩
        have q1 : w7.cell? ⟨b, off + k * 4 + 1, none⟩ = some (.int .i64 (i : Nat)) := by rw [HS7.out.2.1, hi]
        have q2 : w7.cell? ⟨b, off + k * 4 + 2, none⟩ = some (.int .u8 d.x) := HS7.out.2.2
        have q3 : w7.cell? ⟨w4.heap.size, i, none⟩ = some u := cell_at HC7.out hu
        have q4 : w7.frozen? ⟨w4.heap.size, i, none⟩ = false := by simp [World.frozen?, HC7.out]
        have hi0 : (0 : Int) ≤ i := by omega
        have hi1 : (i : Int) < 8 := by omega
        have hx0 := HX0.out.1
        have hx1 := HX0.out.2
        have HI := hid hi
        have HIN := hid hin
        clear hi hin hu
        go_wp2
        refine wp_tail 12 follows (by kernel_rfl) ?_
        simp only [List.take_succ_cons, List.take_zero, List.drop_succ_cons, List.drop_zero]
        repeat still_step
        refine wpStill_nil ?_
        go_wp2
        go_roundw
        case rel =>
          refine ⟨k + 1, aput lw i (secOf d.x), cs.setIfInBounds i (.int .i64 (d.x + 1)), by omega, by go_num, ?_, heap_set HC7.out _, HL.out.put (by omega) HX0.out.1 HX0.out.2, (HF7.out.setCell (.inl (.inr rfl)) _).drew⟩
          have h1 := T7.out
          rw [HI.out, show wleft lw 8 (i : Int) (secOf d.x) = aput lw i (secOf d.x) from if_pos ⟨hi0, hi1⟩] at h1
          exact h1.fr (((Fr.refl (fun b => b = w4.heap.size) w7).setCell (.inl rfl) _).drew) (fun b hb h => N11.out (h ▸ hb))
        case measure => simp [intOf]; omega
      · obtain rfl : g = 2 := by rw [← HG.out]; exact wcode_out hin
        rw [show ((2 : Int) == 0) = false from rfl]
        go_wp2
        go_roundw
        case rel => exact ⟨k + 1, lw, cs, by omega, by go_num, by have := T7.out; rwa [wleft_out hin] at this, HC7.out, HL.out, HF7.out⟩
        case measure => simp [intOf]; omega
    · rcases hend with ⟨hlt, h40⟩ | hlt
      all_goals
        go_wp2_with (first
          | (go_at_call 19; refine one_crash HT.out ((HKS.out.fr HFU.out (fun _ h => h)).mono (fun b _ hb => (LO.out b hb).1)) HM.out ?_; intro w6 t hf; have O6 := hid t; have C6 := hid (hf.keep HC.out N11.out); have F6 : Hid (Fr (Up w.heap.size) w w6) := HFU.out.trans hf (fun b hb => .inl (LO.out b hb).1); have P6 := hid ((P5.out.fr HF.out DJ.out).fr hf (fun b hb h => DJ.out b hb (.inl h))); clear t hf)
          | (go_at_call 18; refine one_loose O6.out ?_; intro vl w7 hr hf; obtain ⟨_, la, lc, rfl, _⟩ := hr; simp only [List.length_nil]; have O7 := hid (O6.out.no hf); have C7 := hid (hf.keep C6.out (fun h => h)); have F7 := hid (F6.out.no hf); have P7 := hid (P6.out.no hf); clear hf))
        go_loopw [13] (fun t13 wr => ∃ i : Nat, i ≤ 8 ∧ t13 = .int .i64 (i : Nat) ∧ Hid (Fr No w7 wr)) (fun t13 _ => 8 - (intOf t13).toNat)
        case atStart => exact ⟨0, by omega, rfl, Fr.refl _ _⟩
        case round =>
          obtain ⟨i, hi, rfl, hf⟩ := hrel
          rename World => wp
          have G := hid hf.out
          clear hf
          by_cases h8 : i < 8
          · go_wp2
            go_loopw [14, 15] (fun t14 t15 wr => ∃ (j : Nat) (cb : Bool), j ≤ m ∧ t14 = .bool cb ∧ t15 = .int .i64 (j : Nat) ∧ Hid (cb = (xs.take j).contains (i : Int)) ∧ Hid (Fr No w7 wr)) (fun _ t15 _ => m - (intOf t15).toNat)
            case atStart => exact ⟨0, false, by omega, rfl, rfl, by show _ = _; simp, G.out⟩
            case round =>
              obtain ⟨j, cb, hj, rfl, rfl, hcb, hf⟩ := hrel
              rename World => wq
              have HCB := hid hcb.out
              have HQ := hid hf.out
              clear hcb hf
              by_cases hjm : j < m
              · obtain ⟨y, hy⟩ : ∃ y, xs[j]? = some y := ⟨xs[j]'(by have := HKS.out.1; simp at this; omega), List.getElem?_eq_getElem _⟩
                have HY := hid hy
                obtain ⟨_, ka', kc', e, hrow⟩ := HKS.out.fr (F7.out.no HQ.out) (fun _ h => h)
                simp only [Value.slice.injEq] at e
                obtain ⟨rfl, _, rfl⟩ := e
                rcases hrow with h0 | ⟨kb, ko, rfl, _, _, hcell⟩
                · omega
                have q1 : wq.cell? ⟨kb, ko + j * 1, none⟩ = some (.int .i64 y) := by rw [Nat.mul_one]; exact hcell j _ (by simp [hy])
                have q2 : wq.cell? ⟨kb, ko + j, none⟩ = some (.int .i64 y) := hcell j _ (by simp [hy])
                have hj0 : (0 : Int) ≤ j := by omega
                have hj1 : (j : Int) < m := by omega
                clear hcell hy
                cases cb with
                | true =>
                  go_wp2
                  go_roundw
                  case rel => exact ⟨j + 1, true, by omega, rfl, by go_num, by show _ = _; rw [take_has HY.out, ← HCB.out]; rfl, HQ.out⟩
                  case measure => simp [intOf]; omega
                | false =>
                  go_wp2
                  go_roundw
                  case rel => exact ⟨j + 1, _, by omega, rfl, by go_num, by show _ = _; rw [take_has HY.out, ← HCB.out]; simp, HQ.out⟩
                  case measure => simp [intOf]; omega
              · obtain rfl : j = m := by omega
                have HX : Hid (cb = xs.contains (i : Int)) := by
                  have := HCB.out
                  rwa [List.take_of_length_le (by have := HKS.out.1; simp at this; omega)] at this
                have O8 := hid (O7.out.no HQ.out)
                have P8 := hid (P7.out.no HQ.out)
                have C8 := hid (HQ.out.keep C7.out (fun h => h))
                obtain ⟨c0, hc0⟩ : ∃ c0, val [] (put l s (fun _ => true)) i = c0 := ⟨_, rfl⟩
                have HC0 := hid hc0
                have HI0 : Hid (IsSec c0) := by rw [← hc0]; exact P8.out.is h8
                obtain ⟨u, hu, hcase⟩ := HL.out.2 i h8
                have HQ3 : Hid (∀ W, Fr No wq W → W.cell? ⟨w4.heap.size, i, none⟩ = some (.int .i64 u)) := fun W h => cell_at (h.keep C8.out (fun h => h)) hu
                have hi0 : (0 : Int) ≤ i := by omega
                have hi1 : (i : Int) < 8 := by omega
                have H8 := hid h8
                have hz0 : Hid (Z32.size = c0.size) := by show _ = _; rw [HI0.out.1]; exact Z32_is.1
                have hmain : (val [] (put lw (put l s (fun _ => true)) (fun i => xs.contains i)) i = c0 ∧ (cb = false ∨ (cb = true ∧ u = 0))) ∨ (∃ c, 0 ≤ c ∧ c < 256 ∧ u = c + 1 ∧ cb = true ∧ val [] (put lw (put l s (fun _ => true)) (fun i => xs.contains i)) i = secOf c) := by
                  have hs0 : put l s (fun _ => true) i = c0 := HC0.out
                  have e0 : val [] (put lw (put l s (fun _ => true)) (fun i => xs.contains i)) i = if xs.contains (i : Int) = true then val lw (put l s (fun _ => true)) i else put l s (fun _ => true) i := rfl
                  rw [e0, ← HX.out]
                  cases cb with
                  | false => exact .inl ⟨hs0, .inl rfl⟩
                  | true =>
                    rcases hcase with ⟨h0, hn⟩ | ⟨c, h0, h1, h2, h3⟩
                    · exact .inl ⟨by simp [val, hn, hs0], .inr ⟨rfl, h0⟩⟩
                    · exact .inr ⟨c, h0, h1, h2, rfl, by simp [val, h3]⟩
                clear hu hcase hc0 h8
                rcases hmain with ⟨e2, hc⟩ | ⟨c, hx0, hx1, rfl, rfl, e2⟩
                · have E2 := hid e2
                  clear e2
                  rcases hc with rfl | ⟨rfl, rfl⟩
                  all_goals
                    go_wp2_with (first
                      | (go_at_call 14; refine one_readV P8.out H8.out HC0.out ?_; intro w8 hf; have G8 := hid hf; clear hf P8)
                      | (refine wpList_allocRow rfl rfl (zeroSec _) ?_)
                      | (refine wpList_storeNew (x := .tmp 16) rfl rfl rfl rfl (heap_alloc_new _ _) HI0.out.info hz0.out HI0.out.one (World.setRow_alloc_new _ _ _ _) ?_)
                      | (go_at_call 14; refine one_readV (O8.out.no (G8.out.alloc _)) H8.out E2.out ?_; intro w9 hf; have B16 := hid (hf.keep (heap_alloc_new w8 (.cells c0 36)) (fun h => h)); have G9 := hid ((G8.out.alloc (.cells c0 36)).no hf); clear hf)
                      | (refine wpList_storeNew (x := .tmp 18) rfl rfl rfl rfl (heap_alloc_new _ _) HI0.out.info hz0.out HI0.out.one (World.setRow_alloc_new _ _ _ _) ?_; have G10 := hid (G9.out.alloc (.cells c0 36)); have q3 := HQ3.out _ G10.out; have B18 := hid (heap_alloc_new w9 (.cells c0 36)); have B16b := hid (alloc_keep B16.out (.cells c0 36)))
                      | (refine wpList_loadVarG (x := .tmp 16) (by kernel_rfl) rfl rfl (var_row B16b.out sectorU HI0.out.info) ?_)
                      | (refine wpList_loadVarG (x := .tmp 18) (by kernel_rfl) rfl rfl (var_row B18.out sectorU HI0.out.info) ?_)
                      | (refine wpList_okG (by kernel_rfl) (run_cmp_ints rfl rfl rfl noGuard (neqSec HI0.out HI0.out (r := true) (by simp) _)) ?_))
                    go_roundw
                    case rel => exact ⟨i + 1, by have := H8.out; omega, by go_num, HQ.out.no G10.out⟩
                    case measure => have := H8.out; simp [intOf]; omega
                · have E2 := hid e2
                  have HS := hid (secOf_is hx0 hx1)
                  clear e2
                  have HX01 := hid (And.intro hx0 hx1)
                  have hv0 : (0 : Int) < c + 1 := by omega
                  have hz1 : Hid (Z32.size = (secOf c).size) := by show _ = _; rw [HS.out.1]; exact Z32_is.1
                  have hz2 : Hid (c0.size = (secOf c).size) := by show _ = _; rw [HS.out.1]; exact HI0.out.1
                  go_wp2_with (first
                    | (go_at_call 14; refine one_readV P8.out H8.out HC0.out ?_; intro w8 hf; have G8 := hid hf; clear hf P8)
                    | (refine wpList_allocRow rfl rfl (zeroSec _) ?_)
                    | (refine wpList_storeNew (x := .tmp 16) rfl rfl rfl rfl (heap_alloc_new _ _) HI0.out.info hz0.out HI0.out.one (World.setRow_alloc_new _ _ _ _) ?_)
                    | (go_at_call 14; refine one_readV (O8.out.no (G8.out.alloc _)) H8.out E2.out ?_; intro w9 hf; have B16 := hid (hf.keep (heap_alloc_new w8 (.cells c0 36)) (fun h => h)); have G9 := hid ((G8.out.alloc (.cells c0 36)).no hf); clear hf)
                    | (refine wpList_storeNew (x := .tmp 18) rfl rfl rfl rfl (heap_alloc_new _ _) HS.out.info hz1.out HS.out.one (World.setRow_alloc_new _ _ _ _) ?_; have G10 := hid (G9.out.alloc (.cells (secOf c) 36)); have q3 := HQ3.out _ G10.out; have B18 := hid (heap_alloc_new w9 (.cells (secOf c) 36)); have NE : Hid (w9.heap.size ≠ w8.heap.size) := (fun h => Nat.lt_irrefl _ (h ▸ lt_of_heap B16.out)); have B16b := hid (alloc_keep B16.out (.cells (secOf c) 36)))
                    | (go_at_call 13; refine sector_ok HX01.out.1 HX01.out.2 ?_; intro w10 hf; have B16c := hid (hf.keep B16b.out (fun h => h)); have B18c := hid (hf.keep B18.out (fun h => h)); have G11 := hid (G10.out.no hf); clear hf B16 B16b B18)
                    | (refine wpList_storeNew (x := .tmp 16) rfl rfl rfl rfl B16c.out HS.out.info hz2.out HS.out.one rfl ?_; have B16d := hid (setRow_heap w10 _ _ (secOf c) _ _ B16c.out); have B18d := hid (setRow_keep B18c.out w8.heap.size (secOf c) NE.out); have G12 : Hid (Fr No w7 (w10.setRow w8.heap.size (secOf c))) := HQ.out.no2 G8.out G11.out (secOf c))
                    | (refine wpList_loadVarG (x := .tmp 16) (by kernel_rfl) rfl rfl (var_row B16d.out sectorU HS.out.info) ?_)
                    | (refine wpList_loadVarG (x := .tmp 18) (by kernel_rfl) rfl rfl (var_row B18d.out sectorU HS.out.info) ?_)
                    | (refine wpList_okG (by kernel_rfl) (run_cmp_ints rfl rfl rfl noGuard (neqSec HS.out HS.out (r := true) (by simp) _)) ?_))
                  go_roundw
                  case rel => exact ⟨i + 1, by have := H8.out; omega, by go_num, G12.out⟩
                  case measure => have := H8.out; simp [intOf]; omega
          · obtain rfl : i = 8 := by omega
            go_wp2
            exact HR.out _ (F7.out.no G.out).up

end Go.Proofs.Ytoffkaojhcnddaa
