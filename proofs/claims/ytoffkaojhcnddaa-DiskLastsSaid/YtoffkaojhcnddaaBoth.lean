/- The disk and the reference's disk side by side. No condition beside that both lie there. -/
import Derived.Test.YtoffkaojhcnddaaDisk5
namespace Go.Proofs.Ytoffkaojhcnddaa
set_option linter.unusedSimpArgs false
open Go.RowKit Go.Maps

/-- What a sector holds: the buffer's word, else the disk's. -/
def val (l : List (Int × Array Value)) (s : Nat → Array Value) (i : Nat) : Array Value := (aget l i).getD (s i)
/-- What lies on the disk when the sectors that f picks are written out. -/
def put (l : List (Int × Array Value)) (s : Nat → Array Value) (f : Int → Bool) (i : Nat) : Array Value := if f i = true then val l s i else s i

def SS (p bs bm q : Nat) (b : Nat) : Prop := DiskS p bs bm b ∨ b = q

structure Two (B : Nat) (w : World) (p q n bs bm : Nat) (l : List (Int × Array Value)) (s : Nat → Array Value) (l2 : List (Int × Array Value)) (s2 : Nat → Array Value) : Prop where
  d : ∃ cap cs, DiskAt w p n cap cs l bs bm ∧ ∀ i, i < n → sec cs i = s i
  r : ∃ cap cs bs' bv, RefAt (SS p bs bm q) w q n cap cs l2 bs' bv ∧ ∀ i, i < n → sec cs i = s2 i
  ne : ¬ DiskS p bs bm q
  lo : ∀ b, SS p bs bm q b → B ≤ b ∧ b < w.heap.size
  pos : 1 ≤ n

variable {B : Nat} {w : World} {p q n bs bm : Nat} {l l2 : List (Int × Array Value)} {s s2 : Nat → Array Value} {R : Ending → World → Prop} {i : Int} {c : Array Value}

theorem Two.head (T : Two B w p q n bs bm l s l2 s2) : ∃ cap, w.cell? ⟨p, 0, none⟩ = some (.slice (some ⟨bs, 0, none⟩) n cap) := by
  obtain ⟨cap, cs, H, _⟩ := T.d
  exact ⟨cap, cell_at H.head rfl⟩
theorem Two.headR (T : Two B w p q n bs bm l s l2 s2) : ∃ bs' cap, w.cell? ⟨q, 0, none⟩ = some (.slice (some ⟨bs', 0, none⟩) n cap) := by
  obtain ⟨cap, cs, bs', bv, H, _⟩ := T.r
  exact ⟨bs', cap, cell_at H.head rfl⟩
theorem Two.most (T : Two B w p q n bs bm l s l2 s2) : n ≤ 2048 := by
  obtain ⟨cap, cs, H, _⟩ := T.d
  exact H.most
theorem Two.secs (T : Two B w p q n bs bm l s l2 s2) {i : Nat} (hi : i < n) : IsSec (s i) := by
  obtain ⟨cap, cs, H, h⟩ := T.d
  rw [← h i hi]; exact sec_is H.size H.byte hi

theorem Two.disk (T : Two B w p q n bs bm l s l2 s2) {w' : World} {l' : List (Int × Array Value)} {s' : Nat → Array Value} (hd : ∃ cap cs, DiskAt w' p n cap cs l' bs bm ∧ ∀ i, i < n → sec cs i = s' i) (hF : Fr (DiskS p bs bm) w w') : Two B w' p q n bs bm l' s' l2 s2 := by
  obtain ⟨cap, cs, bs', bv, H, h⟩ := T.r
  exact ⟨hd, ⟨cap, cs, bs', bv, H.fr hF (fun b hb => .inl hb) T.ne, h⟩, T.ne, fun b hb => ⟨(T.lo b hb).1, Nat.lt_of_lt_of_le (T.lo b hb).2 hF.size⟩, T.pos⟩
theorem Two.ref (T : Two B w p q n bs bm l s l2 s2) {w' : World} {l' : List (Int × Array Value)} {s' : Nat → Array Value} (hr : ∃ cap cs bs' bv, RefAt (SS p bs bm q) w' q n cap cs l' bs' bv ∧ ∀ i, i < n → sec cs i = s' i) (hF : Fr (fun b => b = q) w w') : Two B w' p q n bs bm l s l' s' := by
  obtain ⟨cap, cs, H, h⟩ := T.d
  exact ⟨⟨cap, cs, H.fr hF (fun b hb e => T.ne (e ▸ hb)), h⟩, hr, T.ne, fun b hb => ⟨(T.lo b hb).1, Nat.lt_of_lt_of_le (T.lo b hb).2 hF.size⟩, T.pos⟩
theorem Two.no (T : Two B w p q n bs bm l s l2 s2) {w' : World} (hF : Fr No w w') : Two B w' p q n bs bm l s l2 s2 := by
  obtain ⟨cap, cs, H, h⟩ := T.d
  exact T.disk ⟨cap, cs, H.no hF, h⟩ hF.any

/-- The blocks from B on. -/
def Up (B : Nat) (b : Nat) : Prop := B ≤ b
theorem Two.upD (_T : Two B w p q n bs bm l s l2 s2) {w' : World} (hF : Fr (DiskS p bs bm) w w') : Fr (SS p bs bm q) w w' := hF.mono (fun _ hb => .inl hb)
theorem Two.upR (_T : Two B w p q n bs bm l s l2 s2) {w' : World} (hF : Fr (fun b => b = q) w w') : Fr (SS p bs bm q) w w' := hF.mono (fun _ hb => .inr hb)
theorem Two.keep (T : Two B w p q n bs bm l s l2 s2) {w' : World} (hF : Fr (SS p bs bm q) w w') {v : Value} {m sz : Nat} {xs : List Value} (h : RowsAt (Up B) w v m sz xs) : RowsAt (Up B) w' v m sz xs := h.fr hF (fun b hb => (T.lo b hb).1)

theorem two_write (T : Two B w p q n bs bm l s l2 s2) (h0 : 0 ≤ i) (h1 : i < n) (hc : IsSec c)
    (hR : ∀ w', Two B w' p q n bs bm (aput l i c) s l2 s2 → Fr (SS p bs bm q) w w' → R (.returned (.int .i64 0)) w') :
    Calls Try.prog 12 #[.pointer (some ⟨p, 0, none⟩), .int .i64 i, .agg c] w R := by
  obtain ⟨cap, cs, H, h⟩ := T.d
  refine write_ok H h0 h1 hc fun w' H' hF => ?_
  have hF' : Fr (DiskS p bs bm) w w' := hF.mono (fun b hb => .inr (.inr hb))
  exact hR w' (T.disk ⟨cap, cs, H', h⟩ hF') (T.upD hF')

theorem two_writeR (T : Two B w p q n bs bm l s l2 s2) (h0 : 0 ≤ i) (h1 : i < n) (hc : IsSec c)
    (hR : ∀ w', Two B w' p q n bs bm l s (aput l2 i c) s2 → Fr (SS p bs bm q) w w' → R (.returned (.int .i64 0)) w') :
    Calls Try.prog 15 #[.pointer (some ⟨q, 0, none⟩), .int .i64 i, .agg c] w R := by
  obtain ⟨cap, cs, bs', bv, H, h⟩ := T.r
  obtain ⟨i, rfl⟩ : ∃ j : Nat, i = j := ⟨i.toNat, by omega⟩
  refine rwrite_ok H hc (by omega) (fun b hb => (T.lo b hb).2) fun w' bv' H' hF => ?_
  exact hR w' (T.ref ⟨cap, cs, bs', bv', H', h⟩ hF) (T.upR hF)

/-- What Write answers; what it leaves in the buffer. -/
def wcode (n : Nat) (i : Int) : Int := if 0 ≤ i ∧ i < n then 0 else 2
def wleft (l : List (Int × Array Value)) (n : Nat) (i : Int) (c : Array Value) : List (Int × Array Value) := if 0 ≤ i ∧ i < n then aput l i c else l

theorem two_write' (T : Two B w p q n bs bm l s l2 s2) (hc : IsSec c)
    (hR : ∀ w', Two B w' p q n bs bm (wleft l n i c) s l2 s2 → Fr (SS p bs bm q) w w' → R (.returned (.int .i64 (wcode n i))) w') :
    Calls Try.prog 12 #[.pointer (some ⟨p, 0, none⟩), .int .i64 i, .agg c] w R := by
  unfold wcode wleft at hR
  split at hR
  · rename_i h
    exact two_write T h.1 h.2 hc hR
  · obtain ⟨cap, h0⟩ := T.head
    exact write_no h0 (by omega) fun w' hF => hR w' (T.no hF) hF.any
theorem two_writeR' (T : Two B w p q n bs bm l s l2 s2) (hc : IsSec c)
    (hR : ∀ w', Two B w' p q n bs bm l s (wleft l2 n i c) s2 → Fr (SS p bs bm q) w w' → R (.returned (.int .i64 (wcode n i))) w') :
    Calls Try.prog 15 #[.pointer (some ⟨q, 0, none⟩), .int .i64 i, .agg c] w R := by
  unfold wcode wleft at hR
  split at hR
  · rename_i h
    exact two_writeR T h.1 h.2 hc hR
  · obtain ⟨bs', cap, h0⟩ := T.headR
    exact rwrite_no h0 (by omega) fun w' hF => hR w' (T.no hF) hF.any

theorem two_flush (T : Two B w p q n bs bm l s l2 s2)
    (hR : ∀ w', Two B w' p q n bs bm [] (put l s (fun _ => true)) l2 s2 → Fr (SS p bs bm q) w w' → R (.returned (.int .i64 0)) w') :
    Calls Try.prog 16 #[.pointer (some ⟨p, 0, none⟩)] w R := by
  obtain ⟨cap, cs, H, h⟩ := T.d
  refine flush_ok H fun w' cs' hs H' hF => ?_
  exact hR w' (T.disk ⟨cap, cs', H', fun i hi => by rw [hs i hi, h i hi]; rfl⟩ hF) (T.upD hF)

theorem two_flushR (T : Two B w p q n bs bm l s l2 s2)
    (hR : ∀ w', Two B w' p q n bs bm l s [] (put l2 s2 (fun _ => true)) → Fr (SS p bs bm q) w w' → R (.returned (.int .i64 0)) w') :
    Calls Try.prog 17 #[.pointer (some ⟨q, 0, none⟩)] w R := by
  obtain ⟨cap, cs, bs', bv, H, h⟩ := T.r
  refine rflush_ok H (fun b hb => (T.lo b hb).2) fun w' cap' cs' bs'' hs H' hF => ?_
  exact hR w' (T.ref ⟨cap', cs', bs'', _, H', fun i hi => by rw [hs i hi, h i hi]; rfl⟩ hF) (T.upR hF)

theorem two_crash (T : Two B w p q n bs bm l s l2 s2) {v : Value} {m : Nat} {xs : List Int} (hk : RowsAt (SS p bs bm q) w v m 1 (ints xs)) (hm : m < 9223372036854775808)
    (hR : ∀ w', Two B w' p q n bs bm [] (put l s (fun i => xs.contains i)) l2 s2 → Fr (SS p bs bm q) w w' → R (.returned (.int .i64 0)) w') :
    Calls Try.prog 19 #[.pointer (some ⟨p, 0, none⟩), v] w R := by
  obtain ⟨cap, cs, H, h⟩ := T.d
  refine crash_ok H hm (hk.mono fun b _ hb => .inl hb) fun w' cs' hs H' hF => ?_
  exact hR w' (T.disk ⟨cap, cs', H', fun i hi => by rw [hs i hi, h i hi]; rfl⟩ hF) (T.upD hF)

theorem two_crashR (T : Two B w p q n bs bm l s l2 s2) {v : Value} {m : Nat} {xs : List Int} (hk : RowsAt (SS p bs bm q) w v m 1 (ints xs)) (hm : m < 9223372036854775808)
    (hR : ∀ w', Two B w' p q n bs bm l s [] (put l2 s2 (fun i => xs.contains i)) → Fr (SS p bs bm q) w w' → R (.returned (.int .i64 0)) w') :
    Calls Try.prog 40 #[.pointer (some ⟨q, 0, none⟩), v] w R := by
  obtain ⟨cap, cs, bs', bv, H, h⟩ := T.r
  refine rcrash_ok H hk hm (fun b hb => (T.lo b hb).2) fun w' cap' cs' bs'' hs H' hF => ?_
  exact hR w' (T.ref ⟨cap', cs', bs'', _, H', fun i hi => by rw [hs i hi, h i hi]; rfl⟩ hF) (T.upR hF)

theorem two_read (T : Two B w p q n bs bm l s l2 s2) {i : Nat} (h1 : i < n)
    (hR : ∀ w', Fr No w w' → R (.returned (.tuple #[.agg (val l s i), .int .i64 0])) w') :
    Calls Try.prog 14 #[.pointer (some ⟨p, 0, none⟩), .int .i64 i] w R := by
  obtain ⟨cap, cs, H, h⟩ := T.d
  unfold val at hR
  cases hg : aget l i with
  | none => rw [hg] at hR; exact read_none H h1 hg (by rw [h i h1]; exact hR)
  | some c => rw [hg] at hR; exact read_some H h1 hg hR

theorem two_readR (T : Two B w p q n bs bm l s l2 s2) {i : Nat} (h1 : i < n)
    (hR : ∀ w', Fr No w w' → R (.returned (.tuple #[.agg (val l2 s2 i), .int .i64 0])) w') :
    Calls Try.prog 27 #[.pointer (some ⟨q, 0, none⟩), .int .i64 i] w R := by
  obtain ⟨cap, cs, bs', bv, H, h⟩ := T.r
  unfold val at hR
  cases hg : aget l2 i with
  | none => rw [hg] at hR; exact rread_none H h1 hg (by rw [h i h1]; exact hR)
  | some c => rw [hg] at hR; exact rread_some H h1 hg hR

theorem Two.val_is (T : Two B w p q n bs bm l s l2 s2) {i : Nat} (hi : i < n) : IsSec (val l s i) := by
  unfold val
  obtain ⟨cap, cs, H, h⟩ := T.d
  cases hg : aget l i with
  | none => exact T.secs hi
  | some c => exact H.vals _ (aget_some_mem hg)

end Go.Proofs.Ytoffkaojhcnddaa
