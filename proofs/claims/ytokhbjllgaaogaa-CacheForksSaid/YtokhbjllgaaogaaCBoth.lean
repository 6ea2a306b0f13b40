/- Both caches, the program's and the document's: how they lie beside each other; each deed on both. No condition beside that both lie there. -/
import Derived.Test.YtokhbjllgaaogaaCEqv2
import Derived.Test.YtokhbjllgaaogaaCHoard
import Derived.Test.YtokhbjllgaaogaaCLive
namespace Go.Proofs.Ytokhbjllgaaogaa
set_option linter.unusedSimpArgs false
open Go.RowKit Go.Maps

/-- The blocks that a deed on both may turn. -/
def SB (B p bh bd b : Nat) : Prop := CacheS p bh bd b ∨ B ≤ b
def SX (p bh bd q : Nat) (vl : Value) (b : Nat) : Prop := CacheS p bh bd b ∨ RefS q vl b

structure TwoC (B : Nat) (w : World) (p q : Nat) (n : Int) (t : Nat) (l : List (Int × Bool)) (dh : List (Int × Int)) (hl : HL) (dl : List (Int × Int)) (k : Int) (bh bd : Nat) (vl vh : Value) : Prop where
  c : CacheAt w p n k hl dl bh bd
  r : RefC B w q n l dh vl vh
  e : Eqv n l dh hl dl k
  lo : ∀ b, CacheS p bh bd b → b < B
  n1 : 1 ≤ n
  n10 : n ≤ 10
  k0 : 0 ≤ k
  kt : k ≤ t

section
variable {B p q bh bd t : Nat} {w w1 w2 w' : World} {n k f u y : Int} {d x : Bool} {l l1 l2 : List (Int × Bool)} {dh dl : List (Int × Int)} {hl hl' : HL} {vl vh : Value} {R : Ending → World → Prop}

theorem TwoC.len (T : TwoC B w p q n t l dh hl dl k bh bd vl vh) : l.length ≤ 10 := by have := T.e.few; have := T.n10; omega
theorem TwoC.hlen (T : TwoC B w p q n t l dh hl dl k bh bd vl vh) : hl.length ≤ 12 := by have := T.e.len; have := T.len; omega
theorem TwoC.fr (T : TwoC B w p q n t l dh hl dl k bh bd vl vh) {S : Nat → Prop} (hf : Fr S w w') (hS : ∀ b, S b → ¬ SB B p bh bd b ∨ w.heap.size ≤ b) : TwoC B w' p q n t l dh hl dl k bh bd vl vh :=
  ⟨T.c.fr hf (fun b hb h => by rcases hS b h with h1 | h1 <;> first | (exact h1 (.inl hb)) | (have := T.c.lt b hb; omega)), T.r.fr hf (fun b hb hl h => by rcases hS b h with h1 | h1 <;> first | (exact h1 (.inr hb)) | omega), T.e, T.lo, T.n1, T.n10, T.k0, T.kt⟩
theorem TwoC.no (T : TwoC B w p q n t l dh hl dl k bh bd vl vh) (hf : Fr No w w') : TwoC B w' p q n t l dh hl dl k bh bd vl vh := T.fr hf (fun _ h => h.elim)
theorem TwoC.sep (T : TwoC B w p q n t l dh hl dl k bh bd vl vh) (b : Nat) (hb : B ≤ b) : ¬ CacheS p bh bd b := fun h => by have := T.lo b h; omega
theorem TwoC.later (T : TwoC B w p q n t l dh hl dl k bh bd vl vh) : TwoC B w p q n (t + 1) l dh hl dl k bh bd vl vh := ⟨T.c, T.r, T.e, T.lo, T.n1, T.n10, T.k0, by have := T.kt; omega⟩

/-- What a cache holds: at hand, dear, the clock. -/
abbrev St9 := HL × List (Int × Int) × Int
def touchS (hl : HL) (dl : List (Int × Int)) (k f : Int) : St9 := match aget hl f with | some h => (aput hl f (k + 1, h.2), dl, k + 1) | none => (hl, dl, k)
def putS (n : Int) (hl : HL) (dl : List (Int × Int)) (k f : Int) : St9 :=
  if f = 0 then (hl, dl, k) else match aget hl f with
  | some h => (aput hl f (k + 1, h.2), dl, k + 1)
  | none => if (hl.length : Int) < n then (aput (aput hl f (0, false)) f (k + 1, false), dl, k + 1) else if (nx dl hl).ok then (aput (aput (adel hl (nx dl hl).best) f (0, false)) f (k + 1, false), dl, k + 1) else (hl, dl, k)
def dropS (hl : HL) (dl : List (Int × Int)) (k f : Int) : St9 := match aget hl f with | some h => if h.2 then (hl, dl, k) else (adel hl f, dl, k) | none => (hl, dl, k)
def markS (hl : HL) (dl : List (Int × Int)) (k f : Int) (x : Bool) : St9 := match aget hl f with | some h => (aput hl f (h.1, x), dl, k) | none => (hl, dl, k)
def hoardS (hl : HL) (dl : List (Int × Int)) (k f y : Int) : St9 :=
  if f = 0 ∨ y < 0 ∨ 100 < y then (hl, dl, k) else if y = 0 then (hl, adel dl f, k) else if (aget dl f).getD 0 = 0 ∧ 8 ≤ (dl.length : Int) then (hl, dl, k) else (hl, aput dl f y, k)

/-- The second call of a deed: what it answers, and that both lie there behind it. -/
def Sec (g : FuncId) (args : Array Value) (v : Value) (B : Nat) (w : World) (p q : Nat) (n : Int) (t bh bd : Nat) (vl0 : Value) (st : St9) (w1 : World) : Prop :=
  ∀ (R : Ending → World → Prop) (w2 : World), Fr No w1 w2 → (∀ w3 l dh vl vh, TwoC B w3 p q n (t + 1) l dh st.1 st.2.1 st.2.2 bh bd vl vh → Fr (SX p bh bd q vl0) w w3 → R (.returned v) w3) → Calls Try.prog g args w2 R

theorem sb_c {b : Nat} (h : CacheS p bh bd b) : SX p bh bd q vl b := .inl h
theorem TwoC.sx (T : TwoC B w p q n t l dh hl dl k bh bd vl vh) {b : Nat} (h : SX p bh bd q vl b) : SB B p bh bd b ∧ b < w.heap.size := by
  rcases h with h | h
  · exact ⟨.inl h, T.c.lt b h⟩
  · exact ⟨.inr (T.r.own h).1, (T.r.own h).2⟩
theorem TwoC.own (T : TwoC B w p q n t l dh hl dl k bh bd vl vh) {b : Nat} (h : RefS q vl b) : B ≤ b := (T.r.own h).1

theorem two_touch (T : TwoC B w p q n t l dh hl dl k bh bd vl vh) (ht : t < 1000) (hwf : (Lit.int .u32 f).wf = true)
    (hR : ∀ w1 b, Fr (CacheS p bh bd) w w1 → Sec 51 #[.pointer (some ⟨q, 0, none⟩), .int .u32 f] (.bool b) B w p q n t bh bd vl (touchS hl dl k f) w1 → R (.returned (.bool b)) w1) :
    Calls Try.prog 26 #[.pointer (some ⟨p, 0, none⟩), .int .u32 f] w R := by
  have hlen := T.len
  have hhl := T.hlen
  have hkt := T.kt
  cases hg : aget hl f with
  | none =>
    rw [show touchS hl dl k f = (hl, dl, k) from by unfold touchS; rw [hg]] at hR
    refine touch_no T.c hwf hg fun w1 hf1 => hR w1 false hf1.any ?_
    intro R' w2 hf2 hR'
    exact rtouch_no (T.r.no (hf1.no hf2)) (by omega) (T.e.none.2 hg) (hR' w2 _ _ _ _ (T.later.no (hf1.no hf2)) (hf1.no hf2).any)
  | some h =>
    obtain ⟨u, d⟩ := h
    rw [show touchS hl dl k f = (aput hl f (k + 1, d), dl, k + 1) from by unfold touchS; rw [hg]] at hR
    refine touch_yes T.c T.k0 (by omega) (by omega) hwf hg fun w1 C1 hf1 => hR w1 true hf1 ?_
    intro R' w2 hf2 hR'
    obtain ⟨l1, l2, e1, h1⟩ := aget_split (T.e.some hg)
    refine rtouch_yes ((T.r.fr hf1 (fun b hb _ => T.sep b hb)).no hf2) e1 (by omega) h1 fun w3 v R3 hf3 => hR' w3 _ _ _ _ ⟨(C1.no hf2).fr hf3 (fun b hb h => T.sep b (T.own h) hb), R3, T.e.used e1, T.lo, T.n1, T.n10, by have := T.k0; show 0 ≤ k + 1; omega, by show k + 1 ≤ ((t + 1 : Nat) : Int); omega⟩ ?_
    exact ((hf1.mono (fun _ => sb_c)).no hf2).trans hf3 (fun b hb => .inl (.inr hb))

theorem two_put (T : TwoC B w p q n t l dh hl dl k bh bd vl vh) (ht : t < 1000) (hwf : (Lit.int .u32 f).wf = true)
    (hR : ∀ w1 a e, Fr (CacheS p bh bd) w w1 → Sec 50 #[.pointer (some ⟨q, 0, none⟩), .int .u32 f] (.tuple #[.int .u32 a, .int .i64 e]) B w p q n t bh bd vl (putS n hl dl k f) w1 → R (.returned (.tuple #[.int .u32 a, .int .i64 e])) w1) :
    Calls Try.prog 12 #[.pointer (some ⟨p, 0, none⟩), .int .u32 f] w R := by
  have hlen := T.len
  have hhl := T.hlen
  have hkt := T.kt
  have hel := T.e.len
  have hd8 := T.e.dfew
  by_cases hf0 : f = 0
  · subst hf0
    rw [show putS n hl dl k 0 = (hl, dl, k) from if_pos rfl] at hR
    refine put_zero (hR w 0 2 (Fr.refl _ _) ?_)
    intro R' w2 hf2 hR'
    exact rput_zero (hR' w2 _ _ _ _ (T.later.no hf2) hf2.any)
  cases hg : aget hl f with
  | some h =>
    obtain ⟨u, d⟩ := h
    rw [show putS n hl dl k f = (aput hl f (k + 1, d), dl, k + 1) from by unfold putS; rw [if_neg hf0, hg]] at hR
    refine put_has T.c T.k0 (by omega) hhl hf0 hwf hg fun w1 C1 hf1 => hR w1 0 0 hf1 ?_
    intro R' w2 hf2 hR'
    obtain ⟨l1, l2, e1, h1⟩ := aget_split (T.e.some hg)
    refine rput_has ((T.r.fr hf1 (fun b hb _ => T.sep b hb)).no hf2) hf0 e1 (by omega) h1 fun w3 v R3 hf3 => hR' w3 _ _ _ _ ⟨(C1.no hf2).fr hf3 (fun b hb h => T.sep b (T.own h) hb), R3, T.e.used e1, T.lo, T.n1, T.n10, by have := T.k0; show 0 ≤ k + 1; omega, by show k + 1 ≤ ((t + 1 : Nat) : Int); omega⟩ ?_
    exact ((hf1.mono (fun _ => sb_c)).no hf2).trans hf3 (fun b hb => .inl (.inr hb))
  | none =>
    have hln := T.e.none.2 hg
    by_cases hroom : (hl.length : Int) < n
    · rw [show putS n hl dl k f = (aput (aput hl f (0, false)) f (k + 1, false), dl, k + 1) from by unfold putS; rw [if_neg hf0, hg]; exact if_pos hroom] at hR
      refine put_room T.c T.k0 (by omega) hhl hroom hf0 hwf hg fun w1 C1 hf1 => hR w1 0 0 hf1 ?_
      intro R' w2 hf2 hR'
      refine rput_room ((T.r.fr hf1 (fun b hb _ => T.sep b hb)).no hf2) hf0 hln (by omega) (by omega) fun w3 v R3 hf3 => hR' w3 _ _ _ _ ⟨(C1.no hf2).fr hf3 (fun b hb h => T.sep b (T.own h) hb), R3, T.e.taken hg (by omega), T.lo, T.n1, T.n10, by have := T.k0; show 0 ≤ k + 1; omega, by show k + 1 ≤ ((t + 1 : Nat) : Int); omega⟩ ?_
      exact ((hf1.mono (fun _ => sb_c)).no hf2).trans hf3 (fun b hb => .inl (.inr hb))
    · rcases T.e.next with ⟨hno, _, hrn⟩ | ⟨hyes, l1, l2, hrn, e1, _⟩
      · rw [show putS n hl dl k f = (hl, dl, k) from by unfold putS; rw [if_neg hf0, hg]; exact (if_neg hroom).trans (if_neg (by rw [hno]; decide))] at hR
        refine put_none T.c hhl (by omega) hf0 hwf hg hno fun w1 hf1 => hR w1 0 4 hf1.any ?_
        intro R' w2 hf2 hR'
        refine rput_none (T.r.no (hf1.no hf2)) hf0 hln (by omega) (by omega) (by omega) hrn fun w3 hf3 => hR' w3 _ _ _ _ (T.later.no ((hf1.no hf2).no hf3)) ((hf1.no hf2).no hf3).any
      · rw [show putS n hl dl k f = (aput (aput (adel hl (nx dl hl).best) f (0, false)) f (k + 1, false), dl, k + 1) from by unfold putS; rw [if_neg hf0, hg]; exact (if_neg hroom).trans (if_pos hyes)] at hR
        refine put_out T.c T.k0 (by omega) hhl (by omega) hf0 hwf hg hyes fun w1 C1 hf1 => hR w1 _ 0 hf1 ?_
        intro R' w2 hf2 hR'
        have h1 : ∀ x ∈ l1, x.1 ≠ (nx dl hl).best := fun x hx he => by
          have hm := (e1 ▸ T.e.nod).mid.2
          exact hm (by rw [List.map_append]; exact List.mem_append_left _ (he ▸ List.mem_map.2 ⟨x, hx, rfl⟩))
        refine rput_out ((T.r.fr hf1 (fun b hb _ => T.sep b hb)).no hf2) hf0 hln (by omega) (by omega) (by omega) hrn e1 h1 fun w3 v R3 hf3 => hR' w3 _ _ _ _ ⟨(C1.no hf2).fr hf3 (fun b hb h => T.sep b (T.own h) hb), R3, T.e.gone hg e1, T.lo, T.n1, T.n10, by have := T.k0; show 0 ≤ k + 1; omega, by show k + 1 ≤ ((t + 1 : Nat) : Int); omega⟩ ?_
        exact ((hf1.mono (fun _ => sb_c)).no hf2).trans hf3 (fun b hb => .inl (.inr hb))

theorem two_drop (T : TwoC B w p q n t l dh hl dl k bh bd vl vh) (hwf : (Lit.int .u32 f).wf = true)
    (hR : ∀ w1 e, Fr (CacheS p bh bd) w w1 → Sec 52 #[.pointer (some ⟨q, 0, none⟩), .int .u32 f] (.int .i64 e) B w p q n t bh bd vl (dropS hl dl k f) w1 → R (.returned (.int .i64 e)) w1) :
    Calls Try.prog 20 #[.pointer (some ⟨p, 0, none⟩), .int .u32 f] w R := by
  have hlen := T.len
  cases hg : aget hl f with
  | none =>
    rw [show dropS hl dl k f = (hl, dl, k) from by unfold dropS; rw [hg]] at hR
    refine drop_no T.c hwf hg fun w1 hf1 => hR w1 5 hf1.any ?_
    intro R' w2 hf2 hR'
    exact rdrop_no (T.r.no (hf1.no hf2)) (by omega) (T.e.none.2 hg) (hR' w2 _ _ _ _ (T.later.no (hf1.no hf2)) (hf1.no hf2).any)
  | some h =>
    obtain ⟨u, d⟩ := h
    obtain ⟨l1, l2, e1, h1⟩ := aget_split (T.e.some hg)
    cases d with
    | true =>
      rw [show dropS hl dl k f = (hl, dl, k) from by unfold dropS; rw [hg]; rfl] at hR
      refine drop_dirty T.c hwf hg fun w1 hf1 => hR w1 13 hf1.any ?_
      intro R' w2 hf2 hR'
      exact rdrop_dirty (T.r.no (hf1.no hf2)) e1 (by omega) h1 (hR' w2 _ _ _ _ (T.later.no (hf1.no hf2)) (hf1.no hf2).any)
    | false =>
      rw [show dropS hl dl k f = (adel hl f, dl, k) from by unfold dropS; rw [hg]; rfl] at hR
      refine drop_ok T.c hwf hg fun w1 C1 hf1 => hR w1 0 hf1 ?_
      intro R' w2 hf2 hR'
      refine rdrop_ok ((T.r.fr hf1 (fun b hb _ => T.sep b hb)).no hf2) e1 (by omega) h1 fun w3 v R3 hf3 => hR' w3 _ _ _ _ ⟨(C1.no hf2).fr hf3 (fun b hb h => T.sep b (T.own h) hb), R3, T.e.dropped e1, T.lo, T.n1, T.n10, T.k0, T.later.kt⟩ ?_
      exact ((hf1.mono (fun _ => sb_c)).no hf2).trans hf3 (fun b hb => .inl (.inr hb))

theorem two_mark (T : TwoC B w p q n t l dh hl dl k bh bd vl vh) (hwf : (Lit.int .u32 f).wf = true)
    (hR : ∀ w1 e, Fr (CacheS p bh bd) w w1 → Sec 53 #[.pointer (some ⟨q, 0, none⟩), .int .u32 f, .bool x] (.int .i64 e) B w p q n t bh bd vl (markS hl dl k f x) w1 → R (.returned (.int .i64 e)) w1) :
    Calls Try.prog 27 #[.pointer (some ⟨p, 0, none⟩), .int .u32 f, .bool x] w R := by
  have hlen := T.len
  have hhl := T.hlen
  cases hg : aget hl f with
  | none =>
    rw [show markS hl dl k f x = (hl, dl, k) from by unfold markS; rw [hg]] at hR
    refine mark_no T.c hwf hg fun w1 hf1 => hR w1 5 hf1.any ?_
    intro R' w2 hf2 hR'
    exact rmark_no (T.r.no (hf1.no hf2)) (by omega) (T.e.none.2 hg) (hR' w2 _ _ _ _ (T.later.no (hf1.no hf2)) (hf1.no hf2).any)
  | some h =>
    obtain ⟨u, d⟩ := h
    obtain ⟨l1, l2, e1, h1⟩ := aget_split (T.e.some hg)
    rw [show markS hl dl k f x = (aput hl f (u, x), dl, k) from by unfold markS; rw [hg]] at hR
    refine mark_yes T.c (by omega) hwf hg fun w1 C1 hf1 => hR w1 0 hf1 ?_
    intro R' w2 hf2 hR'
    refine rmark_ok ((T.r.fr hf1 (fun b hb _ => T.sep b hb)).no hf2) e1 (by omega) h1 fun w3 R3 hf3 => hR' w3 _ _ _ _ ⟨(C1.no hf2).fr hf3 (fun b hb h => T.sep b (T.own h) hb), R3, T.e.marked e1 hg, T.lo, T.n1, T.n10, T.k0, T.later.kt⟩ ?_
    exact ((hf1.mono (fun _ => sb_c)).no hf2).trans hf3 (fun b hb => .inl (.inr hb))

theorem two_hoard (T : TwoC B w p q n t l dh hl dl k bh bd vl vh) (hwf : (Lit.int .u32 f).wf = true)
    (hR : ∀ w1 e, Fr (CacheS p bh bd) w w1 → Sec 54 #[.pointer (some ⟨q, 0, none⟩), .int .u32 f, .int .i64 y] (.int .i64 e) B w p q n t bh bd vl (hoardS hl dl k f y) w1 → R (.returned (.int .i64 e)) w1) :
    Calls Try.prog 28 #[.pointer (some ⟨p, 0, none⟩), .int .u32 f, .int .i64 y] w R := by
  have hdl := T.e.dlen
  have hd8 := T.e.dfew
  by_cases hbad : f = 0 ∨ y < 0 ∨ 100 < y
  · rw [show hoardS hl dl k f y = (hl, dl, k) from by unfold hoardS; exact if_pos hbad] at hR
    refine hoard_bad hbad (hR w 2 (Fr.refl _ _) ?_)
    intro R' w2 hf2 hR'
    exact rhoard_bad hbad (hR' w2 _ _ _ _ (T.later.no hf2) hf2.any)
  have hf0 : f ≠ 0 := fun e => hbad (.inl e)
  have hy0 : ¬ y < 0 := fun e => hbad (.inr (.inl e))
  have hy1 : ¬ 100 < y := fun e => hbad (.inr (.inr e))
  by_cases hz : y = 0
  · subst hz
    rw [show hoardS hl dl k f 0 = (hl, adel dl f, k) from by unfold hoardS; rw [if_neg hbad, if_pos rfl]] at hR
    refine hoard_zero T.c hf0 hwf fun w1 C1 hf1 => hR w1 0 hf1 ?_
    intro R' w2 hf2 hR'
    refine rhoard_ok ((T.r.fr hf1 (fun b hb _ => T.sep b hb)).no hf2) hf0 (Int.le_refl _) (by omega) (by omega) (.inl rfl) fun w3 v R3 hf3 => hR' w3 _ _ _ _ ⟨(C1.no hf2).fr hf3 (fun b hb h => T.sep b (T.own h) hb), R3, ?_, T.lo, T.n1, T.n10, T.k0, T.later.kt⟩ ?_
    · rw [if_pos rfl, List.append_nil]
      exact T.e.unhoarded
    · exact ((hf1.mono (fun _ => sb_c)).no hf2).trans hf3 (fun b hb => .inl (.inr hb))
  by_cases hfull : (aget dl f).getD 0 = 0 ∧ 8 ≤ (dl.length : Int)
  · rw [show hoardS hl dl k f y = (hl, dl, k) from by unfold hoardS; rw [if_neg hbad, if_neg hz]; exact if_pos hfull] at hR
    refine hoard_full T.c hf0 (by omega) (by omega) hwf hfull.1 hfull.2 (hR w 4 (Fr.refl _ _) ?_)
    intro R' w2 hf2 hR'
    exact rhoard_full (T.r.no hf2) hf0 (by omega) (by omega) (by omega) (by rw [← T.e.dget]; exact hfull.1) (by omega) (hR' w2 _ _ _ _ (T.later.no hf2) hf2.any)
  · have hor : (aget dl f).getD 0 ≠ 0 ∨ (dl.length : Int) < 8 := by
      by_cases e : (aget dl f).getD 0 = 0
      · exact .inr (by have : ¬ 8 ≤ (dl.length : Int) := fun h => hfull ⟨e, h⟩; omega)
      · exact .inl e
    have hor2 : y = 0 ∨ (aget dh f).getD 0 ≠ 0 ∨ (dh.length : Int) < 8 := .inr (by rw [← T.e.dget]; rcases hor with h | h <;> first | (exact .inl h) | (exact .inr (by omega)))
    have h8 : aget dh f ≠ none ∨ dh.length < 8 := by
      rcases hor with h | h
      · exact .inl (fun e => h (by rw [T.e.dget, e]; rfl))
      · exact .inr (by omega)
    rw [show hoardS hl dl k f y = (hl, aput dl f y, k) from by unfold hoardS; rw [if_neg hbad, if_neg hz]; exact if_neg hfull] at hR
    refine hoard_put T.c hf0 (by omega) (by omega) hwf (by omega) hor fun w1 C1 hf1 => hR w1 0 hf1 ?_
    intro R' w2 hf2 hR'
    refine rhoard_ok ((T.r.fr hf1 (fun b hb _ => T.sep b hb)).no hf2) hf0 (by omega) (by omega) (by omega) hor2 fun w3 v R3 hf3 => hR' w3 _ _ _ _ ⟨(C1.no hf2).fr hf3 (fun b hb h => T.sep b (T.own h) hb), R3, ?_, T.lo, T.n1, T.n10, T.k0, T.later.kt⟩ ?_
    · rw [if_neg hz]
      exact T.e.hoarded (by omega) (by omega) h8
    · exact ((hf1.mono (fun _ => sb_c)).no hf2).trans hf3 (fun b hb => .inl (.inr hb))
end

end Go.Proofs.Ytokhbjllgaaogaa
