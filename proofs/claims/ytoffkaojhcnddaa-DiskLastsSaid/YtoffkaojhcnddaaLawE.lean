/- The law's helper play: both disks are made and do all deeds. No condition beside that the deeds lie there. -/
import Derived.Test.YtoffkaojhcnddaaLawD
namespace Go.Proofs.Ytoffkaojhcnddaa
set_option linter.unusedSimpArgs false
open Go.RowKit Go.Maps

structure Dd where
  k : Int
  a : Int
  x : Int
  ks : Value
  xs : List Int

def Dd.cells (d : Dd) : Array Value := deed d.k d.a d.x d.ks

/-- Deeds lie in memory. -/
structure Deeds (B : Nat) (w : World) (v : Value) (ds : List Dd) : Prop where
  row : RowsAt (Up B) w v ds.length 4 (ds.flatMap fun d => d.cells.toList)
  each : ∀ d ∈ ds, 0 ≤ d.x ∧ d.x < 256 ∧ RowsAt (Up B) w d.ks d.xs.length 1 (ints d.xs) ∧ d.xs.length < 9223372036854775808
  most : ds.length < 9223372036854775808

theorem Deeds.up {B : Nat} {w w' : World} {v : Value} {ds : List Dd} (D : Deeds B w v ds) (hF : Fr (Up B) w w') : Deeds B w' v ds :=
  ⟨D.row.fr hF (fun _ h => h), fun d hd => ⟨(D.each d hd).1, (D.each d hd).2.1, (D.each d hd).2.2.1.fr hF (fun _ h => h), (D.each d hd).2.2.2⟩, D.most⟩
theorem Deeds.mono {B C : Nat} {w : World} {v : Value} {ds : List Dd} (D : Deeds B w v ds) (h : B ≤ C) : Deeds C w v ds :=
  ⟨D.row.mono (fun _ _ hb => Nat.le_trans h hb), fun d hd => ⟨(D.each d hd).1, (D.each d hd).2.1, (D.each d hd).2.2.1.mono (fun _ _ hb => Nat.le_trans h hb), (D.each d hd).2.2.2⟩, D.most⟩
theorem Fr.up {w w' : World} (h : Fr (Up w.heap.size) w w') : Fr No w w' := ⟨h.os, h.tape, h.output, h.size, fun b hb _ => h.blk b hb (fun hu => by have : w.heap.size ≤ b := hu; omega)⟩
theorem Fr.any' {S T : Nat → Prop} {w w' : World} (h : Fr S w w') (hs : ∀ b, S b → T b) : Fr T w w' := h.mono hs

theorem deeds_get {ds : List Dd} : ∀ {k : Nat} {d : Dd}, ds[k]? = some d → ∀ j, j < 4 → (ds.flatMap fun d => d.cells.toList)[k * 4 + j]? = d.cells[j]? := by
  induction ds with
  | nil => intro k d h; simp at h
  | cons y r ih =>
    intro k d h j hj
    have e : (y :: r).flatMap (fun d => d.cells.toList) = y.cells.toList ++ r.flatMap (fun d => d.cells.toList) := by simp
    have hl : y.cells.toList.length = 4 := rfl
    rw [e]
    cases k with
    | zero =>
      have : y = d := by simpa using h
      subst this
      rw [List.getElem?_append_left (by omega)]
      simp
    | succ k =>
      rw [List.getElem?_append_right (by omega), hl, show (k + 1) * 4 + j - 4 = k * 4 + j by omega]
      exact ih (by simpa using h) j hj

/-- The k-th deed's cells. -/
theorem deeds_row {B : Nat} {w : World} {v : Value} {ds : List Dd} (D : Deeds B w v ds) {k : Nat} {d : Dd} (hd : ds[k]? = some d) : ∃ b off cap, v = .slice (some ⟨b, off, none⟩) ds.length cap ∧ ¬ B ≤ b ∧ b < w.heap.size ∧ w.rangeAt b (off + k * 4) d.cells.toList := by
  obtain ⟨_, a, cap, rfl, hr⟩ := D.row
  have hk : k < ds.length := (List.getElem?_eq_some_iff.1 hd).1
  rcases hr with h0 | ⟨b, off, rfl, hS, hb, hc⟩
  · omega
  · refine ⟨b, off, cap, rfl, hS, hb, fun j u hj => ?_⟩
    have hj4 : j < 4 := by have := (List.getElem?_eq_some_iff.1 hj).1; simpa [Dd.cells, deed] using this
    have := deeds_get hd j hj4
    rw [Array.getElem?_toList] at hj
    rw [hj] at this
    have h2 := hc _ _ this
    rwa [← Nat.add_assoc] at h2

theorem deedU : (Try.prog.underlying 32).map (·.isRow) = some true := by kernel_rfl
theorem deedI : (Try.prog.info? 32).map (·.size) = some 4 := by kernel_rfl
theorem run_deed {w : World} {b o : Nat} {d : Dd} (h : Hid (w.rangeAt b o d.cells.toList)) : (loadVar 32 ⟨b, o, none⟩).run Try.prog w = .ok (.agg (deed d.k d.a d.x d.ks)) w := by
  cases hu : Try.prog.underlying 32 with
  | none => have := deedU; simp [hu] at this
  | some t =>
    have h2 := deedU
    simp only [hu, Option.map_some, Option.some.injEq] at h2
    have := run_loadVar_mid (P := Try.prog) w b o _ d.cells.toList _ h.out hu h2 (by rw [deedI]; rfl)
    rwa [Array.toArray_toList] at this

theorem results_tmp3 {P : Program} {fn : Func} {a b c : Tmp} {tmps : Array Value} {w : World} {x y z : Value} (h : fn.results = #[.tmp a, .tmp b, .tmp c]) (ha : tmps.getD a undef = x) (hb : tmps.getD b undef = y) (hc : tmps.getD c undef = z) :
    (results fn tmps).run P w = .ok (.tuple #[x, y, z]) w := by
  subst ha hb hc
  simp [results, h]

theorem two_new {B : Nat} {w w1 w2 : World} {p q n cap bs bm cap' bs' : Nat} {cs cs' : Array Value} (hB : B ≤ w.heap.size) (hn : 1 ≤ n) (H : DiskAt w1 p n cap cs [] bs bm) (hz : ∀ i, i < n → sec cs i = Z32) (hp : w.heap.size ≤ p) (hs : w.heap.size ≤ bs) (hm : w.heap.size ≤ bm)
    (hr : ∀ S : Nat → Prop, S q → ¬ S bs' → RefAt S w2 q n cap' cs' [] bs' (.slice none 0 0)) (hz' : ∀ i, i < n → sec cs' i = Z32) (hq : w1.heap.size ≤ q) (hs' : w1.heap.size ≤ bs') (hne : q ≠ bs') (hl : q < w2.heap.size) (hF : Fr No w1 w2) :
    Two B w2 p q n bs bm [] (fun _ => Z32) [] (fun _ => Z32) := by
  have h1 := lt_of_heap H.head
  have h2 := lt_of_heap H.secs
  have h3 := H.buf.lt
  have h4 := hF.size
  refine ⟨⟨cap, cs, H.no hF, hz⟩, ⟨cap', cs', bs', _, hr (SS p bs bm q) (.inr rfl) ?_, hz'⟩, ?_, fun b hb => ?_, hn⟩
  · rintro ((h | h | h) | h) <;> omega
  · rintro (h | h | h) <;> omega
  · rcases hb with (h | h | h) | h <;> omega

set_option maxHeartbeats 4000000 in
set_option maxRecDepth 100000 in
theorem play_ok {B : Nat} {w : World} {R : Ending → World → Prop} {x : Int} {v : Value} {ds : List Dd} (h0 : 0 ≤ x) (h1 : x < 256) (D : Deeds B w v ds) (hB : B ≤ w.heap.size)
    (hR : ∀ w' p q n bs bm l s, Two B w' p q n bs bm l s l s → (n : Int) = x % 8 + 1 → Fr (Up B) w w' → R (.returned (.tuple #[.pointer (some ⟨p, 0, none⟩), .pointer (some ⟨q, 0, none⟩), .bool true])) w') :
    Calls Try.prog 9 #[.int .u8 x, v] w R := by
  have HR := hid hR
  have HD := hid D
  have HBB := hid hB
  obtain ⟨n, hn⟩ : ∃ n : Nat, (n : Int) = x % 8 + 1 := ⟨(x % 8 + 1).toNat, by omega⟩
  have hn1 : 1 ≤ n := by omega
  have hn2 : n ≤ 2048 := by omega
  have HN := hid hn
  obtain ⟨_, da, dc, rfl, _⟩ := id D.row
  clear hR D hB hn
  go_enter Try.func9, Try.ntmps9
  go_wp2_with (first
    | (go_at_call 24; rw [← HN.out]; refine new_ok hn1 hn2 ?_; intro w1 p cap cs bs bm hd hz hp hs hm hf; have ND := hid hd; have NZ := hid hz; have NF := hid hf; have NB : Hid (w.heap.size ≤ p ∧ w.heap.size ≤ bs ∧ w.heap.size ≤ bm) := ⟨hp, hs, hm⟩; clear hd hz hf hp hs hm)
    | (go_at_call 25; rw [← HN.out]; refine rnew_ok hn1 hn2 ?_; intro w2 q cap' cs' bs' hr hz hq hs hne hl1 hl2 hf; have T0 := hid (two_new HBB.out hn1 ND.out NZ.out NB.out.1 NB.out.2.1 NB.out.2.2 hr hz hq hs hne hl1 hf); have NF2 : Hid (Fr (Up B) w w2) := (NF.out.no hf).any; clear ND NZ NB NF hr hz hq hs hne hl1 hl2 hf))
  go_loopw [9] (fun t9 wr => ∃ k l s, k ≤ ds.length ∧ t9 = .int .i64 (k : Nat) ∧ Hid (Two B wr p q n bs bm l s l s) ∧ Hid (Fr (Up B) w wr)) (fun t9 _ => ds.length - (intOf t9).toNat)
  case atStart => exact ⟨0, _, _, Nat.zero_le _, rfl, T0.out, NF2.out⟩
  case round =>
    obtain ⟨k, l, s, hk, rfl, ht, hf⟩ := hrel
    have HT := hid ht.out
    have HF := hid hf.out
    have hmost := HD.out.most
    clear ht hf T0 NF2
    by_cases hlt : k < ds.length
    · by_cases h60 : k < 60
      · obtain ⟨d, hd⟩ : ∃ d, ds[k]? = some d := ⟨ds[k], List.getElem?_eq_getElem hlt⟩
        have D := HD.out.up HF.out
        obtain ⟨b, off, cap, e, _, _, hrow⟩ := deeds_row D hd
        simp only [Value.slice.injEq, true_and] at e
        obtain ⟨rfl, rfl⟩ := e
        obtain ⟨x0, x1, xk, xm⟩ := D.each _ (List.mem_of_getElem? hd)
        have HROW := hid hrow
        have HXK := hid xk
        have HXM := hid xm
        have HX0 := hid x0
        have HX1 := hid x1
        clear hrow D hd xk xm x0 x1
        go_wp2_with (first
          | (refine wpList_loadVar (x := .tmp 34) rfl rfl rfl (run_deed HROW) ?_)
          | (go_at_call 22; refine do_ok HT.out HX0.out HX1.out HXK.out HXM.out ?_; intro w3 l' s' t3 hf3; have T3 := hid t3; have HF3 : Hid (Fr (Up B) w w3) := HF.out.trans hf3 (fun b hb => .inl (HT.out.lo b hb).1); clear t3 hf3))
        go_roundw
        case rel => exact ⟨k + 1, l', s', by omega, by go_num, T3, HF3⟩
        case measure => simp [intOf]; omega
      · go_wp2
        exact bodyPost_ret (results_tmp3 rfl rfl rfl rfl) rfl (HR.out _ _ _ _ _ _ _ _ HT.out HN.out HF.out)
    · go_wp2
      exact bodyPost_ret (results_tmp3 rfl rfl rfl rfl) rfl (HR.out _ _ _ _ _ _ _ _ HT.out HN.out HF.out)

end Go.Proofs.Ytoffkaojhcnddaa
