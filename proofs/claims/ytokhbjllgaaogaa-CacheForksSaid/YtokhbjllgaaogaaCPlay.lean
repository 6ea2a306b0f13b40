/- The law's helper play: both caches are made and do all deeds. No condition beside that the deeds lie there. -/
import Derived.Test.YtokhbjllgaaogaaCDo
namespace Go.Proofs.Ytokhbjllgaaogaa
set_option linter.unusedSimpArgs false
open Go.RowKit Go.Maps

def D9.cells (d : D9) : Array Value := deed9 d.k d.f d.b d.x

/-- Deeds lie in memory. -/
structure Deeds9 (B : Nat) (w : World) (v : Value) (ds : List D9) : Prop where
  row : RowsAt (fun b => B ≤ b) w v ds.length 4 (ds.flatMap fun d => d.cells.toList)
  each : ∀ d ∈ ds, (Lit.int .u32 d.f).wf = true
  most : ds.length < 9223372036854775808

theorem Deeds9.up {B : Nat} {w w' : World} {v : Value} {ds : List D9} (D : Deeds9 B w v ds) (hF : Fr (fun b => B ≤ b) w w') : Deeds9 B w' v ds :=
  ⟨D.row.fr hF (fun _ h => h), D.each, D.most⟩

theorem d9_get {ds : List D9} : ∀ {k : Nat} {d : D9}, ds[k]? = some d → ∀ j, j < 4 → (ds.flatMap fun d => d.cells.toList)[k * 4 + j]? = d.cells[j]? := by
  induction ds with
  | nil => intro k d h; simp at h
  | cons y r ih =>
    intro k d h j hj
    have e : (y :: r).flatMap (fun d => d.cells.toList) = y.cells.toList ++ r.flatMap (fun d => d.cells.toList) := by simp
    have hl : y.cells.toList.length = 4 := rfl
    rw [e]
    cases k with
    | zero =>
      have : y = d := by simpa using h
      subst this
      rw [List.getElem?_append_left (by omega)]
      simp
    | succ k =>
      rw [List.getElem?_append_right (by omega), hl, show (k + 1) * 4 + j - 4 = k * 4 + j by omega]
      exact ih (by simpa using h) j hj

/-- The k-th deed's cells. -/
theorem d9_row {B : Nat} {w : World} {v : Value} {ds : List D9} (D : Deeds9 B w v ds) {k : Nat} {d : D9} (hd : ds[k]? = some d) : ∃ b off cap, v = .slice (some ⟨b, off, none⟩) ds.length cap ∧ ¬ B ≤ b ∧ b < w.heap.size ∧ w.rangeAt b (off + k * 4) d.cells.toList := by
  obtain ⟨_, a, cap, rfl, hr⟩ := D.row
  have hk : k < ds.length := (List.getElem?_eq_some_iff.1 hd).1
  rcases hr with h0 | ⟨b, off, rfl, hS, hb, hc⟩
  · omega
  · refine ⟨b, off, cap, rfl, hS, hb, fun j u hj => ?_⟩
    have hj4 : j < 4 := by have := (List.getElem?_eq_some_iff.1 hj).1; simpa [D9.cells, deed9] using this
    have := d9_get hd j hj4
    rw [Array.getElem?_toList] at hj
    rw [hj] at this
    have h2 := hc _ _ this
    rwa [← Nat.add_assoc] at h2

theorem d9U : (Try.prog.underlying 50).map (·.isRow) = some true := by kernel_rfl
theorem d9I : (Try.prog.info? 50).map (·.size) = some 4 := by kernel_rfl
theorem run_d9 {w : World} {b o : Nat} {d : D9} (h : Hid (w.rangeAt b o d.cells.toList)) : (loadVar 50 ⟨b, o, none⟩).run Try.prog w = .ok (.agg (deed9 d.k d.f d.b d.x)) w := by
  cases hu : Try.prog.underlying 50 with
  | none => have := d9U; simp [hu] at this
  | some t =>
    have h2 := d9U
    simp only [hu, Option.map_some, Option.some.injEq] at h2
    have := run_loadVar_mid (P := Try.prog) w b o _ d.cells.toList _ h.out hu h2 (by rw [d9I]; rfl)
    rwa [Array.toArray_toList] at this

theorem results_tmp3 {P : Program} {fn : Func} {a b c : Tmp} {tmps : Array Value} {w : World} {x y z : Value} (h : fn.results = #[.tmp a, .tmp b, .tmp c]) (ha : tmps.getD a undef = x) (hb : tmps.getD b undef = y) (hc : tmps.getD c undef = z) :
    (results fn tmps).run P w = .ok (.tuple #[x, y, z]) w := by
  subst ha hb hc
  simp [results, h]

/-- What lies there behind play. -/
def Played (B0 : Nat) (w' : World) (p q : Nat) (n : Int) : Prop := ∃ B t l dh hl dl k bh bd vl vh, TwoC B w' p q n t l dh hl dl k bh bd vl vh ∧ t ≤ 80 ∧ B0 ≤ B ∧ ∀ b, CacheS p bh bd b → B0 ≤ b

theorem two_new {B : Nat} {w1 w2 : World} {p q bh bd : Nat} {n : Int} (h1 : 1 ≤ n) (h10 : n ≤ 10) (C : CacheAt w1 p n 0 [] [] bh bd) (hB : B = w1.heap.size) (Rf : RefC B w2 q n [] [] (.slice none 0 0) (.slice none 0 0)) (hF : Fr No w1 w2) :
    TwoC B w2 p q n 0 [] [] [] [] 0 bh bd (.slice none 0 0) (.slice none 0 0) :=
  ⟨C.no hF, Rf, Eqv.nil (by omega), fun b hb => by rw [hB]; exact C.lt b hb, h1, h10, Int.le_refl _, by simp⟩

/-- What some deeds make of a cache. -/
def playS (n : Int) (ds : List D9) : St9 := (ds.take 80).foldl (step9 n) ([], [], 0)
def PlayedS (B0 : Nat) (w' : World) (p q : Nat) (n : Int) (st : St9) : Prop := ∃ B t l dh bh bd vl vh, TwoC B w' p q n t l dh st.1 st.2.1 st.2.2 bh bd vl vh ∧ t ≤ 80 ∧ B0 ≤ B ∧ ∀ b, CacheS p bh bd b → B0 ≤ b

theorem playS_step {n : Int} {ds : List D9} {i : Nat} {d : D9} (hd : ds[i]? = some d) : (ds.take (i + 1)).foldl (step9 n) ([], [], 0) = step9 n ((ds.take i).foldl (step9 n) ([], [], 0)) d := by
  rw [List.take_add_one, hd, List.foldl_append]
  rfl

set_option maxHeartbeats 4000000 in
set_option maxRecDepth 100000 in
theorem playS_ok {w : World} {R : Ending → World → Prop} {x : Int} {v : Value} {ds : List D9} (h0 : 0 ≤ x) (h1 : x < 256) (D : Deeds9 w.heap.size w v ds)
    (hR : ∀ w' p q, PlayedS w.heap.size w' p q (x % 10 + 1) (playS (x % 10 + 1) ds) → Fr No w w' → R (.returned (.tuple #[.pointer (some ⟨p, 0, none⟩), .pointer (some ⟨q, 0, none⟩), .bool true])) w') :
    Calls Try.prog 15 #[.int .u8 x, v] w R := by
  have HR := hid hR
  have HD := hid D
  obtain ⟨n, hn⟩ : ∃ n : Int, n = x % 10 + 1 := ⟨_, rfl⟩
  have hn1 : 1 ≤ n := by omega
  have hn2 : n ≤ 10 := by omega
  have HN := hid hn
  have HB : Hid (1 ≤ n ∧ n ≤ 10) := ⟨hn1, hn2⟩
  obtain ⟨_, da, dc, rfl, _⟩ := id D.row
  clear hR D hn hn1 hn2
  go_enter Try.func15, Try.ntmps15
  go_wp2_with (first
    | (go_at_call 11; rw [← HN.out]; refine new_ok HB.out.1 (Int.le_trans HB.out.2 (by decide)) ?_; intro w1 p bh bd c hp hh hd hf; have C1 := hid c; have F1 := hid hf; have SU : Hid (∀ b, CacheS p bh bd b → w.heap.size ≤ b) := (fun b hb => hb.elim (fun e => e ▸ hp) (fun hb => hb.elim (fun e => e ▸ hh) (fun e => e ▸ hd))); clear c hp hh hd hf)
    | (go_at_call 30; (try rw [← HN.out]); refine rnew_ok (B := w1.heap.size) HB.out.1 (Int.le_trans HB.out.2 (by decide)) (Nat.le_refl _) ?_; intro w2 q hr hf; have T0 := hid (two_new HB.out.1 HB.out.2 C1.out rfl hr hf); have F2 : Hid (Fr No w w2) := F1.out.no hf; clear hr hf))
  obtain ⟨B, hB⟩ : ∃ B, B = w1.heap.size := ⟨_, rfl⟩
  have HB0 : Hid (w.heap.size ≤ B) := by rw [hB]; exact F1.out.size
  rw [← hB] at T0
  clear hB C1 F1
  go_loopw [9] (fun t9 wr => ∃ (i : Nat) (l : List (Int × Bool)) (dh : List (Int × Int)) (st : St9) (vl vh : Value), i ≤ ds.length ∧ t9 = .int .i64 (i : Nat) ∧ Hid (TwoC B wr p q n i l dh st.1 st.2.1 st.2.2 bh bd vl vh ∧ i ≤ 80 ∧ st = (ds.take i).foldl (step9 n) ([], [], 0)) ∧ Hid (Fr No w wr)) (fun t9 _ => ds.length - (intOf t9).toNat)
  case atStart => exact ⟨0, _, _, ([], [], 0), _, _, Nat.zero_le _, rfl, ⟨T0.out, Nat.zero_le _, rfl⟩, F2.out⟩
  case round =>
    obtain ⟨i, l, dh, ⟨hl, dl, k⟩, vl, vh, hk, rfl, ht, hf⟩ := hrel
    have HT := hid ht.out.1
    have hi80 := ht.out.2.1
    have HST := hid ht.out.2.2
    have HF := hid hf.out
    have hmost := HD.out.most
    clear ht hf T0 F2
    by_cases hlt : i < ds.length
    · by_cases h60 : i < 80
      · obtain ⟨d, hd⟩ : ∃ d, ds[i]? = some d := ⟨ds[i], List.getElem?_eq_getElem hlt⟩
        have HSTEP := hid (playS_step (n := n) hd)
        have D := HD.out.up (HF.out.any (S := fun b => w.heap.size ≤ b))
        obtain ⟨b, off, cap, e, _, _, hrow⟩ := d9_row D hd
        simp only [Value.slice.injEq, true_and] at e
        obtain ⟨rfl, rfl⟩ := e
        have HROW := hid hrow
        have HWF := hid (D.each _ (List.mem_of_getElem? hd))
        clear hrow D hd
        go_wp2_with (first
          | (refine wpList_loadVar (x := .tmp 34) rfl rfl rfl (run_d9 HROW) ?_)
          | (go_at_call 25; refine do_ok HT.out (Nat.lt_trans h60 (by decide)) HWF.out ?_; intro w3 l' dh' vl' vh' t3 hf3; have T3 : Hid (TwoC B w3 p q n (i + 1) l' dh' (step9 n (hl, dl, k) d).1 (step9 n (hl, dl, k) d).2.1 (step9 n (hl, dl, k) d).2.2 bh bd vl' vh' ∧ i + 1 ≤ 80 ∧ step9 n (hl, dl, k) d = (ds.take (i + 1)).foldl (step9 n) ([], [], 0)) := ⟨t3, h60, by rw [HSTEP.out, ← HST.out]⟩; have HF3 : Hid (Fr No w w3) := HF.out.trans hf3 (fun b hb => .inr (by rcases hb with hb | hb; (· exact SU.out b hb); (· exact Nat.le_trans HB0.out hb))); clear t3 hf3))
        go_roundw
        case rel => exact ⟨i + 1, _, _, step9 n (hl, dl, k) d, _, _, by omega, by go_num, T3, HF3⟩
        case measure => simp [intOf]; omega
      · go_wp2
        exact bodyPost_ret (results_tmp3 rfl rfl rfl rfl) rfl (HR.out _ _ _ ⟨B, i, _, _, _, _, _, _, by rw [← HN.out, show playS n ds = (hl, dl, k) from by rw [HST.out, show i = 80 by omega]; rfl]; exact HT.out, hi80, HB0.out, SU.out⟩ HF.out)
    · go_wp2
      exact bodyPost_ret (results_tmp3 rfl rfl rfl rfl) rfl (HR.out _ _ _ ⟨B, i, _, _, _, _, _, _, by rw [← HN.out, show playS n ds = (hl, dl, k) from by rw [HST.out, List.take_of_length_le (by omega)]; unfold playS; rw [List.take_of_length_le (by omega)]]; exact HT.out, hi80, HB0.out, SU.out⟩ HF.out)

theorem play_ok {w : World} {R : Ending → World → Prop} {x : Int} {v : Value} {ds : List D9} (h0 : 0 ≤ x) (h1 : x < 256) (D : Deeds9 w.heap.size w v ds)
    (hR : ∀ w' p q, Played w.heap.size w' p q (x % 10 + 1) → Fr No w w' → R (.returned (.tuple #[.pointer (some ⟨p, 0, none⟩), .pointer (some ⟨q, 0, none⟩), .bool true])) w') :
    Calls Try.prog 15 #[.int .u8 x, v] w R :=
  playS_ok h0 h1 D fun w' p q ⟨B, t, l, dh, bh, bd, vl, vh, T, h2, h3, h4⟩ hf => hR w' p q ⟨B, t, l, dh, _, _, _, bh, bd, vl, vh, T, h2, h3, h4⟩ hf

end Go.Proofs.Ytokhbjllgaaogaa
