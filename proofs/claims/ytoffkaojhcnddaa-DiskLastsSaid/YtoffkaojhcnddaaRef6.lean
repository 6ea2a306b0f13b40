/- The reference's disk: Flush, Crash, Loose, New, Fork. No condition beside that it lies there. -/
import Derived.Test.YtoffkaojhcnddaaRef5
namespace Go.Proofs.Ytoffkaojhcnddaa
set_option linter.unusedSimpArgs false
open Go.RowKit Go.Maps

set_option maxHeartbeats 1000000 in
set_option maxRecDepth 100000 in
theorem rflush_ok {S : Nat → Prop} {p n cap : Nat} {cs : Array Value} {l : List (Int × Array Value)} {bs : Nat} {bv : Value} {w : World} {R : Ending → World → Prop} (H : RefAt S w p n cap cs l bs bv) (hS : ∀ b, S b → b < w.heap.size)
    (hR : ∀ w' cap' cs' bs', Settled n cs l (fun _ => true) cs' → RefAt S w' p n cap' cs' [] bs' (.slice none 0 0) → Fr (fun b => b = p) w w' → R (.returned (.int .i64 0)) w') :
    Calls Try.prog 17 #[.pointer (some ⟨p, 0, none⟩)] w R := by
  have HR := hid hR
  have HH := hid H
  have HS := hid hS
  clear hR H hS
  go_enter Try.func17, Try.ntmps17
  go_wp2_with (go_at_call 33; refine rout_ok (m := 0) (xs := []) HH.out ⟨rfl, none, 0, rfl, .inl rfl⟩ (by omega) HS.out ?_; intro w' cap' cs' bs' h1 h2 h3; have H1 := hid h1; have H2 := hid h2; have H3 := hid h3; clear h1 h2 h3)
  exact HR.out _ _ _ _ (fun i hi => by have := H1.out i hi; simpa using this) H2.out H3.out

set_option maxHeartbeats 1000000 in
set_option maxRecDepth 100000 in
theorem rcrash_ok {S : Nat → Prop} {p n cap : Nat} {cs : Array Value} {l : List (Int × Array Value)} {bs : Nat} {bv : Value} {v : Value} {m : Nat} {xs : List Int} {w : World} {R : Ending → World → Prop} (H : RefAt S w p n cap cs l bs bv) (hk : RowsAt S w v m 1 (ints xs)) (hm : m < 9223372036854775808) (hS : ∀ b, S b → b < w.heap.size)
    (hR : ∀ w' cap' cs' bs', Settled n cs l (fun i => xs.contains i) cs' → RefAt S w' p n cap' cs' [] bs' (.slice none 0 0) → Fr (fun b => b = p) w w' → R (.returned (.int .i64 0)) w') :
    Calls Try.prog 40 #[.pointer (some ⟨p, 0, none⟩), v] w R := by
  have HR := hid hR
  have HH := hid H
  have HS := hid hS
  have HK := hid hk
  clear hR H hS
  obtain ⟨_, ka, kc, rfl, _⟩ := hk
  go_enter Try.func40, Try.ntmps40
  go_wp2_with (go_at_call 33; refine rout_ok (all := false) (xs := xs) HH.out HK.out hm HS.out ?_; intro w' cap' cs' bs' h1 h2 h3; have H1 := hid h1; have H2 := hid h2; have H3 := hid h3; clear h1 h2 h3)
  exact HR.out _ _ _ _ (fun i hi => by have := H1.out i hi; simpa using this) H2.out H3.out

theorem intT : ElemT Try.prog 30 3 1 8 := ⟨by kernel_rfl, by kernel_rfl⟩
theorem one1 {i : Int} : Hid (∀ u ∈ (Value.int .i64 i).cells.toList, u.oneCell' = true) := fun u hu => by
  simp [Value.cells] at hu; subst hu; rfl

/-- The keys, in order. -/
def keys (l : List (Int × Array Value)) : List Int := l.map (·.1)

set_option maxHeartbeats 1000000 in
set_option maxRecDepth 100000 in
theorem rloose_ok {S : Nat → Prop} {p n cap : Nat} {cs : Array Value} {l : List (Int × Array Value)} {bs : Nat} {bv : Value} {w : World} {R : Ending → World → Prop} (H : RefAt S w p n cap cs l bs bv)
    (hR : ∀ v w', (∀ S, (∀ b, w.heap.size ≤ b → ¬ S b) → RowsAt S w' v l.length 1 (ints (keys l))) → Fr No w w' → R (.returned v) w') :
    Calls Try.prog 29 #[.pointer (some ⟨p, 0, none⟩)] w R := by
  have c1 := cell_at (o := 1) H.head rfl
  simp only [List.getElem_toArray, List.getElem_cons_zero, List.getElem_cons_succ] at c1
  have HR := hid hR
  have HH := hid H
  have hfew := H.few
  have hmost := H.most
  have HT := hid intT
  obtain ⟨_, ba, bc, rfl, _⟩ := H.buf
  clear hR H
  go_enter Try.func29, Try.ntmps29
  go_wp2
  go_loopw [3, 4] (fun t3 t4 wr => ∃ k : Nat, k ≤ l.length ∧ t4 = .int .i64 k ∧ Hid (wr.ownsRow w.heap.size 3 1 t3 k (ints (keys (l.take k)))) ∧ Hid (Fr No w wr)) (fun _ t4 _ => l.length - (intOf t4).toNat)
  case atStart => exact ⟨0, Nat.zero_le _, rfl, World.ownsRow_nil _ _ _ _, Fr.refl _ _⟩
  case round =>
    obtain ⟨k, hk, rfl, ho, hf⟩ := hrel
    have HO := hid ho.out
    have HF := hid hf.out
    clear ho hf
    have q0 : wr.cell? ⟨p, 1, none⟩ = some (.slice ba l.length bc) := cell_at (o := 1) (HF.out.keep HH.out.head (fun h => h)) rfl
    by_cases hlt : k < l.length
    · obtain ⟨x, hx⟩ : ∃ x, l[k]? = some x := ⟨l[k], List.getElem?_eq_getElem hlt⟩
      obtain ⟨b, off, cp, e, hbl, _, hcell, _⟩ := buf_at HH.out.buf HH.out.vals hx
      simp only [Value.slice.injEq, true_and] at e
      obtain ⟨rfl, rfl⟩ := e
      have q1 : wr.cell? ⟨b, off + k * 33, none⟩ = some (.int .i64 x.1) := (HF.out.cell hbl (fun h => h)).trans hcell
      have HTK := hid (take_snoc' hx)
      clear hcell hbl hx
      go_wp2_with (refine wpList_push _ _ 1 8 HT (by decide) (by decide) rfl _ rfl _ rfl rfl _ rfl _ rfl (show (Value.int .i64 x.1).cells.size = 1 from rfl) one1 _ (fun _ => rfl) (fun _ => rfl) w w.heap.size (hid rfl) HF _ _ HO (by simp only [maxLen]; omega) (by omega) ?_; intro v' w' ho' hf' hn'; have OO : Hid (w'.ownsRow w.heap.size 3 1 v' (k + 1) (ints (keys (l.take k)) ++ [.int .i64 x.1])) := ho'; clear q0 q1 HO HF ho')
      go_roundw
      case rel => exact ⟨k + 1, by omega, by go_num, by rw [HTK.out]; simpa [keys] using OO, hf'⟩
      case measure => simp [intOf]; omega
    · obtain rfl : k = l.length := by omega
      rw [List.take_length] at HO
      go_wp2
      exact HR.out _ _ (fun S hS => RowsAt.of_owns HO.out hS) HF.out

/-! ### New, Fork -/

theorem rnew_no {i : Int} {w : World} {R : Ending → World → Prop} (h : i < 1 ∨ 2048 < i) (hR : R (.returned (.pointer none)) w) : Calls Try.prog 25 #[.int .i64 i] w R := by
  have HR := hid hR
  clear hR
  by_cases h1 : i < 1
  · clear h
    go_enter Try.func25, Try.ntmps25
    go_wp2
    exact HR.out
  · have h2 : 2048 < i := by omega
    clear h
    go_enter Try.func25, Try.ntmps25
    go_wp2
    exact HR.out

/-- A row of zero bytes. -/
theorem made_zero {n j : Nat} {v : Value} (hv : (madeCells Z32 (n * 32))[j]? = some v) : v = .int .u8 0 := by
  unfold madeCells at hv
  simp only [Array.getElem?_map, Option.map_eq_some_iff] at hv
  obtain ⟨q, hq, rfl⟩ := hv
  have h32 : Z32.size = 32 := Z32_is.1
  have hlt : q % Z32.size < Z32.size := Nat.mod_lt _ (by omega)
  rw [getElem!_pos Z32 _ hlt]
  simp [Z32]

theorem run_mkSecs {P : Program} {w : World} {T e : TypeId} {n : Nat} {it : TypeInfo} (hu : P.underlying T = some (.slice e)) (hi : P.info? e = some it) (hz : it.zero = some (.agg Z32)) (hs : it.size = 32) (hb : it.bytes = 32) (hn : n ≤ 2048) :
    (Instr.makeSlice T (.int .i64 n) (.int .i64 n)).run P w = .ok (.slice (some ⟨w.heap.size, 0, none⟩) n n) (w.alloc (.cells (madeCells Z32 (n * 32)) e)) := by
  have := run_make (P := P) w T e it (.agg Z32) hu hi hz .i64 .i64 n n (by omega) (Int.le_refl _) (by rw [hb]; omega) (by omega)
  simpa [hs, Value.cells] using this

theorem rsecInfo : ∃ it, Try.prog.info? 41 = some it ∧ it.zero = some (.agg Z32) ∧ it.size = 32 ∧ it.bytes = 32 := by
  have h : (Try.prog.info? 41).map (fun it => (it.zero, it.size, it.bytes)) = some (some (.agg Z32), 32, 32) := by kernel_rfl
  cases hq : Try.prog.info? 41 with
  | none => simp [hq] at h
  | some it => simp [hq] at h; exact ⟨it, rfl, h.1, h.2.1, h.2.2⟩

theorem wpList_mkSecs {ops : Array Oper} {rest : List Oper} {o : Oper} {a : Act} {w : World} {Q : Exit → Act → World → Prop} {x y : Operand} {n : Nat} (hn : n ≤ 2048) (hg : o.guard = none) (ho : o.op = .makeSlice 65 x y)
    (hx : a.eval x = .int .i64 n) (hy : a.eval y = .int .i64 n) (h : wpList Try.prog ops Q rest (a.put o.dst (.slice (some ⟨w.heap.size, 0, none⟩) n n)) (w.alloc (.cells (madeCells Z32 (n * 32)) 41))) : wpList Try.prog ops Q (o :: rest) a w := by
  obtain ⟨it, h1, h2, h3, h4⟩ := rsecInfo
  refine wpList_ok hg ?_ h
  unfold execOp
  simp only [ho, hx, hy, Sem.run_bind, run_mkSecs rsecsU h1 h2 h3 h4 hn, Result.andThen_ok]
  rfl

theorem zeroDisk {n : Nat} : n * 32 ≤ (madeCells Z32 (n * 32)).size ∧ Bytes n (madeCells Z32 (n * 32)) ∧ ∀ i, i < n → sec (madeCells Z32 (n * 32)) i = Z32 := by
  have hsz := size_madeCells Z32 (n * 32)
  refine ⟨by rw [hsz]; exact Nat.le_refl _, fun j v hj hv => ⟨0, by decide, by decide, made_zero hv⟩, fun i hi => Array.ext_getElem? fun j => ?_⟩
  simp only [sec]
  rw [Array.getElem?_extract]
  by_cases hj : j < 32
  · rw [if_pos (by rw [hsz]; omega)]
    have h1 : i * 32 + j < (madeCells Z32 (n * 32)).size := by rw [hsz]; omega
    rw [Array.getElem?_eq_getElem h1, made_zero (Array.getElem?_eq_getElem h1)]
    have h2 : j < Z32.size := by rw [Z32_is.1]; exact hj
    rw [Array.getElem?_eq_getElem h2]
    simp [Z32]
  · rw [if_neg (by rw [hsz]; omega), Array.getElem?_eq_none (by rw [Z32_is.1]; omega)]

set_option maxHeartbeats 1000000 in
set_option maxRecDepth 100000 in
theorem rnew_ok {n : Nat} {w : World} {R : Ending → World → Prop} (h1 : 1 ≤ n) (h2 : n ≤ 2048)
    (hR : ∀ w' p cap cs bs, (∀ S : Nat → Prop, S p → ¬ S bs → RefAt S w' p n cap cs [] bs (.slice none 0 0)) → (∀ i, i < n → sec cs i = Z32) → w.heap.size ≤ p → w.heap.size ≤ bs → p ≠ bs → p < w'.heap.size → bs < w'.heap.size → Fr No w w' → R (.returned (.pointer (some ⟨p, 0, none⟩))) w') :
    Calls Try.prog 25 #[.int .i64 n] w R := by
  have HR := hid hR
  clear hR
  have hn1 : ¬ (n : Int) < 1 := by omega
  have hn2 : ¬ (2048 : Int) < n := by omega
  go_enter Try.func25, Try.ntmps25
  go_wp2_with (refine wpList_mkSecs h2 rfl rfl rfl rfl ?_)
  obtain ⟨z1, z2, z3⟩ := zeroDisk (n := n)
  have hb : (w.alloc (.cells (madeCells Z32 (n * 32)) 41)).heap[w.heap.size]? = some (.cells (madeCells Z32 (n * 32)) 41 (0, 0)) := heap_alloc_new w _
  have hp : ((w.alloc (.cells (madeCells Z32 (n * 32)) 41)).alloc (.cells #[.slice (some ⟨w.heap.size, 0, none⟩) n n, .slice none 0 0] 68)).heap[w.heap.size + 1]? = some (.cells #[.slice (some ⟨w.heap.size, 0, none⟩) n n, .slice none 0 0] 68 (0, 0)) := heap_alloc2_new w _ _
  refine HR.out _ (w.heap.size + 1) n (madeCells Z32 (n * 32)) w.heap.size (fun S hp' hb' => ⟨hp, alloc_keep hb _, z1, h2, z2, ⟨rfl, none, 0, rfl, .inl rfl⟩, List.Pairwise.nil, (fun _ h => by cases h), (fun _ h => by cases h), hp', hb'⟩) z3 (by omega) (Nat.le_refl _) (by omega) (lt_of_heap hp) (by have := lt_of_heap hp; omega) (((Fr.refl No w).alloc _).alloc _)

end Go.Proofs.Ytoffkaojhcnddaa
