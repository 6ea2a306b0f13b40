/- What the disk's functions do to memory: contracts of the program's disk. No condition beside that the disk lies there. -/
import Derived.Test.YtoffkaojhcnddaaRows
import Derived.Test.YtoffkaojhcnddaaMaps
namespace Go.Proofs.Ytoffkaojhcnddaa
set_option linter.unusedSimpArgs false
open Go.RowKit Go.Maps

theorem underlyingI : Try.prog.underlying 3 = some (.int .i64) := by kernel_rfl
theorem sectorU : Try.prog.underlying 36 = some (.array 32 5) := by kernel_rfl
theorem sectorI : (Try.prog.info? 36).map (·.size) = some 32 := by kernel_rfl
theorem bufU : Try.prog.underlying 61 = some (.map 3 36) := by kernel_rfl
theorem follows : Try.prog.follows .mixedOrders = true := by kernel_rfl

/-- A byte's value. -/
def IsB (v : Value) : Prop := ∃ n : Int, 0 ≤ n ∧ n < 256 ∧ v = .int .u8 n
/-- 32 bytes, as an array's cells. -/
def IsSec (c : Array Value) : Prop := c.size = 32 ∧ ∀ v ∈ c, IsB v

/-- The first n sectors' cells are bytes. -/
def Bytes (n : Nat) (cs : Array Value) : Prop := ∀ j v, j < n * 32 → cs[j]? = some v → IsB v

/-- A disk lies at p: its n sectors' cells are cs, its buffer reads as l. -/
structure DiskAt (w : World) (p n cap : Nat) (cs : Array Value) (l : List (Int × Array Value)) (bs bm : Nat) : Prop where
  head : w.heap[p]? = some (.cells #[.slice (some ⟨bs, 0, none⟩) n cap, .map (some bm)] 63 (0, 0))
  secs : w.heap[bs]? = some (.cells cs 36 (0, 0))
  size : n * 32 ≤ cs.size
  most : n ≤ 2048
  byte : Bytes n cs
  buf : MapAt Try.prog 3 .i64 Value.agg w bm l
  keys : ∀ x ∈ l, 0 ≤ x.1 ∧ x.1 < n
  vals : ∀ x ∈ l, IsSec x.2

theorem DiskAt.few {w : World} {p n cap : Nat} {cs : Array Value} {l : List (Int × Array Value)} {bs bm : Nat} (H : DiskAt w p n cap cs l bs bm) : l.length ≤ n := H.buf.srt.length_le H.keys

theorem DiskAt.ne_ps {w : World} {p n cap : Nat} {cs : Array Value} {l : List (Int × Array Value)} {bs bm : Nat} (H : DiskAt w p n cap cs l bs bm) : p ≠ bs := by
  intro e; subst e
  have h1 := H.head
  rw [H.secs] at h1
  simp at h1

theorem DiskAt.ne_pm {w : World} {p n cap : Nat} {cs : Array Value} {l : List (Int × Array Value)} {bs bm : Nat} (H : DiskAt w p n cap cs l bs bm) : p ≠ bm := H.buf.not_cells H.head
theorem DiskAt.ne_sm {w : World} {p n cap : Nat} {cs : Array Value} {l : List (Int × Array Value)} {bs bm : Nat} (H : DiskAt w p n cap cs l bs bm) : bs ≠ bm := H.buf.not_cells H.secs

/-- The disk's own blocks. -/
abbrev DiskS (p bs bm : Nat) : Nat → Prop := fun b => b = p ∨ b = bs ∨ b = bm

theorem DiskAt.fr {S : Nat → Prop} {w w' : World} {p n cap : Nat} {cs : Array Value} {l : List (Int × Array Value)} {bs bm : Nat} (H : DiskAt w p n cap cs l bs bm) (hf : Fr S w w') (hS : ∀ b, DiskS p bs bm b → ¬ S b) : DiskAt w' p n cap cs l bs bm :=
  ⟨hf.keep H.head (hS p (.inl rfl)), hf.keep H.secs (hS bs (.inr (.inl rfl))), H.size, H.most, H.byte, H.buf.fr hf (hS bm (.inr (.inr rfl))), H.keys, H.vals⟩

theorem DiskAt.no {w w' : World} {p n cap : Nat} {cs : Array Value} {l : List (Int × Array Value)} {bs bm : Nat} (H : DiskAt w p n cap cs l bs bm) (hf : Fr No w w') : DiskAt w' p n cap cs l bs bm := H.fr hf (fun _ _ h => h)

theorem may_nil {i : Int} {w : World} {R : Ending → World → Prop} (hR : R (.returned (.int .i64 1)) w) :
    Calls Try.prog 30 #[.pointer none, .int .i64 i] w R := by
  go_enter Try.func30, Try.ntmps30
  go_wp2
  exact hR

theorem may_ok {p n m : Nat} {sa : Option Addr} {i : Int} {w : World} {R : Ending → World → Prop} (h0 : w.cell? ⟨p, 0, none⟩ = some (.slice sa n m)) (h1 : 0 ≤ i) (h2 : i < n)
    (hR : R (.returned (.int .i64 0)) w) :
    Calls Try.prog 30 #[.pointer (some ⟨p, 0, none⟩), .int .i64 i] w R := by
  go_enter Try.func30, Try.ntmps30
  go_wp2
  exact hR

theorem may_no {p n m : Nat} {sa : Option Addr} {i : Int} {w : World} {R : Ending → World → Prop} (h0 : w.cell? ⟨p, 0, none⟩ = some (.slice sa n m)) (h1 : i < 0 ∨ (n : Int) ≤ i)
    (hR : R (.returned (.int .i64 2)) w) :
    Calls Try.prog 30 #[.pointer (some ⟨p, 0, none⟩), .int .i64 i] w R := by
  by_cases h : i < 0
  · clear h1
    go_enter Try.func30, Try.ntmps30
    go_wp2
    exact hR
  · have h2 : (n : Int) ≤ i := by omega
    clear h1
    go_enter Try.func30, Try.ntmps30
    go_wp2
    exact hR

set_option maxHeartbeats 400000 in
set_option maxRecDepth 100000 in
theorem write_ok {p n cap : Nat} {cs : Array Value} {l : List (Int × Array Value)} {bs bm : Nat} {i : Int} {c : Array Value} {w : World} {R : Ending → World → Prop} (H : DiskAt w p n cap cs l bs bm) (h0 : 0 ≤ i) (h1 : i < n) (hc : IsSec c)
    (hR : ∀ w', DiskAt w' p n cap cs (aput l i c) bs bm → Fr (fun b => b = bm) w w' → R (.returned (.int .i64 0)) w') :
    Calls Try.prog 12 #[.pointer (some ⟨p, 0, none⟩), .int .i64 i, .agg c] w R := by
  have c0 : w.cell? ⟨p, 0, none⟩ = some (.slice (some ⟨bs, 0, none⟩) n cap) := cell_at H.head rfl
  have c1 : w.cell? ⟨p, 1, none⟩ = some (.map (some bm)) := cell_at H.head rfl
  have hl : (loadVar 36 ⟨w.heap.size, 0, none⟩).run Try.prog (w.alloc (.cells c 36)).drew = .ok (.agg c) (w.alloc (.cells c 36)).drew :=
    var_row (heap_alloc_new w _) sectorU (by rw [hc.1]; exact sectorI)
  have c0' := cell_alloc c0 (.cells c 36)
  have c1' := cell_alloc c1 (.cells c 36)
  have hi : Hid ((Lit.int .i64 i).wf = true) := WalkArith.wf_i64 (by have := H.most; omega)
  have hn : Hid (l.length < 4294967296) := by have := H.most; have := H.few; show _ < _; omega
  go_enter Try.func12, Try.ntmps12
  go_wp2_with (go_at_call 30; refine may_ok c0' h0 h1 ?_)
  refine wp_tail 6 follows (by kernel_rfl) ?_
  simp only [List.take_succ_cons, List.take_zero, List.drop_succ_cons, List.drop_zero]
  repeat still_step
  refine wpStill_loadVar rfl rfl rfl hl ?_
  refine wpStill_nil ?_
  refine wpList_aput rfl rfl underlyingI bufU (H.buf.alloc _).drew hn.out rfl rfl hi.out rfl ?_
  intro w1 M F
  go_wp2
  have F0 : Fr No w (w.alloc (.cells c 36)).drew := ((Fr.refl No w).alloc _).drew
  have F1 : Fr (fun b => b = bm) w w1 := F0.any.trans F (fun _ h => .inl h)
  refine hR w1 ⟨F1.keep H.head H.ne_pm, F1.keep H.secs H.ne_sm, H.size, H.most, H.byte, M, fun x hx => ?_, fun x hx => ?_⟩ F1
  · rcases aput_mem hx with rfl | hx
    · exact ⟨h0, h1⟩
    · exact H.keys x hx
  · rcases aput_mem hx with rfl | hx
    · exact hc
    · exact H.vals x hx

set_option maxHeartbeats 400000 in
set_option maxRecDepth 100000 in
theorem write_no {p n m : Nat} {sa : Option Addr} {i : Int} {c : Array Value} {w : World} {R : Ending → World → Prop} (h0 : w.cell? ⟨p, 0, none⟩ = some (.slice sa n m)) (h1 : i < 0 ∨ (n : Int) ≤ i)
    (hR : ∀ w', Fr No w w' → R (.returned (.int .i64 2)) w') :
    Calls Try.prog 12 #[.pointer (some ⟨p, 0, none⟩), .int .i64 i, .agg c] w R := by
  have c0' := cell_alloc h0 (.cells c 36)
  have H1 : Hid (i < 0 ∨ (n : Int) ≤ i) := h1
  clear h1
  go_enter Try.func12, Try.ntmps12
  go_wp2_with (go_at_call 30; refine may_no c0' H1.out ?_)
  exact (Fr.refl No w).alloc _

set_option maxHeartbeats 400000 in
set_option maxRecDepth 100000 in
theorem write_nil {i : Int} {c : Array Value} {w : World} {R : Ending → World → Prop} (hR : ∀ w', Fr No w w' → R (.returned (.int .i64 1)) w') :
    Calls Try.prog 12 #[.pointer none, .int .i64 i, .agg c] w R := by
  go_enter Try.func12, Try.ntmps12
  go_wp2_with (go_at_call 30; refine may_nil ?_)
  exact (Fr.refl No w).alloc _

/-- A sector of noughts. -/
def Z32 : Array Value := Array.replicate 32 (.int .u8 0)
theorem zeroSec (w : World) : (zeroValue 36).run Try.prog w = .ok (.agg Z32) w := by kernel_rfl
theorem byteSize (w : World) : ∃ k, (sizeOf 5).run Try.prog w = .ok k w := ⟨1, by kernel_rfl⟩
theorem Z32_is : IsSec Z32 := ⟨by simp [Z32], fun v hv => by
  simp only [Z32] at hv
  obtain ⟨_, rfl⟩ := Array.mem_replicate.1 hv
  exact ⟨0, by omega, by omega, rfl⟩⟩
theorem IsSec.one {c : Array Value} (h : IsSec c) : c.all (·.oneCell') = true :=
  Array.all_eq_true_iff_forall_mem.2 (fun v hv => by obtain ⟨n, _, _, rfl⟩ := h.2 v hv; rfl)
theorem IsSec.info {c : Array Value} (h : IsSec c) : (Try.prog.info? 36).map (·.size) = some c.size := by rw [h.1]; exact sectorI


/-- The cells of the i-th sector. -/
def sec (cs : Array Value) (i : Nat) : Array Value := cs.extract (i * 32) (i * 32 + 32)

theorem sec_is {cs : Array Value} {n i : Nat} (hs : n * 32 ≤ cs.size) (hb : Bytes n cs) (hi : i < n) : IsSec (sec cs i) := by
  have h1 : i * 32 + 32 ≤ n * 32 := by omega
  refine ⟨by simp [sec]; omega, fun v hv => ?_⟩
  simp only [sec] at hv
  obtain ⟨j, hj, rfl⟩ := Array.mem_iff_getElem.1 hv
  simp at hj
  refine hb (i * 32 + j) _ (by omega) ?_
  rw [Array.getElem_extract, Array.getElem?_eq_getElem]

/-- What is read of a disk: what stands in the buffer, else on the disk. -/
def readD (cs : Array Value) (l : List (Int × Array Value)) (i : Int) : Array Value := (aget l i).getD (sec cs i.toNat)

theorem DiskAt.readIs {w : World} {p n cap : Nat} {cs : Array Value} {l : List (Int × Array Value)} {bs bm : Nat} (H : DiskAt w p n cap cs l bs bm) {i : Int} (h0 : 0 ≤ i) (h1 : i < n) : IsSec (readD cs l i) := by
  unfold readD
  cases h : aget l i with
  | none => exact sec_is H.size H.byte (by omega)
  | some c => exact H.vals _ (aget_some_mem h)

set_option maxHeartbeats 400000 in
set_option maxRecDepth 100000 in
theorem read_no {p n m : Nat} {sa : Option Addr} {i : Int} {w : World} {R : Ending → World → Prop} (h0 : w.cell? ⟨p, 0, none⟩ = some (.slice sa n m)) (h1 : i < 0 ∨ (n : Int) ≤ i)
    (hR : ∀ w', Fr No w w' → R (.returned (.tuple #[.agg Z32, .int .i64 2])) w') :
    Calls Try.prog 14 #[.pointer (some ⟨p, 0, none⟩), .int .i64 i] w R := by
  have c0' := cell_alloc h0 (.cells Z32 36)
  have H1 : Hid (i < 0 ∨ (n : Int) ≤ i) := h1
  clear h1
  go_enter Try.func14, Try.ntmps14
  go_wp2_with (first
    | (refine wpList_allocRow rfl rfl (zeroSec _) ?_)
    | (refine wpList_build0 rfl rfl (zeroSec _) sectorU (byteSize _) ?_)
    | (refine wpList_storeNew rfl rfl rfl rfl (heap_alloc_new w _) Z32_is.info rfl Z32_is.one (World.setRow_alloc_new _ _ _ _) ?_)
    | (go_at_call 30; refine may_no c0' H1.out ?_))
  exact bodyPost_ret (results_cell_tmp rfl rfl rfl (heap_alloc_new w _) sectorU Z32_is.info) rfl (hR _ ((Fr.refl No w).alloc _))

set_option maxHeartbeats 400000 in
set_option maxRecDepth 100000 in
theorem read_some {p n cap : Nat} {cs : Array Value} {l : List (Int × Array Value)} {bs bm i : Nat} {c : Array Value} {w : World} {R : Ending → World → Prop} (H : DiskAt w p n cap cs l bs bm) (h1 : i < n) (hg : aget l i = some c)
    (hR : ∀ w', Fr No w w' → R (.returned (.tuple #[.agg c, .int .i64 0])) w') :
    Calls Try.prog 14 #[.pointer (some ⟨p, 0, none⟩), .int .i64 i] w R := by
  have c0 : w.cell? ⟨p, 0, none⟩ = some (.slice (some ⟨bs, 0, none⟩) n cap) := cell_at H.head rfl
  have c1 : w.cell? ⟨p, 1, none⟩ = some (.map (some bm)) := cell_at H.head rfl
  have c0' := cell_alloc c0 (.cells Z32 36)
  have c1' := cell_alloc c1 (.cells Z32 36)
  have hc : IsSec c := H.vals _ (aget_some_mem hg)
  have hzs : Hid (Z32.size = c.size) := by show _ = _; rw [hc.1]; exact Z32_is.1
  have hi : Hid ((Lit.int .i64 i).wf = true) := WalkArith.wf_i64 (by have := H.most; omega)
  have HG : Hid (aget l i = some c) := hg
  clear hg
  have h1' : (i : Int) < n := by omega
  have h0' : 0 ≤ (i : Int) := by omega
  go_enter Try.func14, Try.ntmps14
  go_wp2_with (first
    | (refine wpList_allocRow rfl rfl (zeroSec _) ?_)
    | (refine wpList_alook_some rfl rfl underlyingI bufU (zeroSec _) (H.buf.alloc _) rfl rfl hi.out HG.out ?_)
    | (go_at_call 30; refine may_ok c0' h0' h1' ?_)
    | (refine wpList_storeNew (x := .tmp 7) rfl rfl rfl rfl (heap_alloc_new _ _) hc.info hzs.out hc.one (World.setRow_alloc_new _ _ _ _) ?_)
    | (refine wpList_storeNew (x := .tmp 4) rfl rfl rfl rfl (heap_alloc2_old w _ _) hc.info hzs.out hc.one rfl ?_)
    | (refine wpList_loadVar (x := .tmp 7) rfl rfl rfl (var_row (heap_alloc2_new w _ _) sectorU hc.info) ?_))
  refine bodyPost_ret (v := .tuple #[.agg c, .int .i64 0]) (results_cell_tmp rfl rfl rfl (setRow_heap _ _ _ _ _ _ (heap_alloc2_old w _ _)) sectorU hc.info) rfl ?_
  exact hR _ ((((Fr.refl No w).alloc _).alloc _).setRow (.inr (Nat.le_refl _)) _)

set_option maxHeartbeats 400000 in
set_option maxRecDepth 100000 in
theorem read_none {p n cap : Nat} {cs : Array Value} {l : List (Int × Array Value)} {bs bm i : Nat} {w : World} {R : Ending → World → Prop} (H : DiskAt w p n cap cs l bs bm) (h1 : i < n) (hg : aget l i = none)
    (hR : ∀ w', Fr No w w' → R (.returned (.tuple #[.agg (sec cs i), .int .i64 0])) w') :
    Calls Try.prog 14 #[.pointer (some ⟨p, 0, none⟩), .int .i64 i] w R := by
  have c0 : w.cell? ⟨p, 0, none⟩ = some (.slice (some ⟨bs, 0, none⟩) n cap) := cell_at H.head rfl
  have c1 : w.cell? ⟨p, 1, none⟩ = some (.map (some bm)) := cell_at H.head rfl
  have c0' := cell_alloc c0 (.cells Z32 36)
  have c1' := cell_alloc c1 (.cells Z32 36)
  have c0'' := cell_alloc c0' (.cells Z32 36)
  have hc : IsSec (sec cs i) := sec_is H.size H.byte h1
  have hzs : Hid (Z32.size = (sec cs i).size) := by show _ = _; rw [hc.1]; exact Z32_is.1
  have hi : Hid ((Lit.int .i64 i).wf = true) := WalkArith.wf_i64 (by have := H.most; omega)
  have HG : Hid (aget l i = none) := hg
  have hfit : Hid (i * 32 + 32 ≤ cs.size) := by have := H.size; show _ ≤ _; omega
  have hsz : ∀ w : World, (sizeOf 36).run Try.prog w = .ok 32 w := fun w => by kernel_rfl
  clear hg
  have h1' : (i : Int) < n := by omega
  have h0' : 0 ≤ (i : Int) := by omega
  go_enter Try.func14, Try.ntmps14
  go_wp2_with (first
    | (refine wpList_allocRow rfl rfl (zeroSec _) ?_)
    | (refine wpList_alook_none rfl rfl underlyingI bufU (zeroSec _) (H.buf.alloc _) rfl rfl hi.out HG.out ?_)
    | (go_at_call 30; refine may_ok c0' h0' h1' ?_)
    | (refine wpList_storeNew (x := .tmp 7) rfl rfl rfl rfl (heap_alloc_new _ _) Z32_is.info rfl Z32_is.one (World.setRow_alloc_new _ _ _ _) ?_)
    | (refine wpList_storeNew (x := .tmp 4) rfl rfl rfl rfl (heap_alloc2_old w _ _) hc.info hzs.out hc.one rfl ?_)
    | (refine wpList_loadVar (x := .tmp 32) rfl rfl rfl (var_mid (alloc_keep (alloc_keep H.secs _) _) sectorU sectorI hfit.out) ?_))
  refine bodyPost_ret (v := .tuple #[.agg (sec cs i), .int .i64 0]) (results_cell_tmp rfl rfl rfl (setRow_heap _ _ _ _ _ _ (heap_alloc2_old w _ _)) sectorU hc.info) rfl ?_
  exact hR _ ((((Fr.refl No w).alloc _).alloc _).setRow (.inr (Nat.le_refl _)) _)

end Go.Proofs.Ytoffkaojhcnddaa
