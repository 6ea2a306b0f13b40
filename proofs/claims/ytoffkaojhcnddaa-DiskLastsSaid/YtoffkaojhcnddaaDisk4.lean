/- A new disk; another disk with the same. No condition beside that the disk lies there. -/
import Derived.Test.YtoffkaojhcnddaaDisk3
import Derived.Test.YtoffkaojhcnddaaHeld
import Derived.Shelf.SlMaps.Clone
namespace Go.Proofs.Ytoffkaojhcnddaa
set_option linter.unusedSimpArgs false
open Go.RowKit Go.Maps
attribute [local irreducible] wpQuiet wpAnyH

theorem sectorInfo : (Try.prog.info? 36).map (fun i => (i.zero, i.size, i.bytes)) = some (some (.agg Z32), 32, 32) := by kernel_rfl

set_option maxHeartbeats 1000000 in
set_option maxRecDepth 100000 in
theorem sclone_ok {b n cap : Nat} {cs : Array Value} {w : World} {R : Ending → World → Prop} (hb : w.heap[b]? = some (.cells cs 36 (0, 0))) (h1 : 1 ≤ n) (hn : n ≤ 2048) (hs : n * 32 ≤ cs.size) (hbyte : Bytes n cs)
    (hR : ∀ g cap' cur w', w.heap.size ≤ g → w'.heap[g]? = some (.cells cur 36 (0, 0)) → n * 32 ≤ cur.size → (∀ j, j < n * 32 → cur[j]? = cs[j]?) → Fr No w w' → R (.returned (.slice (some ⟨g, 0, none⟩) n cap')) w') :
    Calls Try.prog 38 #[.slice (some ⟨b, 0, none⟩) n cap] w R := by
  have HR := hid hR
  have HB := hid hb
  have hblt : b < w.heap.size := lt_of_heap hb
  have hq := fun w => Lib.run_eql_slice_nil (P := Try.prog) w 60 36 (some ⟨b, 0, none⟩) n cap 0 0 secsU
  obtain ⟨i0, hi, hz0, hz1, hz2⟩ := info_parts sectorInfo
  have HI := hid hi
  have H1 : Hid (0 + n ≤ maxLen) := by unfold maxLen; show _ ≤ _; omega
  have H2 : Hid ((0 + n) * 32 ≤ 140737488355328) := by show _ ≤ _; omega
  have hown : Hid ((w.alloc (.cells #[] 36)).ownsRow w.heap.size 36 32 (.slice (some ⟨w.heap.size, 0, none⟩) 0 0) 0 []) := World.ownsRow_made w #[] 0 (Nat.le_refl _) (by unfold maxLen; omega) rfl
  have hlen : Hid ((cs.toList.take (n * 32)).length = n * 32) := by show _ = _; simp; omega
  have hnews : Hid (∀ j u, (cs.toList.take (n * 32))[j]? = some u → (w.alloc (.cells #[] 36)).cell? ((⟨b, 0, none⟩ : Addr).add j) = some u) := by
    intro j u hu
    rw [Addr.add_mid]
    refine cell_at (alloc_keep hb _) ?_
    rw [List.getElem?_take] at hu
    split at hu
    · simpa using hu
    · cases hu
  have hone : Hid (∀ u ∈ cs.toList.take (n * 32), u.oneCell' = true) := fun u hu => by
    obtain ⟨j, hj⟩ := List.getElem?_of_mem hu
    rw [List.getElem?_take] at hj
    split at hj
    · obtain ⟨m, _, _, rfl⟩ := hbyte j u (by assumption) (by simpa using hj); rfl
    · cases hj
  clear hR hb hi
  go_enter Try.func38, Try.ntmps38
  go_wp2_with (at_builtin; refine wpList_append_own _ rfl _ _ 60 rfl w.heap.size 36 i0 _ 32 32 secsU HI.out hz0 hz1 hz2 rfl (by decide) _ _ _ rfl hown.out ⟨b, 0, none⟩ n cap _ rfl hlen.out hnews.out hone.out H1.out H2.out (by simp) ?_; intro v' w1 hown1 hgrow _; have HO := hid hown1; have HG := hid hgrow; clear hown1 hgrow)
  have hF : Fr No w w1 := ((Fr.refl No w).alloc _).grown HG.out (fun k hk => .inr (by { cases hk; exact Nat.le_refl _ }))
  obtain ⟨_, h | ⟨g, cap', cur, hv, hg, hh, hc1, _, hc2, hc3⟩⟩ := HO.out
  · omega
  · have := HR.out g cap' cur w1 hg hh (by rw [hc2]; exact Nat.mul_le_mul_right _ (by omega)) (fun j hj => by
      have e := congrArg (fun l : List Value => l[j]?) hc3
      simp only [List.nil_append, List.getElem?_take, Nat.zero_add] at e
      rw [if_pos hj, if_pos hj] at e
      simpa using e) hF
    rw [Nat.zero_add] at hv
    rw [← hv] at this
    exact this

set_option maxHeartbeats 1000000 in
set_option maxRecDepth 100000 in
theorem mclone_ok {b : Nat} {l : List (Int × Array Value)} {w : World} {R : Ending → World → Prop} (M : MapAt Try.prog 3 .i64 Value.agg w b l)
    (hR : ∀ w', MapAt Try.prog 3 .i64 Value.agg w' w.heap.size l → Fr No w w' → R (.returned (.map (some w.heap.size))) w') :
    Calls Try.prog 39 #[.map (some b)] w R := by
  obtain ⟨es, clock, hb, F, hsz, hD⟩ := M.owns
  have M' : MapAt Try.prog 3 .i64 Value.agg (w.alloc (.map es clock)) w.heap.size l := ⟨⟨es, clock, heap_alloc_new w _, F, hsz, hD⟩, M.srt, M.wf⟩
  have HR := hid hR
  have hq := fun w => run_eql_map_nil_sl (P := Try.prog) w 61 _ _ (some b) bufU
  clear hR hD F hsz M
  go_enter Try.func39, Try.ntmps39
  go_wp2
  rw [run_callFunc_extern Try.func45 (by kernel_rfl) (by kernel_rfl) (by kernel_rfl) (e := Extern.MapsClone.clone) (by kernel_rfl), run_maps_clone_sl w 61 hb]
  simp only [Result.andThen]
  rw [Oper.upon_value]
  go_wp2
  rw [run_typeAssert_map_sl _ 61 _ _ _ _ bufU]
  simp only [Result.andThen]
  rw [Oper.upon_value]
  go_wp2
  exact HR.out _ M' ((Fr.refl No w).alloc _)

theorem bufMapU : Try.prog.underlying 61 = some (.map 3 36) := bufU
theorem var_buf {w : World} {p : Nat} {c : Array Value} {t : TypeId} {fr : Nat × Nat} {v : Value} {o : Nat} (h : w.heap[p]? = some (.cells c t fr)) (hv : c[o]? = some v) : (loadVar 61 ⟨p, o, none⟩).run Try.prog w = .ok v w := by
  have hagg : (isAgg 61).run Try.prog w = .ok false w := by unfold isAgg; rw [Sem.run_bind, run_underlying bufU w]; rfl
  simp [loadVar, Sem.run_bind, hagg, cell_at h hv]

theorem sec_congr {cs cs' : Array Value} {n : Nat} (h0 : n * 32 ≤ cs.size) (h1 : n * 32 ≤ cs'.size) (h : ∀ j, j < n * 32 → cs'[j]? = cs[j]?) {i : Nat} (hi : i < n) : sec cs' i = sec cs i := by
  refine Array.ext_getElem? fun j => ?_
  simp only [sec]
  rw [Array.getElem?_extract, Array.getElem?_extract]
  by_cases hj : j < 32
  · rw [if_pos (by omega), if_pos (by omega)]; exact h _ (by omega)
  · rw [if_neg (by omega), if_neg (by omega)]

set_option maxHeartbeats 1000000 in
set_option maxRecDepth 100000 in
theorem fork_ok {p n cap : Nat} {cs : Array Value} {l : List (Int × Array Value)} {bs bm : Nat} {w : World} {R : Ending → World → Prop} (H : DiskAt w p n cap cs l bs bm) (h1 : 1 ≤ n)
    (hR : ∀ w' p' cap' cs' bs' bm', DiskAt w' p' n cap' cs' l bs' bm' → (∀ i, i < n → sec cs' i = sec cs i) → w.heap.size ≤ p' → w.heap.size ≤ bs' → w.heap.size ≤ bm' → Fr No w w' → R (.returned (.pointer (some ⟨p', 0, none⟩))) w') :
    Calls Try.prog 20 #[.pointer (some ⟨p, 0, none⟩)] w R := by
  have HR := hid hR
  have HH := hid H
  clear hR H
  go_enter Try.func20, Try.ntmps20
  go_wp2
  refine region_held (n := 13) (Fr No w) follows (by kernel_rfl) ?_
  have HS : Fr No w w.drew := (Fr.refl No w).drew
  (refine h_val 0 rfl (by kernel_rfl) (by kernel_rfl) (by kernel_rfl) (fun _ _ _ h => h) HS (by kernel_rfl) (fun W _ => run_move rfl rfl W) ?_; simp only [Act.put, Act.eval, Array.getD_eq_getD_getElem?, List.setIfInBounds_toArray, List.set_cons_succ, List.set_cons_zero, List.getElem?_toArray, List.getElem?_cons_succ, List.getElem?_cons_zero, Option.getD_some])
  (refine h_val 1 rfl (by kernel_rfl) (by kernel_rfl) (by kernel_rfl) (fun _ _ _ h => h) HS (by kernel_rfl) (fun W _ => run_nilCheck rfl rfl W) ?_; simp only [Act.put, Act.eval, Array.getD_eq_getD_getElem?, List.setIfInBounds_toArray, List.set_cons_succ, List.set_cons_zero, List.getElem?_toArray, List.getElem?_cons_succ, List.getElem?_cons_zero, Option.getD_some])
  (refine h_val 2 rfl (by kernel_rfl) (by kernel_rfl) (by kernel_rfl) (fun _ _ _ h => h) HS (by kernel_rfl) (fun W _ => run_field rfl rfl (fieldD0 p) W) ?_; simp only [Act.put, Act.eval, Array.getD_eq_getD_getElem?, List.setIfInBounds_toArray, List.set_cons_succ, List.set_cons_zero, List.getElem?_toArray, List.getElem?_cons_succ, List.getElem?_cons_zero, Option.getD_some])
  (refine h_val (v := .slice (some ⟨bs, 0, none⟩) n cap) 3 rfl (by kernel_rfl) (by kernel_rfl) (by kernel_rfl) (fun _ _ _ h => h) HS (by kernel_rfl) (fun W hW => run_loadv rfl rfl (var_secs (hW.keep HH.out.head (fun h => h)) rfl)) ?_; simp only [Act.put, Act.eval, Array.getD_eq_getD_getElem?, List.setIfInBounds_toArray, List.set_cons_succ, List.set_cons_zero, List.getElem?_toArray, List.getElem?_cons_succ, List.getElem?_cons_zero, Option.getD_some])
  (refine h_val 5 rfl (by kernel_rfl) (by kernel_rfl) (by kernel_rfl) (fun _ _ _ h => h) HS (by kernel_rfl) (fun W _ => run_move rfl rfl W) ?_; simp only [Act.put, Act.eval, Array.getD_eq_getD_getElem?, List.setIfInBounds_toArray, List.set_cons_succ, List.set_cons_zero, List.getElem?_toArray, List.getElem?_cons_succ, List.getElem?_cons_zero, Option.getD_some])
  (refine h_val 6 rfl (by kernel_rfl) (by kernel_rfl) (by kernel_rfl) (fun _ _ _ h => h) HS (by kernel_rfl) (fun W _ => run_nilCheck rfl rfl W) ?_; simp only [Act.put, Act.eval, Array.getD_eq_getD_getElem?, List.setIfInBounds_toArray, List.set_cons_succ, List.set_cons_zero, List.getElem?_toArray, List.getElem?_cons_succ, List.getElem?_cons_zero, Option.getD_some])
  (refine h_val 7 rfl (by kernel_rfl) (by kernel_rfl) (by kernel_rfl) (fun _ _ _ h => h) HS (by kernel_rfl) (fun W _ => run_field rfl rfl (fieldD1 p) W) ?_; simp only [Act.put, Act.eval, Array.getD_eq_getD_getElem?, List.setIfInBounds_toArray, List.set_cons_succ, List.set_cons_zero, List.getElem?_toArray, List.getElem?_cons_succ, List.getElem?_cons_zero, Option.getD_some])
  (refine h_val (v := .map (some bm)) 8 rfl (by kernel_rfl) (by kernel_rfl) (by kernel_rfl) (fun _ _ _ h => h) HS (by kernel_rfl) (fun W hW => run_loadv rfl rfl (var_buf (hW.keep HH.out.head (fun h => h)) rfl)) ?_; simp only [Act.put, Act.eval, Array.getD_eq_getD_getElem?, List.setIfInBounds_toArray, List.set_cons_succ, List.set_cons_zero, List.getElem?_toArray, List.getElem?_cons_succ, List.getElem?_cons_zero, Option.getD_some])
  refine h_call (args := #[.slice (some ⟨bs, 0, none⟩) n cap]) 4 (by kernel_rfl) rfl (by kernel_rfl) (run_callf1 (g := 38) (v := .slice (some ⟨bs, 0, none⟩) n cap) (fun _ _ => by kernel_rfl) rfl rfl _) ?_
  refine sclone_ok (w := w.drew) HH.out.secs h1 HH.out.most HH.out.size HH.out.byte ?_
  intro g cap' cur w1 hg hh hsz hcur hF1
  have HS1 : Fr No w w1 := HS.no hF1
  refine ⟨HS1, ?_⟩
  clear HS
  have HS := HS1
  clear HS1
  simp only [Act.put, Act.eval, Array.getD_eq_getD_getElem?, List.setIfInBounds_toArray, List.set_cons_succ, List.set_cons_zero, List.getElem?_toArray, List.getElem?_cons_succ, List.getElem?_cons_zero, Option.getD_some]
  refine h_call (args := #[.map (some bm)]) 9 (by kernel_rfl) rfl (by kernel_rfl) (run_callf1 (g := 39) (v := .map (some bm)) (fun _ _ => by kernel_rfl) rfl rfl _) ?_
  refine mclone_ok (HH.out.buf.fr HS (fun h => h)) ?_
  intro w2 M2 hF2
  have HS2 : Fr No w w2 := HS.no hF2
  refine ⟨HS2, ?_⟩
  have hsz1 : w.heap.size ≤ w1.heap.size := HS.size
  clear HS
  have HS := HS2
  simp only [Act.put, Act.eval, Array.getD_eq_getD_getElem?, List.setIfInBounds_toArray, List.set_cons_succ, List.set_cons_zero, List.getElem?_toArray, List.getElem?_cons_succ, List.getElem?_cons_zero, Option.getD_some]
  (refine h_val (v := .agg #[.slice (some ⟨g, 0, none⟩) n cap', .map (some w1.heap.size)]) 10 rfl (by kernel_rfl) (by kernel_rfl) (by kernel_rfl) (fun _ _ _ h => h) HS (by kernel_rfl) (fun W _ => by kernel_rfl) ?_; simp only [Act.put, Act.eval, Array.getD_eq_getD_getElem?, List.setIfInBounds_toArray, List.set_cons_succ, List.set_cons_zero, List.getElem?_toArray, List.getElem?_cons_succ, List.getElem?_cons_zero, Option.getD_some])
  (refine h_one 11 (by kernel_rfl) rfl (by kernel_rfl) (run_box rfl rfl _) (HS.alloc _) ?_; simp only [Act.put, Act.eval, Array.getD_eq_getD_getElem?, List.setIfInBounds_toArray, List.set_cons_succ, List.set_cons_zero, List.getElem?_toArray, List.getElem?_cons_succ, List.getElem?_cons_zero, Option.getD_some])
  have HS3 : Fr No w (w2.alloc (.cells #[.slice (some ⟨g, 0, none⟩) n cap', .map (some w1.heap.size)] 63)) := HS.alloc _
  clear HS
  have HS := HS3
  (refine h_val 12 rfl (by kernel_rfl) (by kernel_rfl) (by kernel_rfl) (fun _ _ _ h => h) HS (by kernel_rfl) (fun W _ => run_assign rfl rfl W) ?_; simp only [Act.put, Act.eval, Array.getD_eq_getD_getElem?, List.setIfInBounds_toArray, List.set_cons_succ, List.set_cons_zero, List.getElem?_toArray, List.getElem?_cons_succ, List.getElem?_cons_zero, Option.getD_some])
  refine h_done (by kernel_rfl) ?_
  go_wp2
  refine HR.out _ w2.heap.size cap' cur g w1.heap.size ⟨heap_alloc_new w2 _, alloc_keep (hF2.keep hh (fun h => h)) _, hsz, HH.out.most, fun j v hj hv => HH.out.byte j v hj (by rw [← hcur j hj]; exact hv), M2.alloc _, HH.out.keys, HH.out.vals⟩ (fun i hi => sec_congr HH.out.size hsz hcur hi) (by have := hF2.size; omega) hg hsz1 HS3

end Go.Proofs.Ytoffkaojhcnddaa
