/- The keys of the disk's buffer, sorted: (*Disk).Loose. No condition beside that the disk lies there. -/
import Derived.Shelf.SlIterI.Nil
import Derived.Shelf.SortM.Plain
import Derived.Shelf.SortM.SortNone
import Derived.Test.YtoffkaojhcnddaaLay
import Derived.Test.YtoffkaojhcnddaaDisk
import Derived.Test.YtoffkaojhcnddaaInts
namespace Go.Proofs.Ytoffkaojhcnddaa
set_option linter.unusedSimpArgs false
open Go.RowKit Go.Maps Go.Sort Go.Shelf

theorem sortsA (m : Nat) : AnyZI.SortsIn Try.prog Try.sortedA_ren Fence.wide m :=
  ⟨fun blk off cap ss W hH hblk hsz => callsIn_wide.2 (AnyM.slices_Sort_int Try.sortA blk off cap ss W hH hblk hsz),
   fun p cap W => callsIn_wide.2 (AnyM.slices_Sort_int_none Try.sortA p cap W)⟩

set_option maxHeartbeats 1000000 in
set_option maxRecDepth 100000 in
theorem loose_raw (p b nn : Nat) (D0 : DataW Value) (sv : Value) (w : World) (hown : w.ownsMap Try.prog 3 heldElem b nn D0) (hmax : Maps.size D0 ≤ maxLen) (hbytes : Maps.size D0 * 8 ≤ 140737488355328) (hp : w.heap[p]? = some (.cells #[sv, .map (some b)] 63 (0, 0))) :
    Calls Try.prog 18 #[.pointer (some ⟨p, 0, none⟩)] w fun e w' => ∃ (v : Value) (ss : List Int), e = .returned v ∧ ss.Perm (intKeys D0) ∧
      w'.ownsRow w.heap.size 3 1 v ss.length ((ss.mergeSort (fun x y => decide (x ≤ y))).map encZ) ∧ Below w.heap.size w w' := by
  refine (callsIn_wide (n := 6)).1 ?_
  have hbl := hown.lt
  have hseq : SeqGives Fence.wide 2 Try.prog 43 #[.pointer (some ⟨w.heap.size, 0, none⟩)] encZ (fun ss => ss.Perm (intKeys D0)) (Maps.size D0) (w.alloc (.cells #[.map (some b)] 61)) :=
    AnyZI.keys_gives (ρ := Try.keysA_ren) { Try.keysA with } Fence.wide _ trivial rfl (by omega) w.heap.size b nn D0 _ (by simp) (by simp) (by
      obtain ⟨es, clock, hb, Ft, hs, hD⟩ := hown
      exact ⟨es, clock, (Below.heap_alloc _ _ b hbl).trans hb, Ft, hs, hD⟩)
  have cK : ∀ mb W, CallsIn Fence.wide 5 Try.prog 35 #[.map mb] W fun e w' => e = .returned (.func (.func 43) #[] #[.pointer (some ⟨W.heap.size, 0, none⟩)]) ∧ w' = W.alloc (.cells #[.map mb] 61) := fun mb W => AnyZI.keys_in Try.keysA Fence.wide 5 trivial rfl mb W
  have cS := AnyZI.sorted_in Try.sortedA Fence.wide 5 trivial trivial trivial trivial rfl (by omega) (sortsA _) (enters_of Try.func42 (by kernel_rfl) rfl) 43 #[.pointer (some ⟨w.heap.size, 0, none⟩)] trivial (enters_of Try.func43 (by kernel_rfl) rfl) _ _ hmax hbytes _ hseq
  change CallsIn _ _ Try.prog 34 _ _ _ at cS
  have hfK : Fence.wide.fn 35 := trivial
  have hfS : Fence.wide.fn 34 := trivial
  have c1 : w.cell? ⟨p, 1, none⟩ = some (.map (some b)) := cell_at hp rfl
  refine callsIn_of_wp Try.func18 rfl trivial ?_ rfl
  simp only [Try.ntmps18, List.size_toArray, List.length_cons, List.length_nil, Nat.reduceAdd, Nat.reduceSub, Array.replicate_succ, Array.replicate_zero, List.push_toArray, List.append_toArray, List.nil_append, List.cons_append]
  gi_wp2_with (first
    | (gi_at_call 35; refine (cK _ _).mono ?_; rintro e w' ⟨rfl, rfl⟩)
    | (gi_at_call 34; refine cS.mono ?_; rintro e w' ⟨v, ss, rfl, hS, hrow, hnil, hb⟩))
  go_ret
  exact ⟨v, ss, rfl, hS, ownsRow_base_a hrow (by simp), ((Below.refl _ w).alloc (Nat.le_refl _) _).trans (hb.mono (by simp))⟩

theorem keys_toD (l : List (Int × Array Value)) : intKeys (toD .i64 Value.agg l) = l.map (·.1) := by
  simp only [intKeys, toD, List.map_map, Function.comp_def]
  rfl

theorem sorted_keys {l : List (Int × Array Value)} (hs : Srt l) {ss : List Int} (h : ss.Perm (l.map (·.1))) : ss.mergeSort (fun x y => decide (x ≤ y)) = l.map (·.1) := by
  have h1 : (l.map (·.1)).Pairwise (fun x y => decide (x ≤ y) = true) := by
    refine List.pairwise_map.2 (List.Pairwise.imp (fun {a b} hab => ?_) hs)
    simp; omega
  have h2 : (ss.mergeSort (fun x y => decide (x ≤ y))).Pairwise (fun x y => decide (x ≤ y) = true) :=
    List.pairwise_mergeSort (fun a b c h1 h2 => by simp at *; omega) (fun a b => by simp; omega) ss
  exact List.Perm.eq_of_pairwise (le := fun x y => decide (x ≤ y) = true) (fun a b _ _ h1 h2 => by simp at h1 h2; omega) h2 h1 ((List.mergeSort_perm ss _).trans h)

/-- A row of the call's own is a slice that is read. -/
theorem RowsAt.of_owns {w : World} {base : Nat} {e : TypeId} {sz : Nat} {v : Value} {n : Nat} {cs : List Value} (h : w.ownsRow base e sz v n cs) {S : Nat → Prop} (hS : ∀ b, base ≤ b → ¬ S b) : RowsAt S w v n sz cs := by
  obtain ⟨hl, h⟩ := h
  refine ⟨hl, ?_⟩
  rcases h with ⟨rfl, rfl⟩ | ⟨g, cap, cur, rfl, hg, hh, _, _, _, ht⟩
  · exact ⟨none, 0, rfl, .inl rfl⟩
  · refine ⟨some ⟨g, 0, none⟩, cap, rfl, .inr ⟨g, 0, rfl, hS g hg, lt_of_heap hh, fun j x hx => ?_⟩⟩
    refine cell_at hh ?_
    rw [← ht] at hx
    have hj : j < n * sz := by
      have := (List.getElem?_eq_some_iff.1 hx).1
      simp at this; omega
    rw [List.getElem?_take, if_pos hj] at hx
    simpa using hx

set_option maxHeartbeats 1000000 in
theorem loose_ok {p n cap : Nat} {cs : Array Value} {l : List (Int × Array Value)} {bs bm : Nat} {w : World} {R : Ending → World → Prop} (H : DiskAt w p n cap cs l bs bm)
    (hR : ∀ v w', (∀ S : Nat → Prop, (∀ b, w.heap.size ≤ b → ¬ S b) → RowsAt S w' v l.length 1 (ints (l.map (·.1)))) → Fr No w w' → R (.returned v) w') :
    Calls Try.prog 18 #[.pointer (some ⟨p, 0, none⟩)] w R := by
  have hm := H.most
  have hf := H.few
  refine (loose_raw p bm l.length _ _ w H.buf.owns (by rw [toD_size]; unfold maxLen; omega) (by rw [toD_size]; omega) H.head).mono ?_
  rintro e w' ⟨v, ss, rfl, hp, hrow, hb⟩
  rw [keys_toD] at hp
  have hlen : ss.length = l.length := by simpa using hp.length_eq
  rw [sorted_keys H.buf.srt hp, hlen] at hrow
  exact hR v w' (fun S hS => RowsAt.of_owns hrow hS) (Fr.of_below hb)

set_option maxHeartbeats 400000 in
set_option maxRecDepth 100000 in
theorem loose_nil {w : World} {R : Ending → World → Prop} (hR : R (.returned (.slice none 0 0)) w) :
    Calls Try.prog 18 #[.pointer none] w R := by
  go_enter Try.func18, Try.ntmps18
  go_wp2
  exact hR

end Go.Proofs.Ytoffkaojhcnddaa
