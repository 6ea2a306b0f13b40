/- The disk's Flush, Crash, Size, New, Fork. No condition beside that the disk lies there. -/
import Derived.Test.YtoffkaojhcnddaaDisk2
import Derived.Test.YtoffkaojhcnddaaInts
import Derived.Shelf.SlMaps.Clone
namespace Go.Proofs.Ytoffkaojhcnddaa
set_option linter.unusedSimpArgs false
open Go.RowKit Go.Maps

/-- What is on the disk when the sectors of the buffer that f picks have been written out. -/
abbrev Settled (n : Nat) (cs : Array Value) (l : List (Int × Array Value)) (f : Int → Bool) (cs' : Array Value) : Prop :=
  ∀ i : Nat, i < n → sec cs' i = if f i = true then (aget l i).getD (sec cs i) else sec cs i

theorem settle_nil {g : Value} {w : World} {R : Ending → World → Prop} (hR : R (.returned (.int .i64 1)) w) : Calls Try.prog 31 #[.pointer none, g] w R := by
  go_enter Try.func31, Try.ntmps31
  go_wp2
  exact hR

theorem flush1_ok (W : World) (i : Int) : Calls Try.prog 32 #[.int .i64 i] W (fun e w' => e = .returned (.bool true) ∧ Fr No W w') := by
  go_enter Try.func32, Try.ntmps32
  go_wp2
  go_ret
  exact ⟨rfl, Fr.refl _ _⟩

set_option maxHeartbeats 400000 in
set_option maxRecDepth 100000 in
theorem flush_ok {p n cap : Nat} {cs : Array Value} {l : List (Int × Array Value)} {bs bm : Nat} {w : World} {R : Ending → World → Prop} (H : DiskAt w p n cap cs l bs bm)
    (hR : ∀ w' cs', Settled n cs l (fun _ => true) cs' → DiskAt w' p n cap cs' [] bs bm → Fr (DiskS p bs bm) w w' → R (.returned (.int .i64 0)) w') :
    Calls Try.prog 16 #[.pointer (some ⟨p, 0, none⟩)] w R := by
  have HR := hid hR
  have HH := hid H
  clear hR H
  go_enter Try.func16, Try.ntmps16
  go_wp2_with (go_at_call 31; refine settle_ok (f := fun _ => true) HH.out (fun _ _ => by kernel_rfl) (fun W i _ _ _ => by { simp only [Array.append_empty]; exact flush1_ok W i }) ?_; intro w' cs' h1 h2 h3; have H1 := hid h1; have H2 := hid h2; clear h1 h2)
  exact HR.out _ _ H1.out H2.out h3

set_option maxHeartbeats 400000 in
set_option maxRecDepth 100000 in
theorem flush_nil {w : World} {R : Ending → World → Prop} (hR : R (.returned (.int .i64 1)) w) : Calls Try.prog 16 #[.pointer none] w R := by
  go_enter Try.func16, Try.ntmps16
  go_wp2_with (go_at_call 31; refine settle_nil ?_)
  exact hR

set_option maxHeartbeats 400000 in
set_option maxRecDepth 100000 in
theorem crash1_ok {S : Nat → Prop} {v : Value} {n b : Nat} {xs : List Int} {W : World} (H : RowsAt S W v n 1 (ints xs)) (hn : n < 9223372036854775808) (hb : W.cell? ⟨b, 0, none⟩ = some v) (i : Int) :
    Calls Try.prog 36 #[.int .i64 i, .pointer (some ⟨b, 0, none⟩)] W (fun e w' => e = .returned (.bool (xs.contains i)) ∧ Fr No W w') := by
  have HH := hid H
  clear H
  go_enter Try.func36, Try.ntmps36
  generalize hr : xs.contains i = r
  have HRr := hid hr
  clear hr
  go_wp2_with (go_at_call 37; refine contains_ok HH.out hn ?_; rw [HRr.out])
  go_ret
  exact ⟨rfl, Fr.refl _ _⟩

set_option maxHeartbeats 400000 in
set_option maxRecDepth 100000 in
theorem crash_ok {p n cap : Nat} {cs : Array Value} {l : List (Int × Array Value)} {bs bm : Nat} {v : Value} {m : Nat} {xs : List Int} {w : World} {R : Ending → World → Prop} (H : DiskAt w p n cap cs l bs bm) (hm : m < 9223372036854775808) (hk : RowsAt (DiskS p bs bm) w v m 1 (ints xs))
    (hR : ∀ w' cs', Settled n cs l (fun i => xs.contains i) cs' → DiskAt w' p n cap cs' [] bs bm → Fr (DiskS p bs bm) w w' → R (.returned (.int .i64 0)) w') :
    Calls Try.prog 19 #[.pointer (some ⟨p, 0, none⟩), v] w R := by
  have HR := hid hR
  have F0 : Hid (Fr No w (w.alloc (.cells #[v] 30))) := (Fr.refl No w).alloc _
  have HH : Hid (DiskAt (w.alloc (.cells #[v] 30)) p n cap cs l bs bm) := H.no F0.out
  have hp : p < w.heap.size := lt_of_heap H.head
  have hs : bs < w.heap.size := lt_of_heap H.secs
  have hb : bm < w.heap.size := H.buf.lt
  have hS : Hid (¬ DiskS p bs bm w.heap.size) := by show ¬ (_ ∨ _ ∨ _); omega
  have hcell : (w.alloc (.cells #[v] 30)).heap[w.heap.size]? = some (.cells #[v] 30 (0, 0)) := heap_alloc_new w _
  have HK := hid hk
  clear hR H
  obtain ⟨_, sa, sc, rfl, _⟩ := hk
  go_enter Try.func19, Try.ntmps19
  go_wp2_with (go_at_call 31; refine settle_ok (f := fun i => xs.contains i) HH.out (fun _ _ => by kernel_rfl) (fun W i _ _ hW => by { have := crash1_ok (HK.out.no F0.out |>.fr hW (fun _ h => h)) hm (cell_at (o := 0) (hW.keep hcell hS.out) rfl) i; exact this }) ?_; intro w' cs' h1 h2 h3; have H1 := hid h1; have H2 := hid h2; clear h1 h2)
  exact HR.out _ _ H1.out H2.out (F0.out.any.trans h3 (fun _ h => .inl h))

set_option maxHeartbeats 400000 in
set_option maxRecDepth 100000 in
theorem crash_nil {sa : Option Addr} {m c : Nat} {w : World} {R : Ending → World → Prop} (hR : ∀ w', Fr No w w' → R (.returned (.int .i64 1)) w') : Calls Try.prog 19 #[.pointer none, .slice sa m c] w R := by
  have HR := hid hR
  clear hR
  go_enter Try.func19, Try.ntmps19
  go_wp2_with (go_at_call 31; refine settle_nil ?_)
  exact HR.out _ ((Fr.refl No w).alloc _)

theorem size_ok {p n m : Nat} {sa : Option Addr} {w : World} {R : Ending → World → Prop} (h0 : w.cell? ⟨p, 0, none⟩ = some (.slice sa n m)) (hR : R (.returned (.int .i64 n)) w) :
    Calls Try.prog 23 #[.pointer (some ⟨p, 0, none⟩)] w R := by
  go_enter Try.func23, Try.ntmps23
  go_wp2
  exact hR

theorem size_nil {w : World} {R : Ending → World → Prop} (hR : R (.returned (.int .i64 0)) w) :
    Calls Try.prog 23 #[.pointer none] w R := by
  go_enter Try.func23, Try.ntmps23
  go_wp2
  exact hR

theorem fork_nil {w : World} {R : Ending → World → Prop} (hR : R (.returned (.pointer none)) w) :
    Calls Try.prog 20 #[.pointer none] w R := by
  go_enter Try.func20, Try.ntmps20
  go_wp2
  exact hR

theorem new_no {n : Int} {w : World} {R : Ending → World → Prop} (h : n < 1 ∨ 2048 < n) (hR : R (.returned (.pointer none)) w) :
    Calls Try.prog 24 #[.int .i64 n] w R := by
  by_cases h1 : n < 1
  · clear h
    go_enter Try.func24, Try.ntmps24
    go_wp2
    exact hR
  · have h2 : 2048 < n := by omega
    clear h
    go_enter Try.func24, Try.ntmps24
    go_wp2
    exact hR

end Go.Proofs.Ytoffkaojhcnddaa
