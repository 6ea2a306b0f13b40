/- The program's Walk of a cache, at most twelve dear. No condition beside that it lies there. -/
import Derived.Test.YtokhbjllgaaogaaCWalk
namespace Go.Proofs.Ytokhbjllgaaogaa
set_option linter.unusedSimpArgs false
open Go.RowKit Go.Maps
attribute [local irreducible] wpQuiet wpAnyH

set_option maxHeartbeats 4000000 in
set_option maxRecDepth 100000 in
theorem pdqc_ok {v : Value} {G : Nat} {caps : Array Value} {n : Nat} {k : Int} {w : World} {R : Ending → World → Prop} (hn : n ≤ 12) (hI : Calls Try.prog 71 #[v, .int .i64 0, .int .i64 n, .func (.func G) #[] caps] w (fun e w' => e = .returned (.tuple #[]) ∧ R (.returned (.tuple #[])) w')) :
    Calls Try.prog 62 #[v, .int .i64 0, .int .i64 n, .int .i64 k, .func (.func G) #[] caps] w R := by
  have HI := hid hI
  have hn' : (n : Int) ≤ 12 := by omega
  have hn0 : (0 : Int) ≤ n := by omega
  clear hI hn
  go_enter Try.func62, Try.ntmps62
  go_wp2
  go_loopw [1, 2] (fun t1 t2 wr => t1 = .int .i64 0 ∧ t2 = .int .i64 n ∧ wr = w) (fun _ _ _ => 0)
  case atStart => exact ⟨rfl, rfl, rfl⟩
  case round =>
    obtain ⟨rfl, rfl, rfl⟩ := hrel
    go_wp2_with (go_at_call 71; refine HI.out.mono ?_; rintro e w' ⟨rfl, h⟩; have H := hid h; clear h)
    exact bodyPost_ret (results_none rfl _ _ _) rfl H.out

set_option maxHeartbeats 4000000 in
set_option maxRecDepth 100000 in
theorem sortF_ok {va : Option Addr} {vc : Nat} {G : Nat} {caps : Array Value} {n : Nat} {w : World} {R : Ending → World → Prop} (hn : n ≤ 12) (hI : Calls Try.prog 71 #[.slice va n vc, .int .i64 0, .int .i64 n, .func (.func G) #[] caps] w (fun e w' => e = .returned (.tuple #[]) ∧ R (.returned (.tuple #[])) w')) :
    Calls Try.prog 38 #[.slice va n vc, .func (.func G) #[] caps] w R := by
  have HI := hid hI
  have HN1 : Hid ((n : Int) ≤ 12) := by show _ ≤ _; omega
  have HN0 : Hid ((0 : Int) ≤ n) := by show _ ≤ _; omega
  have hn' : (n : Int) ≤ 12 := by omega
  have hn0 : (0 : Int) ≤ n := by omega
  clear hI
  go_enter Try.func38, Try.ntmps38
  go_wp2_with (first
    | (go_at_call 63; refine len_ok HN0.out HN1.out ?_; intro k)
    | (go_at_call 62; refine pdqc_ok hn (HI.out.mono ?_); rintro e w' ⟨rfl, h⟩; refine ⟨rfl, ?_⟩; have H := hid h; clear h))
  go_end0
  exact H.out

set_option maxRecDepth 100000 in
theorem index_nil {va : Option Addr} {vc : Nat} {f : Value} {w : World} {R : Ending → World → Prop} (hR : R (.returned (.int .i64 (-1))) w) : Calls Try.prog 59 #[.slice va 0 vc, f] w R := by
  go_enter Try.func59, Try.ntmps59
  go_wp2
  go_loop [8] (fun t8 => t8 = .int .i64 0) (fun _ => 0)
  case atStart => rfl
  case round =>
    subst hrel
    go_wp2
    exact hR

set_option maxRecDepth 100000 in
theorem delete_nil {va : Option Addr} {vc : Nat} {f : Value} {w : World} {R : Ending → World → Prop} (hR : R (.returned (.slice va 0 vc)) w) : Calls Try.prog 35 #[.slice va 0 vc, f] w R := by
  go_enter Try.func35, Try.ntmps35
  go_wp2_with (go_at_call 59; refine index_nil ?_)
  exact hR

set_option maxRecDepth 100000 in
theorem isortc_nil {va : Option Addr} {vc : Nat} {f : Value} {w : World} {R : Ending → World → Prop} (hR : R (.returned (.tuple #[])) w) : Calls Try.prog 71 #[.slice va 0 vc, .int .i64 0, .int .i64 0, f] w R := by
  go_enter Try.func71, Try.ntmps71
  go_wp2
  go_loop [8] (fun t8 => t8 = .int .i64 1) (fun _ => 0)
  case atStart => rfl
  case round =>
    subst hrel
    go_wp2
    go_end0
    exact hR

/-- Fids that read as a list. -/
def Reads (w : World) (v : Value) (xs : List Int) : Prop := RowsAt No w v xs.length 1 (xs.map encU)

theorem Row32.reads {w : World} {g cap : Nat} {ys : Array Int} (h : Row32 w g cap ys) : Reads w (.slice (some ⟨g, 0, none⟩) ys.size cap) ys.toList := by
  refine ⟨by simp, _, cap, by rw [Array.length_toList], .inr ⟨g, 0, rfl, fun h => h, ?_, fun j u hj => ?_⟩⟩
  · obtain ⟨cs, h1, _⟩ := h; exact lt_of_heap h1
  · have hj1 := (List.getElem?_eq_some_iff.1 hj).1
    simp at hj1
    rw [Nat.zero_add, h.cell hj1, ← hj]
    simp [Array.getElem?_eq_getElem hj1]
theorem reads_nil (w : World) (va : Option Addr) (cap : Nat) : Reads w (.slice va 0 cap) [] := ⟨rfl, va, cap, rfl, .inl rfl⟩
theorem Reads.no {w w' : World} {v : Value} {xs : List Int} (h : Reads w v xs) (hf : Fr No w w') : Reads w' v xs := RowsAt.fr h hf (fun _ h => h)

theorem row32_of {w : World} {base : Nat} {v : Value} {ss : List Int} (h : w.ownsRow base 27 1 v ss.length (ss.map encU)) (h0 : ss.length ≠ 0) : ∃ g cap, v = .slice (some ⟨g, 0, none⟩) ss.length cap ∧ base ≤ g ∧ Row32 w g cap ss.toArray := by
  rcases id h.2 with ⟨rfl, h1⟩ | ⟨g, cap, cur, rfl, hb, hg, hl, _, hcp, hcs⟩
  · exact absurd h1 h0
  · refine ⟨g, cap, rfl, hb, cur, hg, by simpa using hcp, by simpa using hl, fun k hk => ?_⟩
    have hk' : k < ss.length := by simpa using hk
    have h2 := h.cellAt (g := g) (cap := cap) k (by simpa using hk')
    have h3 := cell_of_row w g k cur 27 (0, 0) hg
    rw [h2] at h3
    rw [← h3]
    simp [Array.getD_eq_getD_getElem?, List.getElem?_eq_getElem hk']

theorem upto_pairwiseK {κ : Int → Int} {ys : Array Int} (h : UptoK κ ys ys.size) : ys.toList.Pairwise (fun a b => κ a ≤ κ b) := by
  rw [List.pairwise_iff_getElem]
  intro i j hi hj hij
  have hi' : i < ys.size := by simpa using hi
  have hj' : j < ys.size := by simpa using hj
  have := h i j hij hj'
  rw [Array.getD_eq_getD_getElem?, Array.getD_eq_getD_getElem?, Array.getElem?_eq_getElem hi', Array.getElem?_eq_getElem hj'] at this
  simpa using this

section
variable {w : World} {p bh bd : Nat} {n k : Int} {hl : HL} {dl : List (Int × Int)} {R : Ending → World → Prop}

/-- Those that are dear and not at hand, in Walk's order. -/
structure Walked (hl : HL) (dl : List (Int × Int)) (ys : List Int) : Prop where
  perm : ys.Perm ((dl.map (·.1)).filter fun x => !(aget hl x).isSome)
  ord : ys.Pairwise (fun a b => wkey dl a ≤ wkey dl b)

theorem wf_bounds {f : Int} (h : (Lit.int .u32 f).wf = true) : 0 ≤ f ∧ f < 4294967296 := by
  simp [Lit.wf, IntKind.min, IntKind.max] at h
  have h1 := h.1
  have h2 := h.2
  simp [IntKind.signed, IntKind.bits] at h1 h2
  omega

set_option maxHeartbeats 8000000 in
set_option maxRecDepth 100000 in
theorem walk_ok (C : CacheAt w p n k hl dl bh bd) (hdl : dl.length ≤ 12)
    (hR : ∀ w' v ys, Reads w' v ys → Walked hl dl ys → Fr No w w' → R (.returned v) w') : Calls Try.prog 22 #[.pointer (some ⟨p, 0, none⟩)] w R := by
  have HR := hid hR
  have HD12 := hid hdl
  have HWF : Hid (∀ x ∈ dl.map (·.1), (Lit.int .u32 x).wf = true) := fun x hx => by
    obtain ⟨y, hy, rfl⟩ := List.mem_map.1 hx
    exact C.dear.wf y hy
  obtain ⟨w1, hw1⟩ : ∃ w1, w1 = w.alloc (.cells #[.pointer (some ⟨p, 0, none⟩)] 23) := ⟨_, rfl⟩
  have HC : Hid (CacheAt w1 p n k hl dl bh bd) := by rw [hw1]; exact C.no ((Fr.refl No w).alloc _)
  have HF1 : Hid (Fr No w w1) := by rw [hw1]; exact (Fr.refl No w).alloc _
  have hbx : w1.heap[w.heap.size]? = some (.cells #[.pointer (some ⟨p, 0, none⟩)] 23 (0, 0)) := by rw [hw1]; exact heap_alloc_new w _
  have HBX := hid hbx
  have c0 : (w.alloc (.cells #[.pointer (some ⟨p, 0, none⟩)] 23)).cell? ⟨w.heap.size, 0, none⟩ = some (.pointer (some ⟨p, 0, none⟩)) := cell_at (heap_alloc_new w _) rfl
  have HW1 := hid hw1
  clear hR C hbx hw1
  go_enter Try.func22, Try.ntmps22
  go_wp2
  rw [← HW1.out]
  clear HW1
  by_cases hd0 : dl.length = 0
  · have HD0 := hid hd0
    clear hd0
    refine region_held (n := 10) (Fr No w1) follows (by kernel_rfl) ?_
    have HS : (Fr No w1) w1.drew := (Fr.refl No w1).drew
    (refine h_val (v := .pointer (some ⟨p, 0, none⟩)) 0 rfl (by kernel_rfl) (by kernel_rfl) (by kernel_rfl) (fun _ _ _ h => h) HS (by kernel_rfl) (fun W hW => run_loadv rfl rfl (var_cell cacheU rfl (cell_at (hW.keep HBX.out (fun h => h)) rfl))) ?_; simp only [Act.put, Act.eval, Array.getD_eq_getD_getElem?, List.setIfInBounds_toArray, List.set_cons_succ, List.set_cons_zero, List.getElem?_toArray, List.getElem?_cons_succ, List.getElem?_cons_zero, Option.getD_some])
    (refine h_val 1 rfl (by kernel_rfl) (by kernel_rfl) (by kernel_rfl) (fun _ _ _ h => h) HS (by kernel_rfl) (fun W _ => run_nilCheck rfl rfl W) ?_; simp only [Act.put, Act.eval, Array.getD_eq_getD_getElem?, List.setIfInBounds_toArray, List.set_cons_succ, List.set_cons_zero, List.getElem?_toArray, List.getElem?_cons_succ, List.getElem?_cons_zero, Option.getD_some])
    (refine h_val (v := .pointer (some ⟨p, 3, none⟩)) 2 rfl (by kernel_rfl) (by kernel_rfl) (by kernel_rfl) (fun _ _ _ h => h) HS (by kernel_rfl) (fun W _ => run_field rfl rfl (fun _ => by kernel_rfl) W) ?_; simp only [Act.put, Act.eval, Array.getD_eq_getD_getElem?, List.setIfInBounds_toArray, List.set_cons_succ, List.set_cons_zero, List.getElem?_toArray, List.getElem?_cons_succ, List.getElem?_cons_zero, Option.getD_some])
    (refine h_val (v := .map (some bd)) 3 rfl (by kernel_rfl) (by kernel_rfl) (by kernel_rfl) (fun _ _ _ h => h) HS (by kernel_rfl) (fun W hW => run_loadv rfl rfl (var_cell dearU rfl (cell_at (hW.keep HC.out.head (fun h => h)) rfl))) ?_; simp only [Act.put, Act.eval, Array.getD_eq_getD_getElem?, List.setIfInBounds_toArray, List.set_cons_succ, List.set_cons_zero, List.getElem?_toArray, List.getElem?_cons_succ, List.getElem?_cons_zero, Option.getD_some])
    (refine h_val (v := .pointer (some ⟨p, 0, none⟩)) 6 rfl (by kernel_rfl) (by kernel_rfl) (by kernel_rfl) (fun _ _ _ h => h) HS (by kernel_rfl) (fun W hW => run_loadv rfl rfl (var_cell cacheU rfl (cell_at (hW.keep HBX.out (fun h => h)) rfl))) ?_; simp only [Act.put, Act.eval, Array.getD_eq_getD_getElem?, List.setIfInBounds_toArray, List.set_cons_succ, List.set_cons_zero, List.getElem?_toArray, List.getElem?_cons_succ, List.getElem?_cons_zero, Option.getD_some])
    (refine h_val (v := .func (.func 17) #[.pointer (some ⟨p, 0, none⟩)] #[]) 7 rfl (by kernel_rfl) (by kernel_rfl) (by kernel_rfl) (fun _ _ _ h => h) HS (by kernel_rfl) (fun W _ => by kernel_rfl) ?_; simp only [Act.put, Act.eval, Array.getD_eq_getD_getElem?, List.setIfInBounds_toArray, List.set_cons_succ, List.set_cons_zero, List.getElem?_toArray, List.getElem?_cons_succ, List.getElem?_cons_zero, Option.getD_some])
    refine h_call (args := #[.map (some bd)]) 4 (by kernel_rfl) rfl (by kernel_rfl) (run_callf1 (g := 37) (v := .map (some bd)) (fun _ _ => by kernel_rfl) rfl rfl _) ?_
    refine dkeys_ok ⟨_, rfl⟩ ?_
    have HS1 := HS.alloc (.cells #[.map (some bd)] 56)
    have HM1 : Hid ((w1.drew.alloc (.cells #[.map (some bd)] 56)).cell? ⟨w1.drew.heap.size, 0, none⟩ = some (.map (some bd))) := cell_at (heap_alloc_new _ _) rfl
    clear HS
    have HS := HS1
    refine ⟨HS, ?_⟩
    clear HS1
    simp only [Act.put, Act.eval, Array.getD_eq_getD_getElem?, List.setIfInBounds_toArray, List.set_cons_succ, List.set_cons_zero, List.getElem?_toArray, List.getElem?_cons_succ, List.getElem?_cons_zero, Option.getD_some]
    refine h_call (args := #[.func (.func 61) #[] #[.pointer (some ⟨w1.drew.heap.size, 0, none⟩)]]) 5 (by kernel_rfl) rfl (by kernel_rfl) (run_callf1 (g := 36) (v := .func (.func 61) #[] #[.pointer (some ⟨w1.drew.heap.size, 0, none⟩)]) (fun _ _ => by kernel_rfl) rfl rfl _) ?_
    refine dcollect_ok HM1.out (by simp) ((HC.out.dear.fr HS (fun h => h))) (Nat.le_trans HD12.out (by decide)) ?_
    intro v ss w2 hp ho hf2
    have HP := hid hp
    have HO := hid ho
    have HF2 := hid (HS.no hf2)
    have HS1 := HS.no hf2
    clear HS hp ho hf2
    have HS := HS1
    refine ⟨HS, ?_⟩
    clear HS1
    simp only [Act.put, Act.eval, Array.getD_eq_getD_getElem?, List.setIfInBounds_toArray, List.set_cons_succ, List.set_cons_zero, List.getElem?_toArray, List.getElem?_cons_succ, List.getElem?_cons_zero, Option.getD_some]
    refine h_call (args := #[v, .func (.func 17) #[.pointer (some ⟨p, 0, none⟩)] #[]]) 8 (by kernel_rfl) rfl (by kernel_rfl) (run_callf2 (g := 35) (v := v) (z := .func (.func 17) #[.pointer (some ⟨p, 0, none⟩)] #[]) (fun _ _ => by kernel_rfl) rfl rfl rfl _) ?_
    obtain ⟨rfl, va, vc, rfl⟩ : ss = [] ∧ ∃ va vc, v = .slice va 0 vc := by
      have h0 : ss.length = 0 := by have := HP.out.length_eq; have h2 := HD0.out; rw [List.length_map] at this; omega
      obtain rfl := List.eq_nil_of_length_eq_zero h0
      rcases HO.out.2 with ⟨e, _⟩ | ⟨g, cap, cur, e, _⟩
      · exact ⟨rfl, _, _, e⟩
      · exact ⟨rfl, _, _, e⟩
    refine delete_nil ?_
    refine ⟨HS, ?_⟩
    simp only [Act.put, Act.eval, Array.getD_eq_getD_getElem?, List.setIfInBounds_toArray, List.set_cons_succ, List.set_cons_zero, List.getElem?_toArray, List.getElem?_cons_succ, List.getElem?_cons_zero, Option.getD_some]
    (refine h_val 9 rfl (by kernel_rfl) (by kernel_rfl) (by kernel_rfl) (fun _ _ _ h => h) HS (by kernel_rfl) (fun W _ => run_assign rfl rfl W) ?_; simp only [Act.put, Act.eval, Array.getD_eq_getD_getElem?, List.setIfInBounds_toArray, List.set_cons_succ, List.set_cons_zero, List.getElem?_toArray, List.getElem?_cons_succ, List.getElem?_cons_zero, Option.getD_some])
    refine h_done (by kernel_rfl) ?_
    have HS2 := hid HS
    clear HS c0
    go_wp2_with (go_at_call 38; refine sortF_ok (n := 0) (by decide) (isortc_nil ?_); refine ⟨rfl, ?_⟩)
    refine HR.out _ _ [] (reads_nil _ _ _) ⟨?_, List.Pairwise.nil⟩ (HF1.out.no HS2.out)
    have := HD0.out
    rw [List.eq_nil_of_length_eq_zero this]
    exact List.Perm.refl _
  · have HD1 := hid hd0
    clear hd0
    refine region_held (n := 10) (Fr No w1) follows (by kernel_rfl) ?_
    have HS : (Fr No w1) w1.drew := (Fr.refl No w1).drew
    (refine h_val (v := .pointer (some ⟨p, 0, none⟩)) 0 rfl (by kernel_rfl) (by kernel_rfl) (by kernel_rfl) (fun _ _ _ h => h) HS (by kernel_rfl) (fun W hW => run_loadv rfl rfl (var_cell cacheU rfl (cell_at (hW.keep HBX.out (fun h => h)) rfl))) ?_; simp only [Act.put, Act.eval, Array.getD_eq_getD_getElem?, List.setIfInBounds_toArray, List.set_cons_succ, List.set_cons_zero, List.getElem?_toArray, List.getElem?_cons_succ, List.getElem?_cons_zero, Option.getD_some])
    (refine h_val 1 rfl (by kernel_rfl) (by kernel_rfl) (by kernel_rfl) (fun _ _ _ h => h) HS (by kernel_rfl) (fun W _ => run_nilCheck rfl rfl W) ?_; simp only [Act.put, Act.eval, Array.getD_eq_getD_getElem?, List.setIfInBounds_toArray, List.set_cons_succ, List.set_cons_zero, List.getElem?_toArray, List.getElem?_cons_succ, List.getElem?_cons_zero, Option.getD_some])
    (refine h_val (v := .pointer (some ⟨p, 3, none⟩)) 2 rfl (by kernel_rfl) (by kernel_rfl) (by kernel_rfl) (fun _ _ _ h => h) HS (by kernel_rfl) (fun W _ => run_field rfl rfl (fun _ => by kernel_rfl) W) ?_; simp only [Act.put, Act.eval, Array.getD_eq_getD_getElem?, List.setIfInBounds_toArray, List.set_cons_succ, List.set_cons_zero, List.getElem?_toArray, List.getElem?_cons_succ, List.getElem?_cons_zero, Option.getD_some])
    (refine h_val (v := .map (some bd)) 3 rfl (by kernel_rfl) (by kernel_rfl) (by kernel_rfl) (fun _ _ _ h => h) HS (by kernel_rfl) (fun W hW => run_loadv rfl rfl (var_cell dearU rfl (cell_at (hW.keep HC.out.head (fun h => h)) rfl))) ?_; simp only [Act.put, Act.eval, Array.getD_eq_getD_getElem?, List.setIfInBounds_toArray, List.set_cons_succ, List.set_cons_zero, List.getElem?_toArray, List.getElem?_cons_succ, List.getElem?_cons_zero, Option.getD_some])
    (refine h_val (v := .pointer (some ⟨p, 0, none⟩)) 6 rfl (by kernel_rfl) (by kernel_rfl) (by kernel_rfl) (fun _ _ _ h => h) HS (by kernel_rfl) (fun W hW => run_loadv rfl rfl (var_cell cacheU rfl (cell_at (hW.keep HBX.out (fun h => h)) rfl))) ?_; simp only [Act.put, Act.eval, Array.getD_eq_getD_getElem?, List.setIfInBounds_toArray, List.set_cons_succ, List.set_cons_zero, List.getElem?_toArray, List.getElem?_cons_succ, List.getElem?_cons_zero, Option.getD_some])
    (refine h_val (v := .func (.func 17) #[.pointer (some ⟨p, 0, none⟩)] #[]) 7 rfl (by kernel_rfl) (by kernel_rfl) (by kernel_rfl) (fun _ _ _ h => h) HS (by kernel_rfl) (fun W _ => by kernel_rfl) ?_; simp only [Act.put, Act.eval, Array.getD_eq_getD_getElem?, List.setIfInBounds_toArray, List.set_cons_succ, List.set_cons_zero, List.getElem?_toArray, List.getElem?_cons_succ, List.getElem?_cons_zero, Option.getD_some])
    refine h_call (args := #[.map (some bd)]) 4 (by kernel_rfl) rfl (by kernel_rfl) (run_callf1 (g := 37) (v := .map (some bd)) (fun _ _ => by kernel_rfl) rfl rfl _) ?_
    refine dkeys_ok ⟨_, rfl⟩ ?_
    have HS1 := HS.alloc (.cells #[.map (some bd)] 56)
    have HM1 : Hid ((w1.drew.alloc (.cells #[.map (some bd)] 56)).cell? ⟨w1.drew.heap.size, 0, none⟩ = some (.map (some bd))) := cell_at (heap_alloc_new _ _) rfl
    clear HS
    have HS := HS1
    refine ⟨HS, ?_⟩
    clear HS1
    simp only [Act.put, Act.eval, Array.getD_eq_getD_getElem?, List.setIfInBounds_toArray, List.set_cons_succ, List.set_cons_zero, List.getElem?_toArray, List.getElem?_cons_succ, List.getElem?_cons_zero, Option.getD_some]
    refine h_call (args := #[.func (.func 61) #[] #[.pointer (some ⟨w1.drew.heap.size, 0, none⟩)]]) 5 (by kernel_rfl) rfl (by kernel_rfl) (run_callf1 (g := 36) (v := .func (.func 61) #[] #[.pointer (some ⟨w1.drew.heap.size, 0, none⟩)]) (fun _ _ => by kernel_rfl) rfl rfl _) ?_
    refine dcollect_ok HM1.out (by simp) ((HC.out.dear.fr HS (fun h => h))) (Nat.le_trans HD12.out (by decide)) ?_
    intro v ss w2 hp ho hf2
    have HP := hid hp
    have HO := hid ho
    have HF2 := hid (HS.no hf2)
    have HS1 := HS.no hf2
    clear HS hp ho hf2
    have HS := HS1
    refine ⟨HS, ?_⟩
    clear HS1
    simp only [Act.put, Act.eval, Array.getD_eq_getD_getElem?, List.setIfInBounds_toArray, List.set_cons_succ, List.set_cons_zero, List.getElem?_toArray, List.getElem?_cons_succ, List.getElem?_cons_zero, Option.getD_some]
    refine h_call (args := #[v, .func (.func 17) #[.pointer (some ⟨p, 0, none⟩)] #[]]) 8 (by kernel_rfl) rfl (by kernel_rfl) (run_callf2 (g := 35) (v := v) (z := .func (.func 17) #[.pointer (some ⟨p, 0, none⟩)] #[]) (fun _ _ => by kernel_rfl) rfl rfl rfl _) ?_
    obtain ⟨g, cap, rfl, hgB, hr32⟩ := row32_of HO.out (by rw [show ss.length = dl.length by simpa using HP.out.length_eq]; exact HD1.out)
    have hg1 : w1.heap.size ≤ g := by simp at hgB; omega
    have HG1 := hid hg1
    have HR32 := hid hr32
    have HSS : Hid (ss.toArray.size = ss.length) := by show _ = _; simp
    have HS12 : Hid (ss.toArray.size ≤ 12) := by show _ ≤ _; rw [HSS.out, show ss.length = dl.length by simpa using HP.out.length_eq]; exact HD12.out
    have HC2 := hid (HC.out.no HS)
    have HNG : Hid (∀ b, CacheS p bh bd b → b ≠ g) := fun b hb e => by have := HC.out.lt b hb; have := HG1.out; omega
    clear hgB hg1 hr32
    rw [← HSS.out]
    refine deleteF_ok (p := fun x => (aget hl x).isSome) (fun args W => enters_of Try.func17 (by kernel_rfl) rfl args W) (Nat.le_trans HS12.out (by decide)) HR32.out (fun W x R' hf hx hR' => has_ok (HC2.out.fr hf (fun b hb e => HNG.out b hb e)) (HWF.out x (HP.out.subset (by simpa using hx))) hR') ?_
    intro w3 ys hys hr3 hf3
    have HYS := hid hys
    have HR3 := hid hr3
    have HS1 := HS.trans hf3 (fun b hb => .inr (by rw [show b = g from hb]; exact HG1.out))
    clear HS hys hr3 hf3
    have HS := HS1
    refine ⟨HS, ?_⟩
    clear HS1
    simp only [Act.put, Act.eval, Array.getD_eq_getD_getElem?, List.setIfInBounds_toArray, List.set_cons_succ, List.set_cons_zero, List.getElem?_toArray, List.getElem?_cons_succ, List.getElem?_cons_zero, Option.getD_some]
    (refine h_val 9 rfl (by kernel_rfl) (by kernel_rfl) (by kernel_rfl) (fun _ _ _ h => h) HS (by kernel_rfl) (fun W _ => run_assign rfl rfl W) ?_; simp only [Act.put, Act.eval, Array.getD_eq_getD_getElem?, List.setIfInBounds_toArray, List.set_cons_succ, List.set_cons_zero, List.getElem?_toArray, List.getElem?_cons_succ, List.getElem?_cons_zero, Option.getD_some])
    refine h_done (by kernel_rfl) ?_
    have HS2 := hid HS
    clear HS c0
    have HC3 := hid (HC.out.no HS2.out)
    have HY12 : Hid (ys.size ≤ 12) := by
      have h1 := congrArg List.length HYS.out
      have h2 := List.length_filter_le (fun x => !(aget hl x).isSome) ss.toArray.toList
      have h3 := HS12.out
      show _ ≤ _
      simp at h1 h2 h3
      omega
    have HIN : Hid (∀ x ∈ ys.toList, (Lit.int .u32 x).wf = true) := fun x hx => by
      rw [HYS.out] at hx
      exact HWF.out x (HP.out.subset (by simpa using (List.mem_filter.1 hx).1))
    go_wp2_with (go_at_call 38; refine sortF_ok HY12.out (isortc_ok (κ := wkey dl) (fun args W => enters_of Try.func39 (by kernel_rfl) rfl args W) (Nat.le_trans HY12.out (by decide)) HR3.out (fun W x y R' hf hx hy hR' => wcmp_ok (dl := dl) (hf.keep (HS2.out.keep HBX.out (fun h => h)) (fun e => by have := HG1.out; have := lt_of_heap HBX.out; have : w.heap.size = g := e; omega)) (HC3.out.fr hf (fun b hb e => HNG.out b hb e)) (HIN.out x hx) (HIN.out y hy) (fun W' hW' => hR' W' _ hW' (wcmp_lt (wf_bounds (HIN.out x hx)).1 (wf_bounds (HIN.out x hx)).2 (wf_bounds (HIN.out y hy)).1 (wf_bounds (HIN.out y hy)).2))) ?_); intro w4 zs h1 h2 h3 h4; refine ⟨rfl, ?_⟩; have X1 := hid h1; have X2 := hid h2; have X3 := hid h3; have X4 : Hid (Fr No w w4) := (HF1.out.no HS2.out).trans h4 (fun b hb => .inr (by rw [show b = g from hb]; exact Nat.le_trans HF1.out.size HG1.out)); clear h1 h2 h3 h4)
    have hz : zs.size = ys.size := by have := X2.out.length_eq; simpa using this
    have hr := X1.out.reads
    rw [hz] at hr
    refine HR.out _ _ zs.toList hr ⟨X2.out.trans ?_, upto_pairwiseK (by rw [hz]; exact X3.out)⟩ X4.out
    rw [HYS.out]
    exact (HP.out.filter _)
end

end Go.Proofs.Ytokhbjllgaaogaa
