/- The reference's cache: Put. No condition beside that it lies there. -/
import Derived.Test.YtokhbjllgaaogaaCRef4
namespace Go.Proofs.Ytokhbjllgaaogaa
set_option linter.unusedSimpArgs false
open Go.RowKit Go.Maps
attribute [local irreducible] wpQuiet wpAnyH

/-- append(v, x...), v a row of the call's own that holds nothing. -/
theorem wpList_rowcopy {P : Program} {ops : Array Oper} {rest : List Oper} {o : Oper} {a : Act} {w : World} {Q : Exit → Act → World → Prop} (T e : TypeId) (sz bytes : Nat) (hT : Hid (ElemT P T e sz bytes)) (hsz : 0 < sz)
    (hg : o.guard = none) (s x : Operand) (ho : o.op = .call { callee := .builtin .append, args := #[s, x], argTypes := #[T, T] })
    (v : Value) (hs : a.eval s = v) (xv : Value) (hx : a.eval x = xv) (n : Nat) (xs : List Value) (hrow : Hid (RowsAt No w xv n sz xs)) (h1 : Hid (∀ u ∈ xs, u.oneCell' = true))
    (w0 : World) (base : Nat) (hb0 : Hid (base = w0.heap.size)) (hf : Hid (Fr No w0 w)) (hown : Hid (w.ownsRow base e sz v 0 [])) (hv : Hid (v ≠ .slice none 0 0)) (h63 : n ≤ maxLen) (hbytes : n * bytes ≤ 140737488355328)
    (h : ∀ v' w', Hid (w'.ownsRow base e sz v' n xs) → Hid (Fr No w0 w') → wpList P ops Q rest (a.put o.dst v') w') : wpList P ops Q (o :: rest) a w := by
  obtain ⟨v', w', hr, h2, h3, _⟩ := run_copy hT.out hsz ho hs hx hrow.out h1.out hown.out hv.out (by rw [hb0.out]; exact hf.out.size) h63 hbytes
  exact wpList_ok hg hr (h v' w' h2 (Fr.of_grown hf.out (Nat.le_of_eq hb0.out.symm) hown.out h3))

theorem cells2_one {α : Type} {enc : α → Value} {l : List (Int × α)} (h : ∀ a, (enc a).oneCell' = true) : ∀ u ∈ cells2 enc l, u.oneCell' = true := fun u hu => by
  obtain ⟨x, _, hx⟩ := List.mem_flatMap.1 hu
  simp at hx
  rcases hx with rfl | rfl
  · rfl
  · exact h _

theorem rfieldC0 (b : Nat) (W : World) : (Instr.fieldAt 85 (.pointer (some ⟨b, 0, none⟩)) 0).run Try.prog W = .ok (.pointer (some ⟨b, 0, none⟩)) W := by kernel_rfl
theorem rintU : Try.prog.underlying 3 = some (.int .i64) := by kernel_rfl

section
variable {B : Nat} {w w' W : World} {q : Nat} {m : Int} {l l1 l2 : List (Int × Bool)} {dh d1 d2 : List (Int × Int)} {vl vh v : Value} {R : Ending → World → Prop} {f y n b : Int} {d x : Bool}

set_option maxRecDepth 100000 in
theorem rput_zero (hR : R (.returned (.tuple #[.int .u32 0, .int .i64 2])) w) : Calls Try.prog 50 #[.pointer (some ⟨q, 0, none⟩), .int .u32 0] w R := by
  go_enter Try.func50, Try.ntmps50
  go_wp2
  exact hR

set_option maxHeartbeats 1000000 in
set_option maxRecDepth 100000 in
theorem rput_has (C : RefC B w q m l dh vl vh) (hf : f ≠ 0) (hl : l = l1 ++ (f, d) :: l2) (hlen : l.length < 1000) (h1 : ∀ x ∈ l1, x.1 ≠ f)
    (hR : ∀ w' v, RefC B w' q m (l1 ++ l2 ++ [(f, d)]) dh v vh → Fr (RefS q vl) w w' → R (.returned (.tuple #[.int .u32 0, .int .i64 0])) w') :
    Calls Try.prog 50 #[.pointer (some ⟨q, 0, none⟩), .int .u32 f] w R := by
  have HR := hid hR
  have HG := hid h1
  have HC := hid C
  have HL := hid hl
  clear hR h1 C hl
  go_enter Try.func50, Try.ntmps50
  go_wp2_with (go_at_call 51; refine rtouch_yes HC.out HL.out hlen HG.out ?_; intro w1 v1 h1 h2; have H1 := hid h1; have H2 := hid h2; clear h1 h2)
  exact HR.out _ _ H1.out H2.out

set_option maxHeartbeats 4000000 in
set_option maxRecDepth 100000 in
theorem rput_room (C : RefC B w q m l dh vl vh) (hf : f ≠ 0) (hg : aget l f = none) (hlen : l.length < 900) (hn : (l.length : Int) < m)
    (hR : ∀ w' v, RefC B w' q m (l ++ [(f, false)]) dh v vh → Fr (RefS q vl) w w' → R (.returned (.tuple #[.int .u32 0, .int .i64 0])) w') :
    Calls Try.prog 50 #[.pointer (some ⟨q, 0, none⟩), .int .u32 f] w R := by
  have hlen : l.length < 1000 := by omega
  have HR := hid hR
  have HG := hid hg
  have HC := hid C
  obtain ⟨sa, cap, rfl⟩ := owns_shape C.items
  clear hR hg C
  go_enter Try.func50, Try.ntmps50
  go_wp2_with (go_at_call 51; refine rtouch_no HC.out hlen HG.out ?_)
  refine region_held (n := 10) (Fr No w) follows (by kernel_rfl) ?_
  have HS : Fr No w w.drew := (Fr.refl No w).drew
  (refine h_val 0 rfl (by kernel_rfl) (by kernel_rfl) (by kernel_rfl) (fun _ _ _ h => h) HS (by kernel_rfl) (fun W _ => run_move rfl rfl W) ?_; simp only [Act.put, Act.eval, Array.getD_eq_getD_getElem?, List.setIfInBounds_toArray, List.set_cons_succ, List.set_cons_zero, List.getElem?_toArray, List.getElem?_cons_succ, List.getElem?_cons_zero, Option.getD_some])
  (refine h_val 1 rfl (by kernel_rfl) (by kernel_rfl) (by kernel_rfl) (fun _ _ _ h => h) HS (by kernel_rfl) (fun W _ => run_nilCheck rfl rfl W) ?_; simp only [Act.put, Act.eval, Array.getD_eq_getD_getElem?, List.setIfInBounds_toArray, List.set_cons_succ, List.set_cons_zero, List.getElem?_toArray, List.getElem?_cons_succ, List.getElem?_cons_zero, Option.getD_some])
  (refine h_val 2 rfl (by kernel_rfl) (by kernel_rfl) (by kernel_rfl) (fun _ _ _ h => h) HS (by kernel_rfl) (fun W _ => run_field rfl rfl (rfieldC1 q) W) ?_; simp only [Act.put, Act.eval, Array.getD_eq_getD_getElem?, List.setIfInBounds_toArray, List.set_cons_succ, List.set_cons_zero, List.getElem?_toArray, List.getElem?_cons_succ, List.getElem?_cons_zero, Option.getD_some])
  (refine h_val (v := .slice sa l.length cap) 3 rfl (by kernel_rfl) (by kernel_rfl) (by kernel_rfl) (fun _ _ _ h => h) HS (by kernel_rfl) (fun W hW => run_loadv rfl rfl (var_ritems (hW.keep HC.out.head (fun h => h)) rfl)) ?_; simp only [Act.put, Act.eval, Array.getD_eq_getD_getElem?, List.setIfInBounds_toArray, List.set_cons_succ, List.set_cons_zero, List.getElem?_toArray, List.getElem?_cons_succ, List.getElem?_cons_zero, Option.getD_some])
  (refine h_val 4 rfl (by kernel_rfl) (by kernel_rfl) (by kernel_rfl) (fun _ _ _ h => h) HS (by kernel_rfl) (fun W _ => run_lens rfl rfl (ritemsU) W) ?_; simp only [Act.put, Act.eval, Array.getD_eq_getD_getElem?, List.setIfInBounds_toArray, List.set_cons_succ, List.set_cons_zero, List.getElem?_toArray, List.getElem?_cons_succ, List.getElem?_cons_zero, Option.getD_some])
  (refine h_val 5 rfl (by kernel_rfl) (by kernel_rfl) (by kernel_rfl) (fun _ _ _ h => h) HS (by kernel_rfl) (fun W _ => run_move rfl rfl W) ?_; simp only [Act.put, Act.eval, Array.getD_eq_getD_getElem?, List.setIfInBounds_toArray, List.set_cons_succ, List.set_cons_zero, List.getElem?_toArray, List.getElem?_cons_succ, List.getElem?_cons_zero, Option.getD_some])
  (refine h_val 6 rfl (by kernel_rfl) (by kernel_rfl) (by kernel_rfl) (fun _ _ _ h => h) HS (by kernel_rfl) (fun W _ => run_nilCheck rfl rfl W) ?_; simp only [Act.put, Act.eval, Array.getD_eq_getD_getElem?, List.setIfInBounds_toArray, List.set_cons_succ, List.set_cons_zero, List.getElem?_toArray, List.getElem?_cons_succ, List.getElem?_cons_zero, Option.getD_some])
  (refine h_val 7 rfl (by kernel_rfl) (by kernel_rfl) (by kernel_rfl) (fun _ _ _ h => h) HS (by kernel_rfl) (fun W _ => run_field rfl rfl (rfieldC0 q) W) ?_; simp only [Act.put, Act.eval, Array.getD_eq_getD_getElem?, List.setIfInBounds_toArray, List.set_cons_succ, List.set_cons_zero, List.getElem?_toArray, List.getElem?_cons_succ, List.getElem?_cons_zero, Option.getD_some])
  (refine h_val (v := .int .i64 m) 8 rfl (by kernel_rfl) (by kernel_rfl) (by kernel_rfl) (fun _ _ _ h => h) HS (by kernel_rfl) (fun W hW => run_loadv rfl rfl (var_cell rintU rfl (cell_at (hW.keep HC.out.head (fun h => h)) rfl))) ?_; simp only [Act.put, Act.eval, Array.getD_eq_getD_getElem?, List.setIfInBounds_toArray, List.set_cons_succ, List.set_cons_zero, List.getElem?_toArray, List.getElem?_cons_succ, List.getElem?_cons_zero, Option.getD_some])
  (refine h_val (v := .bool false) 9 rfl (by kernel_rfl) (by kernel_rfl) (by kernel_rfl) (fun _ _ _ h => h) HS (by kernel_rfl) (fun W _ => run_bin rfl rfl rfl (geqN hn W)) ?_; simp only [Act.put, Act.eval, Array.getD_eq_getD_getElem?, List.setIfInBounds_toArray, List.set_cons_succ, List.set_cons_zero, List.getElem?_toArray, List.getElem?_cons_succ, List.getElem?_cons_zero, Option.getD_some])
  refine h_done (by kernel_rfl) ?_
  obtain ⟨w4, hw4⟩ : ∃ w4, w4 = w.drew := ⟨_, rfl⟩
  rw [← hw4] at HS ⊢
  have HC2 := hid (HC.out.no HS)
  have HFin : Hid (∀ W v, Fr No w4 W → W.ownsRow w4.heap.size 97 2 v (l ++ [(f, false)]).length (cells2 encB (l ++ [(f, false)])) → R (.returned (.tuple #[.int .u32 0, .int .i64 0])) (W.setRow q #[.int .i64 m, v, vh])) := fun W v hF ho =>
    HR.out _ v ((HC2.out.no hF).newl (owns_low ho HC2.out.lt)) (HC.out.fr1 (HS.no hF) _)
  clear HS hw4
  obtain ⟨L, hL⟩ : ∃ L, L = l := ⟨_, rfl⟩
  obtain ⟨vL, hvL⟩ : ∃ vL, vL = Value.slice sa l.length cap := ⟨_, rfl⟩
  rw [← hvL] at HC2
  rw [← hL] at HFin HC2
  have hLn : L.length < 900 := by rw [hL]; assumption
  clear hL hvL
  have HT := hid itemT
  have HONE : Hid (∀ u ∈ cells2 encB L, u.oneCell' = true) := cells2_one (fun b => rfl)
  go_wp2_with (first
    | (refine wpList_built0 _ _ 2 8 HT rfl rfl ?_; intro v0 w5 o0 f0 n0; have c1 : w5.cell? ⟨q, 1, none⟩ = some vL := cell_at (HC2.out.no f0.out).head rfl; have HRW := hid (RowsAt.of_owns (S := No) (HC2.out.no f0.out).items (fun _ _ h => h)))
    | (refine wpList_rowcopy _ _ 2 8 HT (by decide) rfl _ _ rfl v0 rfl vL rfl _ _ HRW HONE w4 w4.heap.size (hid rfl) f0 o0 n0 (by simp only [maxLen]; omega) (by omega) ?_; intro v6 w6 o6 f6)
    | (refine wpList_push _ _ 2 8 HT (by decide) (by decide) rfl _ rfl _ rfl rfl _ rfl _ rfl (show (Value.agg #[.int .u32 f, .bool false]).cells.size = 2 from rfl) oneB _ (fun _ => rfl) (fun _ => rfl) w4 w4.heap.size (hid rfl) f6 _ _ o6 (by simp only [maxLen]; omega) (by omega) ?_; intro v7 w7 o7 f7 n7; have HD := hid ((HC2.out.no f7.out).head); have H1 := hid (owns_one o7.out))
    | (refine wpList_storeVar (x := .tmp 57) rfl rfl rfl rfl (run_set1 HD.out rfl ritems1 H1.out rfl) ?_))
  exact HFin.out _ _ f7.out (by rw [cells2_snoc, List.length_append]; exact o7.out)

set_option maxHeartbeats 4000000 in
set_option maxRecDepth 100000 in
theorem rput_none (C : RefC B w q m l dh vl vh) (hf : f ≠ 0) (hg : aget l f = none) (hlen : l.length < 1000) (hdl : dh.length < 1000) (hn : m ≤ (l.length : Int)) (hb : rnx dh l = none)
    (hR : ∀ w', Fr No w w' → R (.returned (.tuple #[.int .u32 0, .int .i64 4])) w') :
    Calls Try.prog 50 #[.pointer (some ⟨q, 0, none⟩), .int .u32 f] w R := by
  have HB := hid hb
  clear hb
  have HR := hid hR
  have HG := hid hg
  have HC := hid C
  obtain ⟨sa, cap, rfl⟩ := owns_shape C.items
  clear hR hg C
  go_enter Try.func50, Try.ntmps50
  go_wp2_with (go_at_call 51; refine rtouch_no HC.out hlen HG.out ?_)
  refine region_held (n := 10) (Fr No w) follows (by kernel_rfl) ?_
  have HS : Fr No w w.drew := (Fr.refl No w).drew
  (refine h_val 0 rfl (by kernel_rfl) (by kernel_rfl) (by kernel_rfl) (fun _ _ _ h => h) HS (by kernel_rfl) (fun W _ => run_move rfl rfl W) ?_; simp only [Act.put, Act.eval, Array.getD_eq_getD_getElem?, List.setIfInBounds_toArray, List.set_cons_succ, List.set_cons_zero, List.getElem?_toArray, List.getElem?_cons_succ, List.getElem?_cons_zero, Option.getD_some])
  (refine h_val 1 rfl (by kernel_rfl) (by kernel_rfl) (by kernel_rfl) (fun _ _ _ h => h) HS (by kernel_rfl) (fun W _ => run_nilCheck rfl rfl W) ?_; simp only [Act.put, Act.eval, Array.getD_eq_getD_getElem?, List.setIfInBounds_toArray, List.set_cons_succ, List.set_cons_zero, List.getElem?_toArray, List.getElem?_cons_succ, List.getElem?_cons_zero, Option.getD_some])
  (refine h_val 2 rfl (by kernel_rfl) (by kernel_rfl) (by kernel_rfl) (fun _ _ _ h => h) HS (by kernel_rfl) (fun W _ => run_field rfl rfl (rfieldC1 q) W) ?_; simp only [Act.put, Act.eval, Array.getD_eq_getD_getElem?, List.setIfInBounds_toArray, List.set_cons_succ, List.set_cons_zero, List.getElem?_toArray, List.getElem?_cons_succ, List.getElem?_cons_zero, Option.getD_some])
  (refine h_val (v := .slice sa l.length cap) 3 rfl (by kernel_rfl) (by kernel_rfl) (by kernel_rfl) (fun _ _ _ h => h) HS (by kernel_rfl) (fun W hW => run_loadv rfl rfl (var_ritems (hW.keep HC.out.head (fun h => h)) rfl)) ?_; simp only [Act.put, Act.eval, Array.getD_eq_getD_getElem?, List.setIfInBounds_toArray, List.set_cons_succ, List.set_cons_zero, List.getElem?_toArray, List.getElem?_cons_succ, List.getElem?_cons_zero, Option.getD_some])
  (refine h_val 4 rfl (by kernel_rfl) (by kernel_rfl) (by kernel_rfl) (fun _ _ _ h => h) HS (by kernel_rfl) (fun W _ => run_lens rfl rfl (ritemsU) W) ?_; simp only [Act.put, Act.eval, Array.getD_eq_getD_getElem?, List.setIfInBounds_toArray, List.set_cons_succ, List.set_cons_zero, List.getElem?_toArray, List.getElem?_cons_succ, List.getElem?_cons_zero, Option.getD_some])
  (refine h_val 5 rfl (by kernel_rfl) (by kernel_rfl) (by kernel_rfl) (fun _ _ _ h => h) HS (by kernel_rfl) (fun W _ => run_move rfl rfl W) ?_; simp only [Act.put, Act.eval, Array.getD_eq_getD_getElem?, List.setIfInBounds_toArray, List.set_cons_succ, List.set_cons_zero, List.getElem?_toArray, List.getElem?_cons_succ, List.getElem?_cons_zero, Option.getD_some])
  (refine h_val 6 rfl (by kernel_rfl) (by kernel_rfl) (by kernel_rfl) (fun _ _ _ h => h) HS (by kernel_rfl) (fun W _ => run_nilCheck rfl rfl W) ?_; simp only [Act.put, Act.eval, Array.getD_eq_getD_getElem?, List.setIfInBounds_toArray, List.set_cons_succ, List.set_cons_zero, List.getElem?_toArray, List.getElem?_cons_succ, List.getElem?_cons_zero, Option.getD_some])
  (refine h_val 7 rfl (by kernel_rfl) (by kernel_rfl) (by kernel_rfl) (fun _ _ _ h => h) HS (by kernel_rfl) (fun W _ => run_field rfl rfl (rfieldC0 q) W) ?_; simp only [Act.put, Act.eval, Array.getD_eq_getD_getElem?, List.setIfInBounds_toArray, List.set_cons_succ, List.set_cons_zero, List.getElem?_toArray, List.getElem?_cons_succ, List.getElem?_cons_zero, Option.getD_some])
  (refine h_val (v := .int .i64 m) 8 rfl (by kernel_rfl) (by kernel_rfl) (by kernel_rfl) (fun _ _ _ h => h) HS (by kernel_rfl) (fun W hW => run_loadv rfl rfl (var_cell rintU rfl (cell_at (hW.keep HC.out.head (fun h => h)) rfl))) ?_; simp only [Act.put, Act.eval, Array.getD_eq_getD_getElem?, List.setIfInBounds_toArray, List.set_cons_succ, List.set_cons_zero, List.getElem?_toArray, List.getElem?_cons_succ, List.getElem?_cons_zero, Option.getD_some])
  (refine h_val (v := .bool true) 9 rfl (by kernel_rfl) (by kernel_rfl) (by kernel_rfl) (fun _ _ _ h => h) HS (by kernel_rfl) (fun W _ => run_bin rfl rfl rfl (geqI hn W)) ?_; simp only [Act.put, Act.eval, Array.getD_eq_getD_getElem?, List.setIfInBounds_toArray, List.set_cons_succ, List.set_cons_zero, List.getElem?_toArray, List.getElem?_cons_succ, List.getElem?_cons_zero, Option.getD_some])
  refine h_done (by kernel_rfl) ?_
  have HS1 := hid HS
  clear HS
  go_wp2_with (go_at_call 43; refine rnext_ok (HC.out.no HS1.out) hlen hdl ?_; intro w1 h1; have H1 := hid h1; clear h1; rw [HB.out])
  exact HR.out _ (HS1.out.no H1.out)

set_option maxHeartbeats 4000000 in
set_option maxRecDepth 100000 in
theorem rput_out (C : RefC B w q m l dh vl vh) (hf : f ≠ 0) (hg : aget l f = none) (hlen : l.length < 900) (hdl : dh.length < 1000) (hn : m ≤ (l.length : Int)) (hb : rnx dh l = some b) (hl : l = l1 ++ (b, d) :: l2) (h1 : ∀ x ∈ l1, x.1 ≠ b)
    (hR : ∀ w' v, RefC B w' q m (l1 ++ l2 ++ [(f, false)]) dh v vh → Fr (RefS q vl) w w' → R (.returned (.tuple #[.int .u32 b, .int .i64 0])) w') :
    Calls Try.prog 50 #[.pointer (some ⟨q, 0, none⟩), .int .u32 f] w R := by
  have hLL : Hid ((l1 ++ l2).length < 900) := by show _ < _; rw [hl] at hlen; simp at hlen ⊢; omega
  have hlen : l.length < 1000 := by omega
  have HB := hid hb
  have HL := hid hl
  have H1B := hid h1
  have HT := hid itemT
  clear hb hl h1
  have HR := hid hR
  have HG := hid hg
  have HC := hid C
  obtain ⟨sa, cap, rfl⟩ := owns_shape C.items
  clear hR hg C
  go_enter Try.func50, Try.ntmps50
  go_wp2_with (go_at_call 51; refine rtouch_no HC.out hlen HG.out ?_)
  refine region_held (n := 10) (Fr No w) follows (by kernel_rfl) ?_
  have HS : Fr No w w.drew := (Fr.refl No w).drew
  (refine h_val 0 rfl (by kernel_rfl) (by kernel_rfl) (by kernel_rfl) (fun _ _ _ h => h) HS (by kernel_rfl) (fun W _ => run_move rfl rfl W) ?_; simp only [Act.put, Act.eval, Array.getD_eq_getD_getElem?, List.setIfInBounds_toArray, List.set_cons_succ, List.set_cons_zero, List.getElem?_toArray, List.getElem?_cons_succ, List.getElem?_cons_zero, Option.getD_some])
  (refine h_val 1 rfl (by kernel_rfl) (by kernel_rfl) (by kernel_rfl) (fun _ _ _ h => h) HS (by kernel_rfl) (fun W _ => run_nilCheck rfl rfl W) ?_; simp only [Act.put, Act.eval, Array.getD_eq_getD_getElem?, List.setIfInBounds_toArray, List.set_cons_succ, List.set_cons_zero, List.getElem?_toArray, List.getElem?_cons_succ, List.getElem?_cons_zero, Option.getD_some])
  (refine h_val 2 rfl (by kernel_rfl) (by kernel_rfl) (by kernel_rfl) (fun _ _ _ h => h) HS (by kernel_rfl) (fun W _ => run_field rfl rfl (rfieldC1 q) W) ?_; simp only [Act.put, Act.eval, Array.getD_eq_getD_getElem?, List.setIfInBounds_toArray, List.set_cons_succ, List.set_cons_zero, List.getElem?_toArray, List.getElem?_cons_succ, List.getElem?_cons_zero, Option.getD_some])
  (refine h_val (v := .slice sa l.length cap) 3 rfl (by kernel_rfl) (by kernel_rfl) (by kernel_rfl) (fun _ _ _ h => h) HS (by kernel_rfl) (fun W hW => run_loadv rfl rfl (var_ritems (hW.keep HC.out.head (fun h => h)) rfl)) ?_; simp only [Act.put, Act.eval, Array.getD_eq_getD_getElem?, List.setIfInBounds_toArray, List.set_cons_succ, List.set_cons_zero, List.getElem?_toArray, List.getElem?_cons_succ, List.getElem?_cons_zero, Option.getD_some])
  (refine h_val 4 rfl (by kernel_rfl) (by kernel_rfl) (by kernel_rfl) (fun _ _ _ h => h) HS (by kernel_rfl) (fun W _ => run_lens rfl rfl (ritemsU) W) ?_; simp only [Act.put, Act.eval, Array.getD_eq_getD_getElem?, List.setIfInBounds_toArray, List.set_cons_succ, List.set_cons_zero, List.getElem?_toArray, List.getElem?_cons_succ, List.getElem?_cons_zero, Option.getD_some])
  (refine h_val 5 rfl (by kernel_rfl) (by kernel_rfl) (by kernel_rfl) (fun _ _ _ h => h) HS (by kernel_rfl) (fun W _ => run_move rfl rfl W) ?_; simp only [Act.put, Act.eval, Array.getD_eq_getD_getElem?, List.setIfInBounds_toArray, List.set_cons_succ, List.set_cons_zero, List.getElem?_toArray, List.getElem?_cons_succ, List.getElem?_cons_zero, Option.getD_some])
  (refine h_val 6 rfl (by kernel_rfl) (by kernel_rfl) (by kernel_rfl) (fun _ _ _ h => h) HS (by kernel_rfl) (fun W _ => run_nilCheck rfl rfl W) ?_; simp only [Act.put, Act.eval, Array.getD_eq_getD_getElem?, List.setIfInBounds_toArray, List.set_cons_succ, List.set_cons_zero, List.getElem?_toArray, List.getElem?_cons_succ, List.getElem?_cons_zero, Option.getD_some])
  (refine h_val 7 rfl (by kernel_rfl) (by kernel_rfl) (by kernel_rfl) (fun _ _ _ h => h) HS (by kernel_rfl) (fun W _ => run_field rfl rfl (rfieldC0 q) W) ?_; simp only [Act.put, Act.eval, Array.getD_eq_getD_getElem?, List.setIfInBounds_toArray, List.set_cons_succ, List.set_cons_zero, List.getElem?_toArray, List.getElem?_cons_succ, List.getElem?_cons_zero, Option.getD_some])
  (refine h_val (v := .int .i64 m) 8 rfl (by kernel_rfl) (by kernel_rfl) (by kernel_rfl) (fun _ _ _ h => h) HS (by kernel_rfl) (fun W hW => run_loadv rfl rfl (var_cell rintU rfl (cell_at (hW.keep HC.out.head (fun h => h)) rfl))) ?_; simp only [Act.put, Act.eval, Array.getD_eq_getD_getElem?, List.setIfInBounds_toArray, List.set_cons_succ, List.set_cons_zero, List.getElem?_toArray, List.getElem?_cons_succ, List.getElem?_cons_zero, Option.getD_some])
  (refine h_val (v := .bool true) 9 rfl (by kernel_rfl) (by kernel_rfl) (by kernel_rfl) (fun _ _ _ h => h) HS (by kernel_rfl) (fun W _ => run_bin rfl rfl rfl (geqI hn W)) ?_; simp only [Act.put, Act.eval, Array.getD_eq_getD_getElem?, List.setIfInBounds_toArray, List.set_cons_succ, List.set_cons_zero, List.getElem?_toArray, List.getElem?_cons_succ, List.getElem?_cons_zero, Option.getD_some])
  refine h_done (by kernel_rfl) ?_
  have HS1 := hid HS
  clear HS
  go_wp2_with (first
    | (go_at_call 43; refine rnext_ok (HC.out.no HS1.out) hlen hdl ?_; intro w1 h1; have HF1 := hid (HS1.out.no h1); clear h1; rw [HB.out]; have c1 := cell_at (o := 1) (HC.out.no HF1.out).head rfl)
    | (go_at_call 66; refine rat_yes (l1 := l1) (l2 := l2) (f := b) (d := d) (by rw [← HL.out]; exact HC.out.no HF1.out) (by rw [← HL.out]; exact hlen) H1B.out ?_)
    | (go_at_call 68; refine rwithout_ok (l1 := l1) (l2 := l2) (x := (b, d)) (by rw [← HL.out]; exact HC.out.no HF1.out) (by rw [← HL.out]; exact hlen) ?_; intro v w2 ho hF0; have HO := hid ho; have H1 := hid (owns_one ho); have HF2 := hid (HF1.out.no hF0); have HD := hid (HF2.out.keep HC.out.head (fun h => h)); clear ho hF0 c1)
    | (refine wpList_storeVar (x := .tmp 44) rfl rfl rfl rfl (run_set1 (cs' := #[.int .i64 m, v, vh]) HD.out rfl ritems1 H1.out rfl) ?_
       have HC2 : Hid (RefC B (w2.setRow q #[.int .i64 m, v, vh]) q m (l1 ++ l2) dh v vh) := (HC.out.no HF2.out).newl (owns_low HO.out (HC.out.no HF1.out).lt)
       have HF3 : Hid (Fr (RefS q (.slice sa l.length cap)) w (w2.setRow q #[.int .i64 m, v, vh])) := HC.out.fr1 HF2.out _
       obtain ⟨w4, hw4⟩ : ∃ w4, w4 = w2.setRow q #[.int .i64 m, v, vh] := ⟨_, rfl⟩
       rw [← hw4] at HC2 HF3 ⊢
       have HFin : Hid (∀ W v', Fr No w4 W → W.ownsRow w4.heap.size 97 2 v' (l1 ++ l2 ++ [(f, false)]).length (cells2 encB (l1 ++ l2 ++ [(f, false)])) → R (.returned (.tuple #[.int .u32 b, .int .i64 0])) (W.setRow q #[.int .i64 m, v', vh])) := fun W v' hF ho => HR.out _ v' ((HC2.out.no hF).newl (owns_low ho HC2.out.lt)) ((HF3.out.no hF).setRow (.inl (.inl rfl)) _)
       clear hw4 HO H1 HD HF3 HF1 HF2
       obtain ⟨vL, hvL⟩ : ∃ vL, vL = v := ⟨_, rfl⟩
       rw [← hvL] at HC2
       obtain ⟨L, hL⟩ : ∃ L, L = l1 ++ l2 := ⟨_, rfl⟩
       rw [← hL] at HFin HC2
       have hLn : L.length < 900 := by rw [hL]; exact hLL.out
       clear hL hvL
       have HONE : Hid (∀ u ∈ cells2 encB L, u.oneCell' = true) := cells2_one (fun b => rfl))
    | (refine wpList_built0 _ _ 2 8 HT rfl rfl ?_; intro v0 w5 o0 f0 n0; have c1 : w5.cell? ⟨q, 1, none⟩ = some vL := cell_at (HC2.out.no f0.out).head rfl; have HRW := hid (RowsAt.of_owns (S := No) (HC2.out.no f0.out).items (fun _ _ h => h)))
    | (refine wpList_rowcopy _ _ 2 8 HT (by decide) rfl _ _ rfl v0 rfl vL rfl _ _ HRW HONE w4 w4.heap.size (hid rfl) f0 o0 n0 (by simp only [maxLen]; omega) (by omega) ?_; intro v6 w6 o6 f6)
    | (refine wpList_push _ _ 2 8 HT (by decide) (by decide) rfl _ rfl _ rfl rfl _ rfl _ rfl (show (Value.agg #[.int .u32 f, .bool false]).cells.size = 2 from rfl) oneB _ (fun _ => rfl) (fun _ => rfl) w4 w4.heap.size (hid rfl) f6 _ _ o6 (by simp only [maxLen]; omega) (by omega) ?_; intro v7 w7 o7 f7 n7; have HD := hid ((HC2.out.no f7.out).head); have H1 := hid (owns_one o7.out))
    | (refine wpList_storeVar (x := .tmp 57) rfl rfl rfl rfl (run_set1 HD.out rfl ritems1 H1.out rfl) ?_))
  exact HFin.out _ _ f7.out (by rw [cells2_snoc, List.length_append]; exact o7.out)

end

end Go.Proofs.Ytokhbjllgaaogaa
