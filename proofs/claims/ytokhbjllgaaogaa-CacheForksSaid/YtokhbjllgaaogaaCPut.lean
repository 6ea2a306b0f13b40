/- The cache's Put. No condition beside that it lies there. -/
import Derived.Test.YtokhbjllgaaogaaCNext
namespace Go.Proofs.Ytokhbjllgaaogaa
set_option linter.unusedSimpArgs false
open Go.RowKit Go.Maps
attribute [local irreducible] wpQuiet wpAnyH

theorem fieldC0 (b : Nat) (W : World) : (Instr.fieldAt 58 (.pointer (some ⟨b, 0, none⟩)) 0).run Try.prog W = .ok (.pointer (some ⟨b, 0, none⟩)) W := by kernel_rfl
theorem fieldC2 (b : Nat) (W : World) : (Instr.fieldAt 58 (.pointer (some ⟨b, 0, none⟩)) 2).run Try.prog W = .ok (.pointer (some ⟨b, 2, none⟩)) W := by kernel_rfl
theorem geqI {a b : Int} (hab : b ≤ a) (W : World) : (binOp .geq 3 (.int .i64 a) (.int .i64 b)).run Try.prog W = .ok (.bool true) W := by
  have h : (binOp .geq 3 (.int .i64 a) (.int .i64 b)).run Try.prog W = .ok (.bool (decide (b ≤ a))) W := by kernel_rfl
  rw [h, decide_eq_true hab]
theorem geqN {a b : Int} (hab : a < b) (W : World) : (binOp .geq 3 (.int .i64 a) (.int .i64 b)).run Try.prog W = .ok (.bool false) W := by
  have h : (binOp .geq 3 (.int .i64 a) (.int .i64 b)).run Try.prog W = .ok (.bool (decide (b ≤ a))) W := by kernel_rfl
  rw [h, decide_eq_false (by omega)]

theorem run_mlen {α : Type} {P : Program} {kt et t : TypeId} {q : IntKind} {enc : α → Value} {w : World} {b : Nat} {l : List (Int × α)} {o : Oper} {a : Act} {m : Operand} (ho : o.op = Op.call { callee := Callee.builtin Builtin.len, args := #[m], argTypes := #[t] }) (hm : a.eval m = .map (some b)) (ht : P.underlying t = some (.map kt et)) (M : MapAt P kt q enc w b l) :
    (execOp a.eval o).run P w = .ok (.value (.int .i64 l.length)) w := by
  have h := M.owns.len ht o.type
  rw [toD_size] at h
  unfold execOp
  simp [ho, hm, resolve, invoke, builtin, h]

theorem nx_mem {dl : List (Int × Int)} : ∀ {hl : List (Int × (Int × Bool))} {s : NS}, (hl.foldl (nxStep dl) s).ok = true → s.ok = true ∧ (hl.foldl (nxStep dl) s).best = s.best ∨ ∃ x ∈ hl, x.1 = (hl.foldl (nxStep dl) s).best
  | [], s, h => .inl ⟨h, rfl⟩
  | x :: r, s, h => by
    rw [List.foldl_cons] at h ⊢
    have hst : nxStep dl s x = s ∨ nxStep dl s x = ⟨x.1, true, (aget dl x.1).getD 0, x.2.1⟩ := by
      unfold nxStep
      split
      · exact .inr rfl
      · exact .inl rfl
    rcases nx_mem h with ⟨h1, h2⟩ | ⟨y, hy, e⟩
    · rcases hst with e | e
      · rw [e] at h1 h2 ⊢
        exact .inl ⟨h1, h2⟩
      · rw [e] at h1 h2 ⊢
        exact .inr ⟨x, List.mem_cons_self, h2.symm⟩
    · exact .inr ⟨y, List.mem_cons_of_mem _ hy, e⟩

theorem nx_in {dl : List (Int × Int)} {hl : List (Int × (Int × Bool))} (h : (nx dl hl).ok = true) : ∃ x ∈ hl, x.1 = (nx dl hl).best := by
  rcases nx_mem h with ⟨h1, _⟩ | h
  · cases h1
  · exact h

section
variable {w w' : World} {p bh bd : Nat} {n k : Int} {hl : List (Int × (Int × Bool))} {dl : List (Int × Int)} {R : Ending → World → Prop} {f u : Int} {d : Bool}

set_option maxRecDepth 100000 in
theorem put_nil (hR : R (.returned (.tuple #[.int .u32 0, .int .i64 1])) w) : Calls Try.prog 12 #[.pointer none, .int .u32 f] w R := by
  go_enter Try.func12, Try.ntmps12
  go_wp2
  exact hR

set_option maxRecDepth 100000 in
theorem put_zero (hR : R (.returned (.tuple #[.int .u32 0, .int .i64 2])) w) : Calls Try.prog 12 #[.pointer (some ⟨p, 0, none⟩), .int .u32 0] w R := by
  go_enter Try.func12, Try.ntmps12
  go_wp2
  exact hR

set_option maxHeartbeats 4000000 in
set_option maxRecDepth 100000 in
theorem put_has (C : CacheAt w p n k hl dl bh bd) (hk0 : 0 ≤ k) (hk1 : k < 4611686018427387904) (hlen : hl.length ≤ 12) (hf : f ≠ 0) (hwf : (Lit.int .u32 f).wf = true) (hg : aget hl f = some (u, d))
    (hR : ∀ w', CacheAt w' p n (k + 1) (aput hl f (k + 1, d)) dl bh bd → Fr (CacheS p bh bd) w w' → R (.returned (.tuple #[.int .u32 0, .int .i64 0])) w') : Calls Try.prog 12 #[.pointer (some ⟨p, 0, none⟩), .int .u32 f] w R := by
  have HR := hid hR
  have HC := hid C
  have HH := hid (And.intro (And.intro hk0 hk1) (And.intro hwf hg))
  have HLL := hid hlen
  clear hR C hk0 hk1 hwf hg hlen
  go_enter Try.func12, Try.ntmps12
  go_wp2_with (go_at_call 26; refine touch_yes HC.out HH.out.1.1 HH.out.1.2 (Nat.lt_of_le_of_lt HLL.out (by decide)) HH.out.2.1 HH.out.2.2 ?_; intro w1 C1 hf1; have HC1 := hid C1; have HF1 := hid hf1; clear C1 hf1)
  exact HR.out _ HC1.out HF1.out

set_option maxHeartbeats 8000000 in
set_option maxRecDepth 100000 in
theorem put_room (C : CacheAt w p n k hl dl bh bd) (hk0 : 0 ≤ k) (hk1 : k < 4611686018427387904) (hlen : hl.length ≤ 12) (hn : (hl.length : Int) < n) (hf : f ≠ 0) (hwf : (Lit.int .u32 f).wf = true) (hg : aget hl f = none)
    (hR : ∀ w', CacheAt w' p n (k + 1) (aput (aput hl f (0, false)) f (k + 1, false)) dl bh bd → Fr (CacheS p bh bd) w w' → R (.returned (.tuple #[.int .u32 0, .int .i64 0])) w') : Calls Try.prog 12 #[.pointer (some ⟨p, 0, none⟩), .int .u32 f] w R := by
  have HR := hid hR
  have HC := hid C
  have HH := hid (And.intro (And.intro hk0 hk1) (And.intro hwf hg))
  have HLL := hid hlen
  have HLN := hid hn
  clear hR C hk0 hk1 hwf hg hlen hn
  go_enter Try.func12, Try.ntmps12
  go_wp2_with (go_at_call 26; refine touch_no HC.out HH.out.2.1 HH.out.2.2 ?_; intro w1 hf1; have C1 := hid (HC.out.no hf1); have F1 := hid hf1; clear hf1)
  refine region_held (n := 10) (fun V => V.cell? ⟨p, 2, none⟩ = some (.map (some bh)) ∧ V.cell? ⟨p, 0, none⟩ = some (.int .i64 n) ∧ MapAt Try.prog 27 .u32 encH V bh hl) follows (by kernel_rfl) ?_
  have HS : (fun V : World => V.cell? ⟨p, 2, none⟩ = some (.map (some bh)) ∧ V.cell? ⟨p, 0, none⟩ = some (.int .i64 n) ∧ MapAt Try.prog 27 .u32 encH V bh hl) w1.drew := ⟨cell_at C1.out.head rfl, cell_at C1.out.head rfl, C1.out.held.drew⟩
  (refine h_val 0 rfl (by kernel_rfl) (by kernel_rfl) (by kernel_rfl) (fun _ _ _ h => h) HS (by kernel_rfl) (fun W _ => run_move rfl rfl W) ?_; simp only [Act.put, Act.eval, Array.getD_eq_getD_getElem?, List.setIfInBounds_toArray, List.set_cons_succ, List.set_cons_zero, List.getElem?_toArray, List.getElem?_cons_succ, List.getElem?_cons_zero, Option.getD_some])
  (refine h_val 1 rfl (by kernel_rfl) (by kernel_rfl) (by kernel_rfl) (fun _ _ _ h => h) HS (by kernel_rfl) (fun W _ => run_nilCheck rfl rfl W) ?_; simp only [Act.put, Act.eval, Array.getD_eq_getD_getElem?, List.setIfInBounds_toArray, List.set_cons_succ, List.set_cons_zero, List.getElem?_toArray, List.getElem?_cons_succ, List.getElem?_cons_zero, Option.getD_some])
  (refine h_val 2 rfl (by kernel_rfl) (by kernel_rfl) (by kernel_rfl) (fun _ _ _ h => h) HS (by kernel_rfl) (fun W _ => run_field rfl rfl (fieldC2 p) W) ?_; simp only [Act.put, Act.eval, Array.getD_eq_getD_getElem?, List.setIfInBounds_toArray, List.set_cons_succ, List.set_cons_zero, List.getElem?_toArray, List.getElem?_cons_succ, List.getElem?_cons_zero, Option.getD_some])
  (refine h_val (v := .map (some bh)) 3 rfl (by kernel_rfl) (by kernel_rfl) (by kernel_rfl) (fun _ _ _ h => h) HS (by kernel_rfl) (fun W hW => run_loadv rfl rfl (var_cell heldU rfl hW.1)) ?_; simp only [Act.put, Act.eval, Array.getD_eq_getD_getElem?, List.setIfInBounds_toArray, List.set_cons_succ, List.set_cons_zero, List.getElem?_toArray, List.getElem?_cons_succ, List.getElem?_cons_zero, Option.getD_some])
  (refine h_val (v := .int .i64 (hl.length : Nat)) 4 rfl (by kernel_rfl) (by kernel_rfl) (by kernel_rfl) (fun _ _ _ h => h) HS (by kernel_rfl) (fun W hW => run_mlen rfl rfl heldU hW.2.2) ?_; simp only [Act.put, Act.eval, Array.getD_eq_getD_getElem?, List.setIfInBounds_toArray, List.set_cons_succ, List.set_cons_zero, List.getElem?_toArray, List.getElem?_cons_succ, List.getElem?_cons_zero, Option.getD_some])
  (refine h_val 5 rfl (by kernel_rfl) (by kernel_rfl) (by kernel_rfl) (fun _ _ _ h => h) HS (by kernel_rfl) (fun W _ => run_move rfl rfl W) ?_; simp only [Act.put, Act.eval, Array.getD_eq_getD_getElem?, List.setIfInBounds_toArray, List.set_cons_succ, List.set_cons_zero, List.getElem?_toArray, List.getElem?_cons_succ, List.getElem?_cons_zero, Option.getD_some])
  (refine h_val 6 rfl (by kernel_rfl) (by kernel_rfl) (by kernel_rfl) (fun _ _ _ h => h) HS (by kernel_rfl) (fun W _ => run_nilCheck rfl rfl W) ?_; simp only [Act.put, Act.eval, Array.getD_eq_getD_getElem?, List.setIfInBounds_toArray, List.set_cons_succ, List.set_cons_zero, List.getElem?_toArray, List.getElem?_cons_succ, List.getElem?_cons_zero, Option.getD_some])
  (refine h_val 7 rfl (by kernel_rfl) (by kernel_rfl) (by kernel_rfl) (fun _ _ _ h => h) HS (by kernel_rfl) (fun W _ => run_field rfl rfl (fieldC0 p) W) ?_; simp only [Act.put, Act.eval, Array.getD_eq_getD_getElem?, List.setIfInBounds_toArray, List.set_cons_succ, List.set_cons_zero, List.getElem?_toArray, List.getElem?_cons_succ, List.getElem?_cons_zero, Option.getD_some])
  (refine h_val (v := .int .i64 n) 8 rfl (by kernel_rfl) (by kernel_rfl) (by kernel_rfl) (fun _ _ _ h => h) HS (by kernel_rfl) (fun W hW => run_loadv rfl rfl (var_cell intU rfl hW.2.1)) ?_; simp only [Act.put, Act.eval, Array.getD_eq_getD_getElem?, List.setIfInBounds_toArray, List.set_cons_succ, List.set_cons_zero, List.getElem?_toArray, List.getElem?_cons_succ, List.getElem?_cons_zero, Option.getD_some])
  (refine h_val (v := .bool false) 9 rfl (by kernel_rfl) (by kernel_rfl) (by kernel_rfl) (fun _ _ _ h => h) HS (by kernel_rfl) (fun W _ => run_bin rfl rfl rfl (geqN HLN.out W)) ?_; simp only [Act.put, Act.eval, Array.getD_eq_getD_getElem?, List.setIfInBounds_toArray, List.set_cons_succ, List.set_cons_zero, List.getElem?_toArray, List.getElem?_cons_succ, List.getElem?_cons_zero, Option.getD_some])
  refine h_done (by kernel_rfl) ?_
  clear HS
  have c2 : w1.drew.cell? ⟨p, 2, none⟩ = some (.map (some bh)) := cell_at C1.out.head rfl
  have CD := hid (C1.out.no ((Fr.refl No w1).drew))
  go_wp2_with (first
    | (refine wpList_aput (d := ((0, false) : Int × Bool)) rfl rfl fidU heldU CD.out.held (Nat.lt_of_le_of_lt HLL.out (by decide)) rfl rfl HH.out.2.1 rfl ?_; intro w2 M F; have C2 : Hid (CacheAt w2 p n k (aput hl f (0, false)) dl bh bd) := ⟨F.keep CD.out.head HC.out.ne_ph, M, CD.out.dear.fr F (fun h => HC.out.ne h.symm), HC.out.ne⟩; have F2 : Hid (Fr (CacheS p bh bd) w w2) := (F1.out.any.drew).trans F (fun b hb => .inl (.inr (.inl hb))); clear M F)
    | (go_at_call 26; refine touch_yes C2.out HH.out.1.1 HH.out.1.2 (Nat.lt_of_le_of_lt (aput_length_le _ _ _) (Nat.lt_of_le_of_lt (Nat.succ_le_succ HLL.out) (by decide))) HH.out.2.1 (aget_put_same _ _ _) ?_; intro w3 C3 hf3; have HC3 := hid C3; have HF3 : Hid (Fr (CacheS p bh bd) w w3) := F2.out.trans hf3 (fun _ h => .inl h); clear C3 hf3))
  exact HR.out _ HC3.out HF3.out

set_option maxHeartbeats 8000000 in
set_option maxRecDepth 100000 in
theorem put_none (C : CacheAt w p n k hl dl bh bd) (hlen : hl.length ≤ 12) (hn : n ≤ (hl.length : Int)) (hf : f ≠ 0) (hwf : (Lit.int .u32 f).wf = true) (hg : aget hl f = none) (hok : (nx dl hl).ok = false)
    (hR : ∀ w', Fr No w w' → R (.returned (.tuple #[.int .u32 0, .int .i64 4])) w') : Calls Try.prog 12 #[.pointer (some ⟨p, 0, none⟩), .int .u32 f] w R := by
  have HR := hid hR
  have HC := hid C
  have HH := hid (And.intro hwf hg)
  have HLL := hid hlen
  have HLN := hid hn
  have HOK := hid hok
  clear hR C hwf hg hlen hn hok
  go_enter Try.func12, Try.ntmps12
  go_wp2_with (go_at_call 26; refine touch_no HC.out HH.out.1 HH.out.2 ?_; intro w1 hf1; have C1 := hid (HC.out.no hf1); have F1 := hid hf1; clear hf1)
  refine region_held (n := 10) (fun V => V.cell? ⟨p, 2, none⟩ = some (.map (some bh)) ∧ V.cell? ⟨p, 0, none⟩ = some (.int .i64 n) ∧ MapAt Try.prog 27 .u32 encH V bh hl) follows (by kernel_rfl) ?_
  have HS : (fun V : World => V.cell? ⟨p, 2, none⟩ = some (.map (some bh)) ∧ V.cell? ⟨p, 0, none⟩ = some (.int .i64 n) ∧ MapAt Try.prog 27 .u32 encH V bh hl) w1.drew := ⟨cell_at C1.out.head rfl, cell_at C1.out.head rfl, C1.out.held.drew⟩
  (refine h_val 0 rfl (by kernel_rfl) (by kernel_rfl) (by kernel_rfl) (fun _ _ _ h => h) HS (by kernel_rfl) (fun W _ => run_move rfl rfl W) ?_; simp only [Act.put, Act.eval, Array.getD_eq_getD_getElem?, List.setIfInBounds_toArray, List.set_cons_succ, List.set_cons_zero, List.getElem?_toArray, List.getElem?_cons_succ, List.getElem?_cons_zero, Option.getD_some])
  (refine h_val 1 rfl (by kernel_rfl) (by kernel_rfl) (by kernel_rfl) (fun _ _ _ h => h) HS (by kernel_rfl) (fun W _ => run_nilCheck rfl rfl W) ?_; simp only [Act.put, Act.eval, Array.getD_eq_getD_getElem?, List.setIfInBounds_toArray, List.set_cons_succ, List.set_cons_zero, List.getElem?_toArray, List.getElem?_cons_succ, List.getElem?_cons_zero, Option.getD_some])
  (refine h_val 2 rfl (by kernel_rfl) (by kernel_rfl) (by kernel_rfl) (fun _ _ _ h => h) HS (by kernel_rfl) (fun W _ => run_field rfl rfl (fieldC2 p) W) ?_; simp only [Act.put, Act.eval, Array.getD_eq_getD_getElem?, List.setIfInBounds_toArray, List.set_cons_succ, List.set_cons_zero, List.getElem?_toArray, List.getElem?_cons_succ, List.getElem?_cons_zero, Option.getD_some])
  (refine h_val (v := .map (some bh)) 3 rfl (by kernel_rfl) (by kernel_rfl) (by kernel_rfl) (fun _ _ _ h => h) HS (by kernel_rfl) (fun W hW => run_loadv rfl rfl (var_cell heldU rfl hW.1)) ?_; simp only [Act.put, Act.eval, Array.getD_eq_getD_getElem?, List.setIfInBounds_toArray, List.set_cons_succ, List.set_cons_zero, List.getElem?_toArray, List.getElem?_cons_succ, List.getElem?_cons_zero, Option.getD_some])
  (refine h_val (v := .int .i64 (hl.length : Nat)) 4 rfl (by kernel_rfl) (by kernel_rfl) (by kernel_rfl) (fun _ _ _ h => h) HS (by kernel_rfl) (fun W hW => run_mlen rfl rfl heldU hW.2.2) ?_; simp only [Act.put, Act.eval, Array.getD_eq_getD_getElem?, List.setIfInBounds_toArray, List.set_cons_succ, List.set_cons_zero, List.getElem?_toArray, List.getElem?_cons_succ, List.getElem?_cons_zero, Option.getD_some])
  (refine h_val 5 rfl (by kernel_rfl) (by kernel_rfl) (by kernel_rfl) (fun _ _ _ h => h) HS (by kernel_rfl) (fun W _ => run_move rfl rfl W) ?_; simp only [Act.put, Act.eval, Array.getD_eq_getD_getElem?, List.setIfInBounds_toArray, List.set_cons_succ, List.set_cons_zero, List.getElem?_toArray, List.getElem?_cons_succ, List.getElem?_cons_zero, Option.getD_some])
  (refine h_val 6 rfl (by kernel_rfl) (by kernel_rfl) (by kernel_rfl) (fun _ _ _ h => h) HS (by kernel_rfl) (fun W _ => run_nilCheck rfl rfl W) ?_; simp only [Act.put, Act.eval, Array.getD_eq_getD_getElem?, List.setIfInBounds_toArray, List.set_cons_succ, List.set_cons_zero, List.getElem?_toArray, List.getElem?_cons_succ, List.getElem?_cons_zero, Option.getD_some])
  (refine h_val 7 rfl (by kernel_rfl) (by kernel_rfl) (by kernel_rfl) (fun _ _ _ h => h) HS (by kernel_rfl) (fun W _ => run_field rfl rfl (fieldC0 p) W) ?_; simp only [Act.put, Act.eval, Array.getD_eq_getD_getElem?, List.setIfInBounds_toArray, List.set_cons_succ, List.set_cons_zero, List.getElem?_toArray, List.getElem?_cons_succ, List.getElem?_cons_zero, Option.getD_some])
  (refine h_val (v := .int .i64 n) 8 rfl (by kernel_rfl) (by kernel_rfl) (by kernel_rfl) (fun _ _ _ h => h) HS (by kernel_rfl) (fun W hW => run_loadv rfl rfl (var_cell intU rfl hW.2.1)) ?_; simp only [Act.put, Act.eval, Array.getD_eq_getD_getElem?, List.setIfInBounds_toArray, List.set_cons_succ, List.set_cons_zero, List.getElem?_toArray, List.getElem?_cons_succ, List.getElem?_cons_zero, Option.getD_some])
  (refine h_val (v := .bool true) 9 rfl (by kernel_rfl) (by kernel_rfl) (by kernel_rfl) (fun _ _ _ h => h) HS (by kernel_rfl) (fun W _ => run_bin rfl rfl rfl (geqI HLN.out W)) ?_; simp only [Act.put, Act.eval, Array.getD_eq_getD_getElem?, List.setIfInBounds_toArray, List.set_cons_succ, List.set_cons_zero, List.getElem?_toArray, List.getElem?_cons_succ, List.getElem?_cons_zero, Option.getD_some])
  refine h_done (by kernel_rfl) ?_
  clear HS
  have CD := hid (C1.out.no ((Fr.refl No w1).drew))
  go_wp2_with (go_at_call 16; refine next_ok HLL.out CD.out ?_; rw [HOK.out]; intro w2 hf2; have F2 : Hid (Fr No w w2) := (F1.out.drew).no hf2; clear hf2)
  exact HR.out _ F2.out

set_option maxHeartbeats 8000000 in
set_option maxRecDepth 100000 in
theorem put_out (C : CacheAt w p n k hl dl bh bd) (hk0 : 0 ≤ k) (hk1 : k < 4611686018427387904) (hlen : hl.length ≤ 12) (hn : n ≤ (hl.length : Int)) (hf : f ≠ 0) (hwf : (Lit.int .u32 f).wf = true) (hg : aget hl f = none) (hok : (nx dl hl).ok = true)
    (hR : ∀ w', CacheAt w' p n (k + 1) (aput (aput (adel hl (nx dl hl).best) f (0, false)) f (k + 1, false)) dl bh bd → Fr (CacheS p bh bd) w w' → R (.returned (.tuple #[.int .u32 (nx dl hl).best, .int .i64 0])) w') : Calls Try.prog 12 #[.pointer (some ⟨p, 0, none⟩), .int .u32 f] w R := by
  have HR := hid hR
  have HC := hid C
  have HH := hid (And.intro (And.intro hk0 hk1) (And.intro hwf hg))
  have HLL := hid hlen
  have HLN := hid hn
  have HOK := hid hok
  obtain ⟨b, hb⟩ : ∃ b, (nx dl hl).best = b := ⟨_, rfl⟩
  have HBW : Hid ((Lit.int .u32 b).wf = true) := by
    obtain ⟨x, hx, e⟩ := nx_in hok
    rw [← hb, ← e]
    exact C.held.wf x hx
  rw [hb] at HR
  have HB := hid hb
  have HDL : Hid ((adel hl b).length ≤ 12) := Nat.le_trans (by unfold adel; exact List.length_filter_le _ _) hlen
  clear hR C hk0 hk1 hwf hg hlen hn hok hb
  go_enter Try.func12, Try.ntmps12
  go_wp2_with (go_at_call 26; refine touch_no HC.out HH.out.2.1 HH.out.2.2 ?_; intro w1 hf1; have C1 := hid (HC.out.no hf1); have F1 := hid hf1; clear hf1)
  refine region_held (n := 10) (fun V => V.cell? ⟨p, 2, none⟩ = some (.map (some bh)) ∧ V.cell? ⟨p, 0, none⟩ = some (.int .i64 n) ∧ MapAt Try.prog 27 .u32 encH V bh hl) follows (by kernel_rfl) ?_
  have HS : (fun V : World => V.cell? ⟨p, 2, none⟩ = some (.map (some bh)) ∧ V.cell? ⟨p, 0, none⟩ = some (.int .i64 n) ∧ MapAt Try.prog 27 .u32 encH V bh hl) w1.drew := ⟨cell_at C1.out.head rfl, cell_at C1.out.head rfl, C1.out.held.drew⟩
  (refine h_val 0 rfl (by kernel_rfl) (by kernel_rfl) (by kernel_rfl) (fun _ _ _ h => h) HS (by kernel_rfl) (fun W _ => run_move rfl rfl W) ?_; simp only [Act.put, Act.eval, Array.getD_eq_getD_getElem?, List.setIfInBounds_toArray, List.set_cons_succ, List.set_cons_zero, List.getElem?_toArray, List.getElem?_cons_succ, List.getElem?_cons_zero, Option.getD_some])
  (refine h_val 1 rfl (by kernel_rfl) (by kernel_rfl) (by kernel_rfl) (fun _ _ _ h => h) HS (by kernel_rfl) (fun W _ => run_nilCheck rfl rfl W) ?_; simp only [Act.put, Act.eval, Array.getD_eq_getD_getElem?, List.setIfInBounds_toArray, List.set_cons_succ, List.set_cons_zero, List.getElem?_toArray, List.getElem?_cons_succ, List.getElem?_cons_zero, Option.getD_some])
  (refine h_val 2 rfl (by kernel_rfl) (by kernel_rfl) (by kernel_rfl) (fun _ _ _ h => h) HS (by kernel_rfl) (fun W _ => run_field rfl rfl (fieldC2 p) W) ?_; simp only [Act.put, Act.eval, Array.getD_eq_getD_getElem?, List.setIfInBounds_toArray, List.set_cons_succ, List.set_cons_zero, List.getElem?_toArray, List.getElem?_cons_succ, List.getElem?_cons_zero, Option.getD_some])
  (refine h_val (v := .map (some bh)) 3 rfl (by kernel_rfl) (by kernel_rfl) (by kernel_rfl) (fun _ _ _ h => h) HS (by kernel_rfl) (fun W hW => run_loadv rfl rfl (var_cell heldU rfl hW.1)) ?_; simp only [Act.put, Act.eval, Array.getD_eq_getD_getElem?, List.setIfInBounds_toArray, List.set_cons_succ, List.set_cons_zero, List.getElem?_toArray, List.getElem?_cons_succ, List.getElem?_cons_zero, Option.getD_some])
  (refine h_val (v := .int .i64 (hl.length : Nat)) 4 rfl (by kernel_rfl) (by kernel_rfl) (by kernel_rfl) (fun _ _ _ h => h) HS (by kernel_rfl) (fun W hW => run_mlen rfl rfl heldU hW.2.2) ?_; simp only [Act.put, Act.eval, Array.getD_eq_getD_getElem?, List.setIfInBounds_toArray, List.set_cons_succ, List.set_cons_zero, List.getElem?_toArray, List.getElem?_cons_succ, List.getElem?_cons_zero, Option.getD_some])
  (refine h_val 5 rfl (by kernel_rfl) (by kernel_rfl) (by kernel_rfl) (fun _ _ _ h => h) HS (by kernel_rfl) (fun W _ => run_move rfl rfl W) ?_; simp only [Act.put, Act.eval, Array.getD_eq_getD_getElem?, List.setIfInBounds_toArray, List.set_cons_succ, List.set_cons_zero, List.getElem?_toArray, List.getElem?_cons_succ, List.getElem?_cons_zero, Option.getD_some])
  (refine h_val 6 rfl (by kernel_rfl) (by kernel_rfl) (by kernel_rfl) (fun _ _ _ h => h) HS (by kernel_rfl) (fun W _ => run_nilCheck rfl rfl W) ?_; simp only [Act.put, Act.eval, Array.getD_eq_getD_getElem?, List.setIfInBounds_toArray, List.set_cons_succ, List.set_cons_zero, List.getElem?_toArray, List.getElem?_cons_succ, List.getElem?_cons_zero, Option.getD_some])
  (refine h_val 7 rfl (by kernel_rfl) (by kernel_rfl) (by kernel_rfl) (fun _ _ _ h => h) HS (by kernel_rfl) (fun W _ => run_field rfl rfl (fieldC0 p) W) ?_; simp only [Act.put, Act.eval, Array.getD_eq_getD_getElem?, List.setIfInBounds_toArray, List.set_cons_succ, List.set_cons_zero, List.getElem?_toArray, List.getElem?_cons_succ, List.getElem?_cons_zero, Option.getD_some])
  (refine h_val (v := .int .i64 n) 8 rfl (by kernel_rfl) (by kernel_rfl) (by kernel_rfl) (fun _ _ _ h => h) HS (by kernel_rfl) (fun W hW => run_loadv rfl rfl (var_cell intU rfl hW.2.1)) ?_; simp only [Act.put, Act.eval, Array.getD_eq_getD_getElem?, List.setIfInBounds_toArray, List.set_cons_succ, List.set_cons_zero, List.getElem?_toArray, List.getElem?_cons_succ, List.getElem?_cons_zero, Option.getD_some])
  (refine h_val (v := .bool true) 9 rfl (by kernel_rfl) (by kernel_rfl) (by kernel_rfl) (fun _ _ _ h => h) HS (by kernel_rfl) (fun W _ => run_bin rfl rfl rfl (geqI HLN.out W)) ?_; simp only [Act.put, Act.eval, Array.getD_eq_getD_getElem?, List.setIfInBounds_toArray, List.set_cons_succ, List.set_cons_zero, List.getElem?_toArray, List.getElem?_cons_succ, List.getElem?_cons_zero, Option.getD_some])
  refine h_done (by kernel_rfl) ?_
  clear HS
  have CD := hid (C1.out.no ((Fr.refl No w1).drew))
  go_wp2_with (first
    | (go_at_call 16; refine next_ok HLL.out CD.out ?_; rw [HOK.out, HB.out]; intro w2 hf2; have F2 : Hid (Fr No w w2) := (F1.out.drew).no hf2; have C2 := hid (CD.out.no hf2); have c2 : w2.cell? ⟨p, 2, none⟩ = some (.map (some bh)) := cell_at (CD.out.no hf2).head rfl; clear hf2)
    | (refine wpList_adel rfl rfl fidU heldU C2.out.held rfl rfl HBW.out ?_; intro w3 M F; have C3 : Hid (CacheAt w3 p n k (adel hl b) dl bh bd) := ⟨F.keep C2.out.head HC.out.ne_ph, M, C2.out.dear.fr F (fun h => HC.out.ne h.symm), HC.out.ne⟩; have F3 : Hid (Fr (CacheS p bh bd) w w3) := (F2.out.any).trans F (fun b hb => .inl (.inr (.inl hb))); clear M F c2; have c3 : w3.cell? ⟨p, 2, none⟩ = some (.map (some bh)) := cell_at C3.out.head rfl)
    | (refine wpList_aput (d := ((0, false) : Int × Bool)) rfl rfl fidU heldU C3.out.held (Nat.lt_of_le_of_lt HDL.out (by decide)) rfl rfl HH.out.2.1 rfl ?_; intro w4 M F; have C4 : Hid (CacheAt w4 p n k (aput (adel hl b) f (0, false)) dl bh bd) := ⟨F.keep C3.out.head HC.out.ne_ph, M, C3.out.dear.fr F (fun h => HC.out.ne h.symm), HC.out.ne⟩; have F4 : Hid (Fr (CacheS p bh bd) w w4) := F3.out.trans F (fun b hb => .inl (.inr (.inl hb))); clear M F c3)
    | (go_at_call 26; refine touch_yes C4.out HH.out.1.1 HH.out.1.2 (Nat.lt_of_le_of_lt (aput_length_le _ _ _) (Nat.lt_of_le_of_lt (Nat.succ_le_succ HDL.out) (by decide))) HH.out.2.1 (aget_put_same _ _ _) ?_; intro w5 C5 hf5; have HC5 := hid C5; have HF5 : Hid (Fr (CacheS p bh bd) w w5) := F4.out.trans hf5 (fun _ h => .inl h); clear C5 hf5))
  exact HR.out _ HC5.out HF5.out
end

end Go.Proofs.Ytokhbjllgaaogaa
