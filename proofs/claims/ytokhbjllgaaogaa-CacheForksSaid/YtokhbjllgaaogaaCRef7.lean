/- The reference's cache: insert, List, Same. No condition beside that it lies there. -/
import Derived.Test.YtokhbjllgaaogaaCWalk2
namespace Go.Proofs.Ytokhbjllgaaogaa
set_option linter.unusedSimpArgs false
open Go.RowKit Go.Maps
attribute [local irreducible] wpQuiet wpAnyH

/-- A fid put into a rising list. -/
def ins (f : Int) : List Int → List Int
  | [] => [f]
  | y :: r => if f < y then f :: y :: r else y :: ins f r

theorem ins_len (f : Int) : ∀ l : List Int, (ins f l).length = l.length + 1
  | [] => rfl
  | y :: r => by unfold ins; split <;> simp [ins_len f r]
theorem ins_perm (f : Int) : ∀ l : List Int, (ins f l).Perm (f :: l)
  | [] => List.Perm.refl _
  | y :: r => by
    unfold ins
    split
    · exact List.Perm.refl _
    · exact ((ins_perm f r).cons y).trans (List.Perm.swap f y r)
theorem ins_sorted (f : Int) : ∀ l : List Int, l.Pairwise (· ≤ ·) → (ins f l).Pairwise (· ≤ ·)
  | [], _ => by simp [ins]
  | y :: r, h => by
    have h' := List.pairwise_cons.1 h
    unfold ins
    split
    · rename_i hlt
      refine List.pairwise_cons.2 ⟨fun z hz => ?_, h⟩
      rcases List.mem_cons.1 hz with rfl | hz
      · omega
      · have := h'.1 z hz; omega
    · rename_i hge
      refine List.pairwise_cons.2 ⟨fun z hz => ?_, ins_sorted f r h'.2⟩
      rcases List.mem_cons.1 ((ins_perm f r).subset hz) with rfl | hz
      · omega
      · exact h'.1 z hz
theorem ins_all {f : Int} : ∀ {l : List Int}, (∀ z ∈ l, ¬ f < z) → ins f l = l ++ [f]
  | [], _ => rfl
  | y :: r, h => by
    unfold ins
    rw [if_neg (h y List.mem_cons_self), ins_all (fun z hz => h z (List.mem_cons_of_mem _ hz))]
    rfl
theorem ins_at {f y : Int} (hy : f < y) : ∀ {l : List Int}, (∀ z ∈ l, ¬ f < z) → ins f (l ++ [y]) = l ++ [f] ++ [y]
  | [], _ => by simp [ins, hy]
  | x :: r, h => by
    rw [List.cons_append]
    unfold ins
    rw [if_neg (h x List.mem_cons_self), ins_at hy (fun z hz => h z (List.mem_cons_of_mem _ hz))]
    rfl
theorem ins_past {f y : Int} : ∀ {l : List Int}, (∃ z ∈ l, f < z) → ins f (l ++ [y]) = ins f l ++ [y]
  | [], h => by obtain ⟨z, hz, _⟩ := h; cases hz
  | x :: r, h => by
    rw [List.cons_append]
    unfold ins
    by_cases hx : f < x
    · rw [if_pos hx, if_pos hx]; rfl
    · rw [if_neg hx, if_neg hx, ins_past (by
        obtain ⟨z, hz, hf⟩ := h
        rcases List.mem_cons.1 hz with rfl | hz
        · exact absurd hf hx
        · exact ⟨z, hz, hf⟩)]
      rfl

theorem fidT : ElemT Try.prog 25 27 1 4 := ⟨fidsU, by kernel_rfl⟩
theorem one_u (y : Int) : Hid (∀ u ∈ (Value.int .u32 y).cells.toList, u.oneCell' = true) := fun u hu => by simp [Value.cells] at hu; subst hu; rfl
theorem take_snocL {xs : List Int} {k : Nat} {y : Int} (h : xs[k]? = some y) : xs.take (k + 1) = xs.take k ++ [y] := by rw [List.take_add_one, h]; rfl

section
variable {w : World} {v : Value} {xs : List Int} {f : Int} {R : Ending → World → Prop}

/-- What insert holds behind some rounds. -/
def InsP (f : Int) (l : List Int) (pl : Bool) (out : List Int) : Prop := (pl = true ∧ (∃ z ∈ l, f < z) ∧ out = ins f l) ∨ (pl = false ∧ (∀ z ∈ l, ¬ f < z) ∧ out = l)
theorem InsP.past {l out : List Int} {y : Int} (h : InsP f l true out) : InsP f (l ++ [y]) true (out ++ [y]) := by
  rcases h with ⟨_, h1, rfl⟩ | ⟨h, _⟩
  · obtain ⟨z, hz, hf⟩ := h1
    exact .inl ⟨rfl, ⟨z, List.mem_append_left _ hz, hf⟩, (ins_past ⟨z, hz, hf⟩).symm⟩
  · cases h
theorem InsP.at {l out : List Int} {y : Int} (h : InsP f l false out) (hy : f < y) : InsP f (l ++ [y]) true (out ++ [f] ++ [y]) := by
  rcases h with ⟨h, _⟩ | ⟨_, h1, rfl⟩
  · cases h
  · exact .inl ⟨rfl, ⟨y, by simp, hy⟩, (ins_at hy h1).symm⟩
theorem InsP.on {l out : List Int} {y : Int} (h : InsP f l false out) (hy : ¬ f < y) : InsP f (l ++ [y]) false (out ++ [y]) := by
  rcases h with ⟨h, _⟩ | ⟨_, h1, rfl⟩
  · cases h
  · refine .inr ⟨rfl, fun z hz => ?_, rfl⟩
    rcases List.mem_append.1 hz with hz | hz
    · exact h1 z hz
    · simp at hz; subst hz; exact hy
theorem InsP.len {l out : List Int} {pl : Bool} (h : InsP f l pl out) : out.length ≤ l.length + 1 := by
  rcases h with ⟨_, _, rfl⟩ | ⟨_, _, rfl⟩
  · rw [ins_len]; exact Nat.le_refl _
  · omega

set_option maxHeartbeats 4000000 in
set_option maxRecDepth 100000 in
theorem insert_ok (H : Reads w v xs) (hlen : xs.length < 1000) (hR : ∀ v' w', w'.ownsRow w.heap.size 27 1 v' (ins f xs).length ((ins f xs).map encU) → Fr No w w' → R (.returned v') w') :
    Calls Try.prog 67 #[v, .int .u32 f] w R := by
  have HR := hid hR
  obtain ⟨_, va, vc, rfl, hrow⟩ := H
  have HROW := hid hrow
  have HT := hid fidT
  have oneF := one_u f
  clear hR hrow
  go_enter Try.func67, Try.ntmps67
  go_wp2
  go_loopw [5, 6, 7] (fun t5 t6 t7 wr => ∃ (k : Nat) (pl : Bool) (out : List Int), k ≤ xs.length ∧ t7 = .int .i64 (k : Nat) ∧ t6 = .bool pl ∧ Hid (InsP f (xs.take k) pl out) ∧ Hid (wr.ownsRow w.heap.size 27 1 t5 out.length (out.map encU)) ∧ Hid (Fr No w wr)) (fun _ _ t7 _ => xs.length - (intOf t7).toNat)
  case atStart => exact ⟨0, false, [], Nat.zero_le _, rfl, rfl, .inr ⟨rfl, by simp, by simp⟩, World.ownsRow_nil _ _ _ _, Fr.refl _ _⟩
  case round =>
    obtain ⟨k, pl, out, hk, rfl, rfl, hp, ho, hf⟩ := hrel
    rename World => wr
    have HP := hid hp.out
    have HO := hid ho.out
    have HF := hid hf.out
    clear hp ho hf
    have hol : out.length ≤ k + 1 := by have := HP.out.len; rw [List.length_take] at this; omega
    by_cases hlt : k < xs.length
    · obtain ⟨y, hy⟩ : ∃ y, xs[k]? = some y := ⟨xs[k], List.getElem?_eq_getElem hlt⟩
      rcases HROW.out with hz | ⟨gb, off, rfl, _, hgl, hcells⟩
      · omega
      have q1 : wr.cell? ⟨gb, off + k, none⟩ = some (.int .u32 y) := (HF.out.cell hgl (fun h => h)).trans (hcells k _ (by rw [List.getElem?_map, hy]; rfl))
      have Q1 := hid q1
      have HGB := hid hgl
      have HTK := hid (take_snocL hy)
      have oneY := one_u y
      have hk1 : (k : Int) < xs.length := by omega
      clear hy hcells hgl
      cases pl with
      | true =>
        go_wp2_with (refine wpList_push _ _ 1 4 HT (by decide) (by decide) rfl _ rfl _ rfl rfl _ rfl _ rfl (show (Value.int .u32 y).cells.size = 1 from rfl) oneY _ (fun _ => rfl) (fun _ => rfl) w w.heap.size (hid rfl) HF out.length _ HO (by simp only [maxLen]; omega) (by omega) ?_; intro v5 w5 ho5 hf5 hn5; have H5 := hid ho5.out; have F5 := hid hf5.out; clear ho5 hf5 hn5)
        go_roundw
        case rel => exact ⟨k + 1, true, out ++ [y], by omega, by go_num, rfl, by rw [HTK.out]; exact HP.out.past, by show Hid _; rw [List.length_append, List.map_append]; exact H5, F5⟩
        case measure => simp [intOf]; omega
      | false =>
        by_cases hfy : f < y
        · have HFY := hid hfy
          go_wp2_with (first
            | (refine wpList_push _ _ 1 4 HT (by decide) (by decide) rfl _ rfl _ rfl rfl _ rfl _ rfl (show (Value.int .u32 f).cells.size = 1 from rfl) oneF _ (fun _ => rfl) (fun _ => rfl) w w.heap.size (hid rfl) HF out.length _ HO (by simp only [maxLen]; omega) (by omega) ?_; intro v5 w5 ho5 hf5 hn5; have H5 := hid ho5.out; have F5 := hid hf5.out; clear ho5 hf5 hn5; have q2 : w5.cell? ⟨gb, off + k, none⟩ = some (.int .u32 y) := (F5.out.cell HGB.out (fun h => h)).trans (((HF.out.cell HGB.out (fun h => h)).symm.trans Q1.out)))
            | (refine wpList_push _ _ 1 4 HT (by decide) (by decide) rfl _ rfl _ rfl rfl _ rfl _ rfl (show (Value.int .u32 y).cells.size = 1 from rfl) oneY _ (fun _ => rfl) (fun _ => rfl) w w.heap.size (hid rfl) F5 (out.length + 1) _ H5 (by simp only [maxLen]; omega) (by omega) ?_; intro v6 w6 ho6 hf6 hn6; have H6 := hid ho6.out; have F6 := hid hf6.out; clear ho6 hf6 hn6))
          go_roundw
          case rel => exact ⟨k + 1, true, out ++ [f] ++ [y], by omega, by go_num, rfl, by rw [HTK.out]; exact HP.out.at HFY.out, by show Hid _; rw [List.length_append, List.length_append, List.map_append, List.map_append]; exact H6, F6⟩
          case measure => simp [intOf]; omega
        · have HFY := hid hfy
          go_wp2_with (refine wpList_push _ _ 1 4 HT (by decide) (by decide) rfl _ rfl _ rfl rfl _ rfl _ rfl (show (Value.int .u32 y).cells.size = 1 from rfl) oneY _ (fun _ => rfl) (fun _ => rfl) w w.heap.size (hid rfl) HF out.length _ HO (by simp only [maxLen]; omega) (by omega) ?_; intro v5 w5 ho5 hf5 hn5; have H5 := hid ho5.out; have F5 := hid hf5.out; clear ho5 hf5 hn5)
          go_roundw
          case rel => exact ⟨k + 1, false, out ++ [y], by omega, by go_num, rfl, by rw [HTK.out]; exact HP.out.on HFY.out, by show Hid _; rw [List.length_append, List.map_append]; exact H5, F5⟩
          case measure => simp [intOf]; omega
    · obtain rfl : k = xs.length := by omega
      rw [List.take_length] at HP
      cases pl with
      | true =>
        have e : out = ins f xs := by
          rcases HP.out with ⟨_, _, h⟩ | ⟨h, _⟩
          · exact h
          · cases h
        have HE := hid e
        clear e
        go_wp2
        refine HR.out _ _ ?_ HF.out
        rw [← HE.out]
        exact HO.out
      | false =>
        have e : ins f xs = out ++ [f] := by
          rcases HP.out with ⟨h, _⟩ | ⟨_, h1, h2⟩
          · cases h
          · rw [h2]; exact ins_all h1
        have HE := hid e
        clear e
        go_wp2_with (refine wpList_push _ _ 1 4 HT (by decide) (by decide) rfl _ rfl _ rfl rfl _ rfl _ rfl (show (Value.int .u32 f).cells.size = 1 from rfl) oneF _ (fun _ => rfl) (fun _ => rfl) w w.heap.size (hid rfl) HF out.length _ HO (by simp only [maxLen]; omega) (by omega) ?_; intro v5 w5 ho5 hf5 hn5; have H5 := hid ho5.out; have F5 := hid hf5.out; clear ho5 hf5 hn5)
        refine HR.out _ _ ?_ F5.out
        rw [HE.out, List.length_append, List.map_append]
        exact H5.out

theorem neqS {a : Int} (W : World) : (binOp .neq 27 (.int .u32 a) (.int .u32 a)).run Try.prog W = .ok (.bool false) W := by
  have h : (binOp .neq 27 (.int .u32 a) (.int .u32 a)).run Try.prog W = .ok (.bool (a != a)) W := by kernel_rfl
  rw [h]; simp

set_option maxHeartbeats 4000000 in
set_option maxRecDepth 100000 in
theorem sameF_ok {v2 : Value} (H : Reads w v xs) (H2 : Reads w v2 xs) (hlen : xs.length < 1000) (hR : ∀ w', Fr No w w' → R (.returned (.bool true)) w') : Calls Try.prog 47 #[v, v2] w R := by
  have HR := hid hR
  obtain ⟨_, va, c1, rfl, hrow⟩ := H
  obtain ⟨_, va2, c2, rfl, hrow2⟩ := H2
  have HROW := hid hrow
  have HROW2 := hid hrow2
  clear hR hrow hrow2
  go_enter Try.func47, Try.ntmps47
  go_wp2
  go_loopw [5] (fun t5 wr => ∃ k : Nat, k ≤ xs.length ∧ t5 = .int .i64 (k : Nat) ∧ Hid (Fr No w wr)) (fun t5 _ => xs.length - (intOf t5).toNat)
  case atStart => exact ⟨0, Nat.zero_le _, rfl, Fr.refl _ _⟩
  case round =>
    obtain ⟨k, hk, rfl, hf⟩ := hrel
    rename World => wr
    have HF := hid hf.out
    clear hf
    by_cases hlt : k < xs.length
    · obtain ⟨y, hy⟩ : ∃ y, xs[k]? = some y := ⟨xs[k], List.getElem?_eq_getElem hlt⟩
      rcases HROW.out with hz | ⟨g1, o1, rfl, _, hgl, hcells⟩
      · omega
      rcases HROW2.out with hz | ⟨g2, o2, rfl, _, hgl2, hcells2⟩
      · omega
      have Q1 : Hid (wr.cell? ⟨g1, o1 + k, none⟩ = some (.int .u32 y)) := (HF.out.cell hgl (fun h => h)).trans (hcells k _ (by rw [List.getElem?_map, hy]; rfl))
      have Q2 : Hid (wr.cell? ⟨g2, o2 + k, none⟩ = some (.int .u32 y)) := (HF.out.cell hgl2 (fun h => h)).trans (hcells2 k _ (by rw [List.getElem?_map, hy]; rfl))
      have HG1 : Hid (g1 < wr.heap.size) := Nat.lt_of_lt_of_le hgl HF.out.size
      have HG2 : Hid (g2 < wr.heap.size) := Nat.lt_of_lt_of_le hgl2 HF.out.size
      have HI0 : Hid ((0 : Int) ≤ (k : Nat)) := by show _ ≤ _; omega
      have HI1 : Hid (((k : Nat) : Int) < xs.length) := by show _ < _; omega
      clear hy hcells hcells2 hgl hgl2
      go_wp2
      refine region_held (n := 9) (Fr No wr) follows (by kernel_rfl) ?_
      have HS : (Fr No wr) wr.drew := (Fr.refl No wr).drew
      (refine h_val 0 rfl (by kernel_rfl) (by kernel_rfl) (by kernel_rfl) (fun _ _ _ h => h) HS (by kernel_rfl) (fun W _ => run_move rfl rfl W) ?_; simp only [Act.put, Act.eval, Array.getD_eq_getD_getElem?, List.setIfInBounds_toArray, List.set_cons_succ, List.set_cons_zero, List.getElem?_toArray, List.getElem?_cons_succ, List.getElem?_cons_zero, Option.getD_some])
      (refine h_val 1 rfl (by kernel_rfl) (by kernel_rfl) (by kernel_rfl) (fun _ _ _ h => h) HS (by kernel_rfl) (fun W _ => run_move rfl rfl W) ?_; simp only [Act.put, Act.eval, Array.getD_eq_getD_getElem?, List.setIfInBounds_toArray, List.set_cons_succ, List.set_cons_zero, List.getElem?_toArray, List.getElem?_cons_succ, List.getElem?_cons_zero, Option.getD_some])
      (refine h_val (v := .pointer (some ⟨g1, o1 + k, none⟩)) 2 rfl (by kernel_rfl) (by kernel_rfl) (by kernel_rfl) (fun _ _ _ h => h) HS (by kernel_rfl) (fun W _ => run_index rfl rfl rfl (fidsU) (fidS) (HI0.out) (HI1.out) (by simp) W) ?_; simp only [Act.put, Act.eval, Array.getD_eq_getD_getElem?, List.setIfInBounds_toArray, List.set_cons_succ, List.set_cons_zero, List.getElem?_toArray, List.getElem?_cons_succ, List.getElem?_cons_zero, Option.getD_some])
      (refine h_val (v := .int .u32 y) 3 rfl (by kernel_rfl) (by kernel_rfl) (by kernel_rfl) (fun _ _ _ h => h) HS (by kernel_rfl) (fun W hW => run_loadv rfl rfl (var_cell fidU rfl ((hW.cell HG1.out (fun h => h)).trans Q1.out))) ?_; simp only [Act.put, Act.eval, Array.getD_eq_getD_getElem?, List.setIfInBounds_toArray, List.set_cons_succ, List.set_cons_zero, List.getElem?_toArray, List.getElem?_cons_succ, List.getElem?_cons_zero, Option.getD_some])
      (refine h_val 4 rfl (by kernel_rfl) (by kernel_rfl) (by kernel_rfl) (fun _ _ _ h => h) HS (by kernel_rfl) (fun W _ => run_move rfl rfl W) ?_; simp only [Act.put, Act.eval, Array.getD_eq_getD_getElem?, List.setIfInBounds_toArray, List.set_cons_succ, List.set_cons_zero, List.getElem?_toArray, List.getElem?_cons_succ, List.getElem?_cons_zero, Option.getD_some])
      (refine h_val 5 rfl (by kernel_rfl) (by kernel_rfl) (by kernel_rfl) (fun _ _ _ h => h) HS (by kernel_rfl) (fun W _ => run_move rfl rfl W) ?_; simp only [Act.put, Act.eval, Array.getD_eq_getD_getElem?, List.setIfInBounds_toArray, List.set_cons_succ, List.set_cons_zero, List.getElem?_toArray, List.getElem?_cons_succ, List.getElem?_cons_zero, Option.getD_some])
      (refine h_val (v := .pointer (some ⟨g2, o2 + k, none⟩)) 6 rfl (by kernel_rfl) (by kernel_rfl) (by kernel_rfl) (fun _ _ _ h => h) HS (by kernel_rfl) (fun W _ => run_index rfl rfl rfl (fidsU) (fidS) (HI0.out) (HI1.out) (by simp) W) ?_; simp only [Act.put, Act.eval, Array.getD_eq_getD_getElem?, List.setIfInBounds_toArray, List.set_cons_succ, List.set_cons_zero, List.getElem?_toArray, List.getElem?_cons_succ, List.getElem?_cons_zero, Option.getD_some])
      (refine h_val (v := .int .u32 y) 7 rfl (by kernel_rfl) (by kernel_rfl) (by kernel_rfl) (fun _ _ _ h => h) HS (by kernel_rfl) (fun W hW => run_loadv rfl rfl (var_cell fidU rfl ((hW.cell HG2.out (fun h => h)).trans Q2.out))) ?_; simp only [Act.put, Act.eval, Array.getD_eq_getD_getElem?, List.setIfInBounds_toArray, List.set_cons_succ, List.set_cons_zero, List.getElem?_toArray, List.getElem?_cons_succ, List.getElem?_cons_zero, Option.getD_some])
      (refine h_val (v := .bool false) 8 rfl (by kernel_rfl) (by kernel_rfl) (by kernel_rfl) (fun _ _ _ h => h) HS (by kernel_rfl) (fun W _ => run_bin rfl rfl rfl (neqS W)) ?_; simp only [Act.put, Act.eval, Array.getD_eq_getD_getElem?, List.setIfInBounds_toArray, List.set_cons_succ, List.set_cons_zero, List.getElem?_toArray, List.getElem?_cons_succ, List.getElem?_cons_zero, Option.getD_some])
      refine h_done (by kernel_rfl) ?_
      go_wp2
      go_roundw
      case rel => exact ⟨k + 1, by omega, by go_num, HF.out.no HS⟩
      case measure => simp [intOf]; omega
    · go_wp2
      exact HR.out _ HF.out
end

/-- All put in, one by one. -/
def insAll (l : List Int) : List Int := l.foldl (fun acc f => ins f acc) []
theorem insAll_snoc (l : List Int) (y : Int) : insAll (l ++ [y]) = ins y (insAll l) := by simp [insAll]
theorem foldl_ins_len : ∀ (l acc : List Int), (l.foldl (fun acc f => ins f acc) acc).length = acc.length + l.length
  | [], acc => rfl
  | y :: r, acc => by rw [List.foldl_cons, foldl_ins_len r, ins_len, List.length_cons]; omega
theorem insAll_len (l : List Int) : (insAll l).length = l.length := by unfold insAll; rw [foldl_ins_len]; simp
theorem foldl_ins_perm : ∀ (l acc : List Int), (l.foldl (fun acc f => ins f acc) acc).Perm (l ++ acc)
  | [], acc => List.Perm.refl _
  | y :: r, acc => by
    rw [List.foldl_cons]
    refine (foldl_ins_perm r (ins y acc)).trans ?_
    exact ((ins_perm y acc).append_left r).trans List.perm_middle
theorem insAll_perm (l : List Int) : (insAll l).Perm l := by have := foldl_ins_perm l []; rw [List.append_nil] at this; exact this
theorem foldl_ins_sorted : ∀ (l acc : List Int), acc.Pairwise (· ≤ ·) → (l.foldl (fun acc f => ins f acc) acc).Pairwise (· ≤ ·)
  | [], acc, h => h
  | y :: r, acc, h => by rw [List.foldl_cons]; exact foldl_ins_sorted r _ (ins_sorted y acc h)
theorem insAll_sorted (l : List Int) : (insAll l).Pairwise (· ≤ ·) := foldl_ins_sorted l [] List.Pairwise.nil

section
variable {B : Nat} {w : World} {q : Nat} {m : Int} {l : List (Int × Bool)} {dh : List (Int × Int)} {vl vh : Value} {R : Ending → World → Prop}

theorem reads_own {w : World} {base : Nat} {v : Value} {ys : List Int} (h : w.ownsRow base 27 1 v ys.length (ys.map encU)) : Reads w v ys := RowsAt.of_owns (S := No) h (fun _ _ h => h)
theorem ritemU : (Try.prog.info? 97).map (·.size) = some 2 := by kernel_rfl

set_option maxHeartbeats 4000000 in
set_option maxRecDepth 100000 in
theorem rlist_ok (C : RefC B w q m l dh vl vh) (hlen : l.length < 900) (hR : ∀ w' v, Reads w' v (insAll (l.map (·.1))) → Fr No w w' → R (.returned v) w') :
    Calls Try.prog 48 #[.pointer (some ⟨q, 0, none⟩)] w R := by
  have HR := hid hR
  have HC := hid C
  obtain ⟨sa, cap, rfl⟩ := owns_shape C.items
  clear hR C
  go_enter Try.func48, Try.ntmps48
  go_wp2
  go_loopw [3, 4] (fun t3 t4 wr => ∃ k : Nat, k ≤ l.length ∧ t4 = .int .i64 (k : Nat) ∧ Hid (Reads wr t3 (insAll ((l.map (·.1)).take k))) ∧ Hid (Fr No w wr)) (fun _ t4 _ => l.length - (intOf t4).toNat)
  case atStart => exact ⟨0, Nat.zero_le _, rfl, reads_nil _ _ _, Fr.refl _ _⟩
  case round =>
    obtain ⟨k, hk, rfl, hr, hf⟩ := hrel
    rename World => wr
    have HRD := hid hr.out
    have HF := hid hf.out
    clear hr hf
    have C1 := HC.out.no HF.out
    have c1 : wr.cell? ⟨q, 1, none⟩ = some (.slice sa l.length cap) := cell_at C1.head rfl
    by_cases hlt : k < l.length
    · obtain ⟨x, hx⟩ : ∃ x, l[k]? = some x := ⟨l[k], List.getElem?_eq_getElem hlt⟩
      obtain ⟨g, cap', e, _, _, hcell, _⟩ := row_at C1.items hx
      simp only [Value.slice.injEq, true_and] at e
      obtain ⟨rfl, rfl⟩ := e
      have HTK : Hid ((l.map (·.1)).take (k + 1) = (l.map (·.1)).take k ++ [x.1]) := take_snocL (by rw [List.getElem?_map, hx]; rfl)
      have HLN : Hid ((insAll ((l.map (·.1)).take k)).length < 1000) := by show _ < _; rw [insAll_len, List.length_take, List.length_map]; omega
      clear hx C1
      go_wp2_with (go_at_call 67; refine insert_ok HRD.out HLN.out ?_; intro v2 w2 ho hf; have HO := hid (reads_own ho); have HF2 := hid (HF.out.no hf); clear ho hf)
      go_roundw
      case rel => exact ⟨k + 1, by omega, by go_num, by rw [HTK.out, insAll_snoc]; exact HO, HF2⟩
      case measure => simp [intOf]; omega
    · obtain rfl : k = l.length := by omega
      clear C1
      go_wp2
      refine HR.out _ _ ?_ HF.out
      have := HRD.out
      rw [List.take_of_length_le (by simp)] at this
      exact this
end

end Go.Proofs.Ytokhbjllgaaogaa
