/- The cache's Drop and Hoard. No condition beside that it lies there. -/
import Derived.Test.YtokhbjllgaaogaaCPut
namespace Go.Proofs.Ytokhbjllgaaogaa
set_option linter.unusedSimpArgs false
open Go.RowKit Go.Maps
attribute [local irreducible] wpQuiet wpAnyH

theorem wpList_okG {P : Program} {ops : Array Oper} {rest : List Oper} {o : Oper} {a : Act} {w w' : World} {Q : Exit → Act → World → Prop} {v : Value} (hw : Region.wanted o (yielded ops a.tmps) = true) (hrun : (execOp a.eval o).run P w = .ok (.value v) w')
    (h : wpList P ops Q rest (a.put o.dst v) w') : wpList P ops Q (o :: rest) a w :=
  wpList_step fun K hK => by
    rw [if_pos hw]
    unfold Oper.wp
    rw [hrun]
    exact hK _ _ h

section
variable {w w' : World} {p bh bd : Nat} {n k : Int} {hl : List (Int × (Int × Bool))} {dl : List (Int × Int)} {R : Ending → World → Prop} {f u y : Int} {d : Bool}

set_option maxHeartbeats 4000000 in
set_option maxRecDepth 100000 in
theorem drop_no (C : CacheAt w p n k hl dl bh bd) (hwf : (Lit.int .u32 f).wf = true) (hg : aget hl f = none) (hR : ∀ w', Fr No w w' → R (.returned (.int .i64 5)) w') : Calls Try.prog 20 #[.pointer (some ⟨p, 0, none⟩), .int .u32 f] w R := by
  have HR := hid hR
  clear hR
  go_enter Try.func20, Try.ntmps20
  go_wp2_with (first
    | (go_at_call 32; refine get_no C hwf hg ?_; intro w1 hf; have F1 := hid hf; clear hf)
    | (refine wpList_allocRow rfl rfl (zeroH _) ?_))
  exact HR.out _ (F1.out.alloc _)

set_option maxHeartbeats 4000000 in
set_option maxRecDepth 100000 in
theorem drop_dirty (C : CacheAt w p n k hl dl bh bd) (hwf : (Lit.int .u32 f).wf = true) (hg : aget hl f = some (u, true)) (hR : ∀ w', Fr No w w' → R (.returned (.int .i64 13)) w') : Calls Try.prog 20 #[.pointer (some ⟨p, 0, none⟩), .int .u32 f] w R := by
  have HR := hid hR
  clear hR
  go_enter Try.func20, Try.ntmps20
  go_wp2_with (first
    | (go_at_call 32; refine get_yes C hwf hg ?_; intro w1 hf; have F1 := hid hf; clear hf)
    | (refine wpList_allocRow rfl rfl (zeroH _) ?_))
  exact HR.out _ (F1.out.alloc _)

set_option maxHeartbeats 4000000 in
set_option maxRecDepth 100000 in
theorem drop_ok (C : CacheAt w p n k hl dl bh bd) (hwf : (Lit.int .u32 f).wf = true) (hg : aget hl f = some (u, false)) (hR : ∀ w', CacheAt w' p n k (adel hl f) dl bh bd → Fr (CacheS p bh bd) w w' → R (.returned (.int .i64 0)) w') :
    Calls Try.prog 20 #[.pointer (some ⟨p, 0, none⟩), .int .u32 f] w R := by
  have HR := hid hR
  have HC := hid C
  have HW := hid hwf
  have HG := hid hg
  clear hR C hwf hg
  go_enter Try.func20, Try.ntmps20
  go_wp2_with (first
    | (go_at_call 32; refine get_yes HC.out HW.out HG.out ?_; intro w1 hf; have F1 := hid hf; have C2 : Hid (CacheAt (w1.alloc (.cells #[.int .i64 u, .bool false] 60)) p n k hl dl bh bd) := HC.out.no (hf.alloc _); have c2 : (w1.alloc (.cells #[.int .i64 u, .bool false] 60)).cell? ⟨p, 2, none⟩ = some (.map (some bh)) := cell_at (HC.out.no (hf.alloc _)).head rfl; clear hf)
    | (refine wpList_allocRow rfl rfl (zeroH _) ?_)
    | (refine wpList_adel rfl rfl fidU heldU C2.out.held rfl rfl HW.out ?_; intro w3 M F; have C3 : Hid (CacheAt w3 p n k (adel hl f) dl bh bd) := ⟨F.keep C2.out.head HC.out.ne_ph, M, C2.out.dear.fr F (fun h => HC.out.ne h.symm), HC.out.ne⟩; have F3 : Hid (Fr (CacheS p bh bd) w w3) := ((F1.out.alloc _).any).trans F (fun b hb => .inl (.inr (.inl hb))); clear M F c2))
  exact HR.out _ C3.out F3.out

/-! ### Hoard -/

set_option maxRecDepth 100000 in
theorem hoard_bad (h : f = 0 ∨ y < 0 ∨ 100 < y) (hR : R (.returned (.int .i64 2)) w) : Calls Try.prog 28 #[.pointer (some ⟨p, 0, none⟩), .int .u32 f, .int .i64 y] w R := by
  have HR := hid hR
  clear hR
  have hc : f = 0 ∨ (f ≠ 0 ∧ y < 0) ∨ (f ≠ 0 ∧ ¬ y < 0 ∧ 100 < y) := by omega
  rcases hc with rfl | ⟨h1, h2⟩ | ⟨h1, h2, h3⟩
  all_goals
    clear h
    go_enter Try.func28, Try.ntmps28
    go_wp2
    exact HR.out

set_option maxHeartbeats 4000000 in
set_option maxRecDepth 100000 in
theorem hoard_zero (C : CacheAt w p n k hl dl bh bd) (hf : f ≠ 0) (hwf : (Lit.int .u32 f).wf = true) (hR : ∀ w', CacheAt w' p n k hl (adel dl f) bh bd → Fr (CacheS p bh bd) w w' → R (.returned (.int .i64 0)) w') :
    Calls Try.prog 28 #[.pointer (some ⟨p, 0, none⟩), .int .u32 f, .int .i64 0] w R := by
  have HR := hid hR
  have HC := hid C
  have HW := hid hwf
  have c3 : w.cell? ⟨p, 3, none⟩ = some (.map (some bd)) := cell_at C.head rfl
  clear hR C hwf
  go_enter Try.func28, Try.ntmps28
  go_wp2_with (refine wpList_adel rfl rfl fidU dearU HC.out.dear rfl rfl HW.out ?_; intro w3 M F; have C3 : Hid (CacheAt w3 p n k hl (adel dl f) bh bd) := ⟨F.keep HC.out.head HC.out.ne_pd, HC.out.held.fr F HC.out.ne, M, HC.out.ne⟩; have F3 : Hid (Fr (CacheS p bh bd) w w3) := F.mono (fun b hb => .inr (.inr hb)); clear M F c3)
  exact HR.out _ C3.out F3.out

theorem eqlI {a b : Int} (W : World) : (binOp .eql 3 (.int .i64 a) (.int .i64 b)).run Try.prog W = .ok (.bool (a == b)) W := by kernel_rfl

set_option maxHeartbeats 4000000 in
set_option maxRecDepth 100000 in
theorem hoard_full (C : CacheAt w p n k hl dl bh bd) (hf : f ≠ 0) (h0 : 0 < y) (h1 : y ≤ 100) (hwf : (Lit.int .u32 f).wf = true) (hg : (aget dl f).getD 0 = 0) (hlen : 8 ≤ (dl.length : Int)) (hR : R (.returned (.int .i64 4)) w) :
    Calls Try.prog 28 #[.pointer (some ⟨p, 0, none⟩), .int .u32 f, .int .i64 y] w R := by
  have HR := hid hR
  have HC := hid C
  have HW := hid hwf
  have HG := hid hg
  have HL := hid hlen
  have c3 : w.cell? ⟨p, 3, none⟩ = some (.map (some bd)) := cell_at C.head rfl
  have h2 : ¬ y < 0 := by omega
  have h3 : ¬ 100 < y := by omega
  have h4 : ¬ y = 0 := by omega
  clear hR C hwf hg
  go_enter Try.func28, Try.ntmps28
  go_wp2_with (first
    | (refine wpList_ok rfl (run_look_op (v := .int .i64 0) rfl rfl rfl ((run_look HC.out.dear fidU dearU (zeroI _) HW.out).trans (by rw [HG.out]))) ?_)
    | (refine wpList_okG (by kernel_rfl) (run_mlen rfl rfl dearU HC.out.dear) ?_))
  exact HR.out

set_option maxHeartbeats 4000000 in
set_option maxRecDepth 100000 in
theorem hoard_put (C : CacheAt w p n k hl dl bh bd) (hf : f ≠ 0) (h0 : 0 < y) (h1 : y ≤ 100) (hwf : (Lit.int .u32 f).wf = true) (hlen : dl.length ≤ 8) (hg : (aget dl f).getD 0 ≠ 0 ∨ (dl.length : Int) < 8)
    (hR : ∀ w', CacheAt w' p n k hl (aput dl f y) bh bd → Fr (CacheS p bh bd) w w' → R (.returned (.int .i64 0)) w') :
    Calls Try.prog 28 #[.pointer (some ⟨p, 0, none⟩), .int .u32 f, .int .i64 y] w R := by
  have HR := hid hR
  have HC := hid C
  have HW := hid hwf
  have HL := hid hlen
  have c3 : w.cell? ⟨p, 3, none⟩ = some (.map (some bd)) := cell_at C.head rfl
  have h2 : ¬ y < 0 := by omega
  have h3 : ¬ 100 < y := by omega
  have h4 : ¬ y = 0 := by omega
  obtain ⟨z, hz⟩ : ∃ z, (aget dl f).getD 0 = z := ⟨_, rfl⟩
  have HZ := hid hz
  rw [hz] at hg
  clear hR C hwf hz hlen
  by_cases hz0 : z = 0
  · subst hz0
    have h8 : (dl.length : Int) < 8 := by rcases hg with h | h; · exact absurd rfl h
                                          · exact h
    clear hg
    go_enter Try.func28, Try.ntmps28
    go_wp2_with (first
      | (refine wpList_ok rfl (run_look_op (v := .int .i64 0) rfl rfl rfl ((run_look HC.out.dear fidU dearU (zeroI _) HW.out).trans (by rw [HZ.out]))) ?_)
      | (refine wpList_okG (by kernel_rfl) (run_mlen rfl rfl dearU HC.out.dear) ?_)
      | (refine wpList_aput (d := y) rfl rfl fidU dearU HC.out.dear (Nat.lt_of_le_of_lt HL.out (by decide)) rfl rfl HW.out rfl ?_; intro w3 M F; have C3 : Hid (CacheAt w3 p n k hl (aput dl f y) bh bd) := ⟨F.keep HC.out.head HC.out.ne_pd, HC.out.held.fr F HC.out.ne, M, HC.out.ne⟩; have F3 : Hid (Fr (CacheS p bh bd) w w3) := F.mono (fun b hb => .inr (.inr hb)); clear M F c3))
    exact HR.out _ C3.out F3.out
  · clear hg
    go_enter Try.func28, Try.ntmps28
    go_wp2_with (first
      | (refine wpList_ok rfl (run_look_op (v := .int .i64 z) rfl rfl rfl ((run_look HC.out.dear fidU dearU (zeroI _) HW.out).trans (by rw [HZ.out]))) ?_)
      | (refine wpList_aput (d := y) rfl rfl fidU dearU HC.out.dear (Nat.lt_of_le_of_lt HL.out (by decide)) rfl rfl HW.out rfl ?_; intro w3 M F; have C3 : Hid (CacheAt w3 p n k hl (aput dl f y) bh bd) := ⟨F.keep HC.out.head HC.out.ne_pd, HC.out.held.fr F HC.out.ne, M, HC.out.ne⟩; have F3 : Hid (Fr (CacheS p bh bd) w w3) := F.mono (fun b hb => .inr (.inr hb)); clear M F c3))
    exact HR.out _ C3.out F3.out
end

end Go.Proofs.Ytokhbjllgaaogaa
