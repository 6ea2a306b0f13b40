/- The reference's cache: Hoard. No condition beside that it lies there. -/
import Derived.Test.YtokhbjllgaaogaaCRef5
namespace Go.Proofs.Ytokhbjllgaaogaa
set_option linter.unusedSimpArgs false
open Go.RowKit Go.Maps
attribute [local irreducible] wpQuiet wpAnyH

/-- What Hoard puts out of what was. -/
def but (dh : List (Int × Int)) (f : Int) : List (Int × Int) := dh.filter fun x => !(x.1 == f)
theorem but_snoc_eq {dh : List (Int × Int)} {f : Int} {k : Nat} {x : Int × Int} (h : dh[k]? = some x) (hx : x.1 = f) : but (dh.take (k + 1)) f = but (dh.take k) f := by
  obtain ⟨hk, rfl⟩ := List.getElem?_eq_some_iff.1 h
  unfold but
  rw [List.take_succ_eq_append_getElem hk, List.filter_append]
  simp [hx]
theorem but_snoc_ne {dh : List (Int × Int)} {f : Int} {k : Nat} {x : Int × Int} (h : dh[k]? = some x) (hx : ¬ x.1 = f) : but (dh.take (k + 1)) f = but (dh.take k) f ++ [x] := by
  obtain ⟨hk, rfl⟩ := List.getElem?_eq_some_iff.1 h
  unfold but
  rw [List.take_succ_eq_append_getElem hk, List.filter_append]
  simp [hx]
theorem but_len (dh : List (Int × Int)) (f : Int) : (but dh f).length ≤ dh.length := List.length_filter_le _ _

section
variable {B : Nat} {w w' W : World} {q : Nat} {m : Int} {l l1 l2 : List (Int × Bool)} {dh d1 d2 : List (Int × Int)} {vl vh v : Value} {R : Ending → World → Prop} {f y n b : Int} {d x : Bool}

set_option maxRecDepth 100000 in
theorem rhoard_bad (h : f = 0 ∨ y < 0 ∨ 100 < y) (hR : R (.returned (.int .i64 2)) w) : Calls Try.prog 54 #[.pointer (some ⟨q, 0, none⟩), .int .u32 f, .int .i64 y] w R := by
  have HR := hid hR
  clear hR
  have hc : f = 0 ∨ (f ≠ 0 ∧ y < 0) ∨ (f ≠ 0 ∧ ¬ y < 0 ∧ 100 < y) := by omega
  rcases hc with rfl | ⟨h1, h2⟩ | ⟨h1, h2, h3⟩
  all_goals
    clear h
    go_enter Try.func54, Try.ntmps54
    go_wp2
    exact HR.out

set_option maxHeartbeats 1000000 in
set_option maxRecDepth 100000 in
theorem rhoard_full (C : RefC B w q m l dh vl vh) (hf : f ≠ 0) (h0 : 0 < y) (h1 : y ≤ 100) (hdl : dh.length < 1000) (hg : (aget dh f).getD 0 = 0) (hlen : 8 ≤ (dh.length : Int)) (hR : R (.returned (.int .i64 4)) w) :
    Calls Try.prog 54 #[.pointer (some ⟨q, 0, none⟩), .int .u32 f, .int .i64 y] w R := by
  have HR := hid hR
  have HG := hid hg
  have HC := hid C
  have h2 : ¬ y < 0 := by omega
  have h3 : ¬ 100 < y := by omega
  have h4 : ¬ y = 0 := by omega
  obtain ⟨sa, cap, rfl⟩ := owns_shape C.dears
  have c1 : w.cell? ⟨q, 2, none⟩ = some (.slice sa dh.length cap) := cell_at C.head rfl
  clear hR hg C
  go_enter Try.func54, Try.ntmps54
  go_wp2_with (go_at_call 46; refine rdear_ok HC.out hdl ?_; rw [HG.out])
  exact HR.out

set_option maxHeartbeats 4000000 in
set_option maxRecDepth 100000 in
theorem rhoard_ok (C : RefC B w q m l dh vl vh) (hf : f ≠ 0) (h0 : 0 ≤ y) (h1 : y ≤ 100) (hdl : dh.length < 900) (hg : y = 0 ∨ (aget dh f).getD 0 ≠ 0 ∨ (dh.length : Int) < 8)
    (hR : ∀ w' v, RefC B w' q m l (but dh f ++ (if y = 0 then [] else [(f, y)])) vl v → Fr (RefS q vl) w w' → R (.returned (.int .i64 0)) w') :
    Calls Try.prog 54 #[.pointer (some ⟨q, 0, none⟩), .int .u32 f, .int .i64 y] w R := by
  have HC := hid C
  have h2 : ¬ y < 0 := by omega
  have h3 : ¬ 100 < y := by omega
  have hdl' : dh.length < 1000 := by omega
  obtain ⟨z, hz⟩ : ∃ z, (aget dh f).getD 0 = z := ⟨_, rfl⟩
  have HZ := hid hz
  rw [hz] at hg
  have HFin : Hid (∀ W v, Fr No w W → W.ownsRow w.heap.size 99 2 v (but dh f ++ (if y = 0 then [] else [(f, y)])).length (cells2 encD (but dh f ++ (if y = 0 then [] else [(f, y)]))) → R (.returned (.int .i64 0)) (W.setRow q #[.int .i64 m, vl, v])) := fun W v hF ho =>
    hR _ v ((C.no hF).newd (owns_low ho C.lt)) (C.fr1 hF _)
  obtain ⟨sa, cap, rfl⟩ := owns_shape C.dears
  have HT := hid dearT
  clear hR hz C
  have hc : y = 0 ∨ (¬ y = 0 ∧ ¬ z = 0) ∨ (¬ y = 0 ∧ z = 0 ∧ (dh.length : Int) < 8) := by
    by_cases e : y = 0
    · exact .inl e
    · by_cases e2 : z = 0
      · exact .inr (.inr ⟨e, e2, by rcases hg with h | h | h <;> first | exact h | contradiction⟩)
      · exact .inr (.inl ⟨e, e2⟩)
  clear hg
  rcases hc with hy | ⟨hy, hz⟩ | ⟨hy, hz, h8⟩
  all_goals
    have c1 : w.cell? ⟨q, 2, none⟩ = some (.slice sa dh.length cap) := cell_at HC.out.head rfl
    have HY := hid hy
    go_enter Try.func54, Try.ntmps54
    go_wp2_with (go_at_call 46; refine rdear_ok HC.out hdl' ?_; rw [HZ.out])
    clear c1
    go_loopw [7, 8] (fun t7 t8 wr => ∃ k : Nat, k ≤ dh.length ∧ t8 = .int .i64 k ∧ Hid (wr.ownsRow w.heap.size 99 2 t7 (but (dh.take k) f).length (cells2 encD (but (dh.take k) f))) ∧ Hid (Fr No w wr)) (fun _ t8 _ => dh.length - (intOf t8).toNat)
    case atStart => exact ⟨0, Nat.zero_le _, rfl, World.ownsRow_nil _ _ _ _, Fr.refl _ _⟩
    case round =>
      obtain ⟨k, hk, rfl, ho, hfr⟩ := hrel
      have HO := hid ho.out
      have HF := hid hfr.out
      clear ho hfr
      have C1 := HC.out.no HF.out
      have q0 : wr.cell? ⟨q, 2, none⟩ = some (.slice sa dh.length cap) := cell_at C1.head rfl
      have HW : Hid ((but (dh.take k) f).length ≤ k) := Nat.le_trans (but_len _ _) (by simp; omega)
      by_cases hlt : k < dh.length
      · obtain ⟨x, hx⟩ : ∃ x, dh[k]? = some x := ⟨dh[k], List.getElem?_eq_getElem hlt⟩
        have HX := hid hx
        obtain ⟨g, cap', e, _, hgl, hc1, hc2⟩ := row_at C1.dears hx
        simp only [Value.slice.injEq, true_and] at e
        obtain ⟨rfl, rfl⟩ := e
        have Q2 := hid (And.intro hc1 hc2)
        clear hx hc2 C1
        by_cases hxf : x.1 = f
        · have HXF := hid hxf
          rw [hxf] at hc1
          clear hxf
          go_wp2
          go_roundw
          case rel => exact ⟨k + 1, by omega, by go_num, by rw [but_snoc_eq HX.out HXF.out]; exact HO, HF⟩
          case measure => simp [intOf]; omega
        · have HXF := hid hxf
          go_wp2_with (first
            | (refine wpList_loadVar (x := .tmp 65) rfl rfl rfl (var_two Q2.out dearR dearI) ?_)
            | (refine wpList_push _ _ 2 16 HT (by decide) (by decide) rfl _ rfl _ rfl rfl _ rfl _ rfl (show (Value.agg #[.int .u32 x.1, .int .i64 x.2]).cells.size = 2 from rfl) oneD _ (fun _ => rfl) (fun _ => rfl) w w.heap.size (hid rfl) HF _ _ HO (by have := HW.out; simp only [maxLen]; omega) (by have := HW.out; omega) ?_; intro v' w' ho' hf' hn'; clear q0 HO HF Q2 hc1))
          go_roundw
          case rel => exact ⟨k + 1, by omega, by go_num, by rw [but_snoc_ne HX.out HXF.out, List.length_append, cells2_snoc]; exact ho', hf'⟩
          case measure => simp [intOf]; omega
      · obtain rfl : k = dh.length := by omega
        rw [List.take_length] at HO HW
        have H1 := hid (owns_one HO.out)
        have HD := hid C1.head
        clear C1
        go_wp2_with (first
          | (refine wpList_push _ _ 2 16 HT (by decide) (by decide) rfl _ rfl _ rfl rfl _ rfl _ rfl (show (Value.agg #[.int .u32 f, .int .i64 y]).cells.size = 2 from rfl) oneD _ (fun _ => rfl) (fun _ => rfl) w w.heap.size (hid rfl) HF _ _ HO (by have := HW.out; simp only [maxLen]; omega) (by have := HW.out; omega) ?_; intro v' w' ho' hf' hn'; have HD := hid ((HC.out.no hf'.out).head); have H1 := hid (owns_one ho'.out); have HO := ho'; have HF := hf')
          | (refine wpList_storeVar (x := .tmp 80) rfl rfl rfl rfl (run_set1 HD.out rfl rdears1 H1.out rfl) ?_))
        refine HFin.out _ _ HF.out ?_
        first
          | (rw [if_pos HY.out, List.append_nil]; exact HO.out)
          | (rw [if_neg HY.out, List.length_append, cells2_snoc]; exact HO.out)

end

end Go.Proofs.Ytokhbjllgaaogaa
