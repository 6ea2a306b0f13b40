/- slices.AppendSeq, slices.Collect over whatever gives fids; maps.Keys. No condition beside what each law asks. -/
import Derived.Test.YtokhbjllgaaogaaCSeq
namespace Go.Proofs.Ytokhbjllgaaogaa
set_option linter.unusedSimpArgs false
open Go.RowKit Go.Maps Go.Shelf
attribute [local go_sem] Oper.semAt_some

theorem keepsWalks_of {W W' : World} (h : KeepsOthers W W') : KeepsWalks W W' := ⟨h.size, fun k o hk hw => h.same k o hk (by cases o <;> first | rfl | (simp [Obj.isWalk] at hw))⟩

set_option maxHeartbeats 4000000 in
set_option maxRecDepth 100000 in
/-- slices.AppendSeq(nil, seq): a slice of the call's own with all that came. -/
theorem appendSeq_in (n : Nat) (hn : 3 ≤ n) (g : Nat) (lb : Array Value) (eg : ∀ args w, (callFunc g args).run Try.prog w = .ok (.enter g args) w) (S Sp : List Int → Prop) (N : Nat) (hN : N ≤ 1000000) (w : World)
    (hseq : SeqStopsK Fence.wide (n - 1) Try.prog g lb (fun x => #[encU x]) KeepsWalks S Sp N w) :
    CallsIn Fence.wide n Try.prog 60 #[.slice none 0 0, .func (.func g) #[] lb] w fun e W' => ∃ v ss, e = .returned v ∧ S ss ∧ W'.ownsRow w.heap.size 27 1 v ss.length (ss.map encU) ∧ Below w.heap.size w W' := by
  have h1 : 1 ≤ n := by omega
  obtain ⟨i0, hi, hz0, hz1, hz2⟩ := info_parts fidI
  refine callsIn_of_wp_marks Try.func60 rfl trivial ?_ rfl
  simp only [Try.ntmps60, List.size_toArray, List.length_cons, List.length_nil, Nat.reduceAdd, Nat.reduceSub, Array.replicate_succ, Array.replicate_zero, List.push_toArray, List.append_toArray, List.nil_append, List.cons_append]
  gi_wp2
  have bO := Boxed.new w 25 (.slice none 0 0)
  have hB0 : Below w.heap.size w (w.alloc (.cells #[.slice none 0 0] 25)) := (Below.refl _ w).alloc (Nat.le_refl _) _
  refine wpIn_rangeFunc_ownG rfl h1 (gf := g) (lb := lb) rfl trivial eg hseq walksK_t walksK_b hB0 (fun _ => rfl)
    (fun pre W => (∃ v, Boxed W w.heap.size 25 v ∧ W.ownsRow w.heap.size 27 1 v pre.length (pre.map encU)) ∧ Below w.heap.size w W)
    (fun _ _ _ => False)
    (OwnFrom.and (Own.from (fun s W W' row ⟨v, h1, h2⟩ hg hr => by
      have := (holdsRow_own w.heap.size w.heap.size 25 27 1 (fun pre : List Int => pre.length) (fun pre => pre.map encU) (fun _ _ => True)) s W W' row ⟨v, h1, h2, trivial⟩ hg hr
      obtain ⟨v', a, b, _⟩ := this
      exact ⟨v', a, b⟩) _) (ownFrom_below (Nat.le_refl _) (by simp)))
    (fun _ _ _ _ _ hs _ _ => hs)
    ⟨⟨_, bO, World.ownsRow_nil _ _ _ _⟩, hB0⟩
    (fun x => { tmps := #[.slice none 0 0, .func (.func g) #[] lb, .pointer (some ⟨w.heap.size, 0, none⟩), undef, .slice none 0 0, .int .u32 x, .func (.func g) #[] lb, .int .u32 x, undef, undef, undef, undef, undef], defers := [] }) ?assign ?body ?done ?stop
  case assign =>
    intro l x W K hK
    gi_wp2
    exact hK
  case body =>
    rintro l pre x W ⟨⟨v, hv, hrow⟩, hB⟩ hlt
    have hc := hv.cell
    gi_wp2_with (gi_at_builtin; refine wpListIn_append_own _ rfl _ _ 25 rfl w.heap.size 27 i0 (.int .u32 0) 1 4 fidsU hi hz0 hz1 hz2 rfl (by decide) _ _ _ rfl (hrow.alloc _) ⟨W.heap.size, 0, none⟩ 1 1 [.int .u32 x] rfl rfl (cell_one_new _ _ _) (by simp [Value.oneCell', encU]) (by simp only [maxLen]; omega) (by omega) (by have := hB.size; simp; omega) ?_; intro v' w1 hown' hgrow _; obtain ⟨g', cap', rfl⟩ := ownsRow_succ hown'; obtain ⟨hv1, hv2, hr2, hk2, hb2⟩ := hv.appended (by decide) hrow hB.size (Nat.le_refl _) hown' hgrow; have hc1 := hv1.cell; have hf1 := hv1.frozen)
    exact ⟨hk2.from _, keepsWalks_of hk2, ⟨⟨_, hv2, by simpa using hr2⟩, hB.trans hb2⟩⟩
  case done =>
    rintro D ys W hD hS ⟨⟨v, hv, hrow⟩, hB⟩ hK
    have hc := hv.cell
    gi_wp2
    refine ⟨by simp, .inl ⟨_, _, rfl, run_takeDeferred hK, ?_⟩⟩
    exact ⟨_, results_tmp rfl _ _ _, v, ys, rfl, hS, ownsRow_putObj hrow _ hK rfl, hB.trans (belowK_b (w := w) (Nat.le_refl _) W D _ _ (by simp at hD; omega) hK rfl rfl)⟩
  case stop =>
    rintro D c pre W _ _ h _
    exact h.elim

set_option maxHeartbeats 4000000 in
set_option maxRecDepth 100000 in
/-- slices.Collect(seq). -/
theorem collect_in (n : Nat) (hn : 4 ≤ n) (g : Nat) (lb : Array Value) (eg : ∀ args w, (callFunc g args).run Try.prog w = .ok (.enter g args) w) (S Sp : List Int → Prop) (N : Nat) (hN : N ≤ 1000000) (w : World)
    (hseq : SeqStopsK Fence.wide (n - 1 - 1) Try.prog g lb (fun x => #[encU x]) KeepsWalks S Sp N w) :
    CallsIn Fence.wide n Try.prog 36 #[.func (.func g) #[] lb] w fun e W' => ∃ v ss, e = .returned v ∧ S ss ∧ W'.ownsRow w.heap.size 27 1 v ss.length (ss.map encU) ∧ Below w.heap.size w W' := by
  refine callsIn_of_wp Try.func36 rfl trivial ?_ rfl
  simp only [Try.ntmps36, List.size_toArray, List.length_cons, List.length_nil, Nat.reduceAdd, Nat.reduceSub, Array.replicate_succ, Array.replicate_zero, List.push_toArray, List.append_toArray, List.nil_append, List.cons_append]
  gi_wp2_with (refine ⟨trivial, fun _ => by omega, ?_⟩; refine (appendSeq_in (n - 1) (by omega) g lb eg S Sp N hN _ hseq).mono ?_; rintro e w' ⟨v, ss, rfl, hS, hrow, hb⟩)
  go_ret
  exact ⟨v, ss, rfl, hS, hrow, hb⟩

/-- maps.Keys(m): the map is boxed; the function value captures the box. -/
theorem hkeys_ok {m : Value} {w : World} {R : Ending → World → Prop} (hm : ∃ b, m = .map b) (hR : R (.returned (.func (.func 70) #[] #[.pointer (some ⟨w.heap.size, 0, none⟩)])) (w.alloc (.cells #[m] 55))) :
    Calls Try.prog 57 #[m] w R := by
  obtain ⟨b, rfl⟩ := hm
  go_enter Try.func57, Try.ntmps57
  go_wp2
  exact hR

/-- slices.Collect(maps.Keys(m.held)). -/
theorem hcollect_ok {α : Type} {enc : α → Value} {l0 : List (Int × α)} {Bm b : Nat} {w : World} {R : Ending → World → Prop} (hm : w.cell? ⟨Bm, 0, none⟩ = some (.map (some b))) (hBm : Bm < w.heap.size) (M : MapAt Try.prog 27 .u32 enc w b l0) (hl : l0.length ≤ 1000000)
    (hR : ∀ (v : Value) (ss : List Int) (W' : World), ss.Perm (l0.map (·.1)) → W'.ownsRow w.heap.size 27 1 v ss.length (ss.map encU) → Fr No w W' → R (.returned v) W') :
    Calls Try.prog 36 #[.func (.func 70) #[] #[.pointer (some ⟨Bm, 0, none⟩)]] w R := by
  refine (callsIn_wide (n := 9)).1 ((collect_in 9 (by omega) _ _ (enters_of Try.func70 (by kernel_rfl) rfl) _ _ _ hl w (hkeys_stops 7 (by omega) Bm b w hBm hm M)).mono ?_)
  rintro e W' ⟨v, ss, rfl, hS, hrow, hb⟩
  exact hR v ss W' hS hrow (Fr.of_below hb)

end Go.Proofs.Ytokhbjllgaaogaa
