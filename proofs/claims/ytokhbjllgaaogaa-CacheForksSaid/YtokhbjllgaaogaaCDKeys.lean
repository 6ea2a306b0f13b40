/- The keys of the dear come one by one, and are collected. No condition beside what each law asks. -/
import Derived.Test.YtokhbjllgaaogaaCEqv2
namespace Go.Proofs.Ytokhbjllgaaogaa
set_option linter.unusedSimpArgs false
open Go.RowKit Go.Maps Go.Shelf
attribute [local go_sem] Oper.semAt_some

set_option maxHeartbeats 4000000 in
set_option maxRecDepth 100000 in
/-- The dear's keys come, each once, in some order. -/
theorem dkeys_in {α : Type} {enc : α → Value} {l0 : List (Int × α)} (n : Nat) (hn : 1 ≤ n) (l Bm b : Nat) (J Jx : List Int → World → Prop)
    (hY : ∀ pre x W, J pre W → pre.length < l0.length → YieldAt Fence.wide (n - 1) Try.prog l #[.int .u32 x] W fun e W' => (e = .returned (.bool true) ∧ J (pre ++ [x]) W' ∧ KeepsWalks W W') ∨ (e = .returned (.bool false) ∧ Jx (pre ++ [x]) W'))
    (W : World) (hJ : AbidesFrom W.heap.size J) (hm : W.cell? ⟨Bm, 0, none⟩ = some (.map (some b))) (M : MapAt Try.prog 27 .u32 enc W b l0) (h0 : J [] W) :
    CallsIn Fence.wide n Try.prog 61 #[.func (.yield l) #[] #[], .pointer (some ⟨Bm, 0, none⟩)] W fun e W' => (∃ v, e = .returned v) ∧ ((∃ ss : List Int, ss.Perm (l0.map (·.1)) ∧ J ss W') ∨ (∃ pre : List Int, True ∧ Jx pre W')) := by
  have HM := hid M
  clear M
  refine callsIn_of_wp Try.func61 rfl trivial ?_ rfl
  simp only [Try.ntmps61, List.size_toArray, List.length_cons, List.length_nil, Nat.reduceAdd, Nat.reduceSub, Array.replicate_succ, Array.replicate_zero, List.push_toArray, List.append_toArray, List.nil_append, List.cons_append]
  gi_wp2_with (first
    | (gi_at_range; refine wpListIn_arange rfl rfl fidU dearU HM.out rfl ?_; intro w0 hrg0 hg0)
    | gi_in)
  go_frame
  gi_loopw [3] (fun _ wr => ∃ (left : Lit → Bool) (cnt : Nat) (ss : List Int), RangeAt Try.prog 27 .u32 enc wr b W.heap.size l0 left cnt ∧ ss.length + cnt ≤ l0.length ∧ Came .u32 l0 left ss ∧ J ss wr)
    (fun _ wr => wr.rangeLeft b W.heap.size)
  case atStart =>
    exact ⟨_, _, [], hrg0, by simp, Came.start, hJ [] W w0 none h0 hg0 (fun r e => by cases e)⟩
  case round =>
    obtain ⟨left, cnt, ss, hrg, hcs, hC, hJs⟩ := hrel
    gi_wp2_with (first
      | (gi_at_next; refine wpListIn_anext rfl rfl fidU rfl hrg ?_ ?_)
      | gi_in)
    · intro hl0
      gi_wp2
      go_end0
      exact ⟨⟨_, rfl⟩, .inl ⟨ss, hC.perm HM.out.srt hl0, hJs⟩⟩
    · intro x d w2 cnt2 hwf hlk hd hrg2 hlt hg2 hen
      have hJ2 : J ss w2 := hJ ss wr w2 (some W.heap.size) hJs hg2 (fun r e => by cases e; exact ⟨Nat.le_refl _, World.ranges.iter_walk hrg⟩)
      obtain ⟨fn, tmps, assign, body, hy, hR⟩ := hY ss x w2 hJ2 (by omega)
      have hC2 := hC.step hlk hd
      gi_wp2
      refine hR.mono ?_
      rintro e W3 (⟨rfl, hJ3, hk3⟩ | ⟨rfl, hJx3⟩)
      · gi_wp2
        have hrg3 : RangeAt Try.prog 27 .u32 enc W3 b W.heap.size l0 _ cnt2 := World.ranges.of_walks hrg2 hk3
        go_roundw
        case rel => exact ⟨_, cnt2, ss ++ [x], hrg3, by simp; omega, hC2, hJ3⟩
        case measure => rw [World.ranges.left_eq hrg3, World.ranges.left_eq hrg]; exact hlt
      · gi_wp2
        refine bodyPost_ret (results_none rfl _ _ _) rfl ?_
        exact ⟨⟨_, rfl⟩, .inr ⟨ss ++ [x], trivial, hJx3⟩⟩

theorem dkeys_stops {α : Type} {enc : α → Value} {l0 : List (Int × α)} (n : Nat) (hn : 1 ≤ n) (Bm b : Nat) (w : World) (hBm : Bm < w.heap.size) (hm : w.cell? ⟨Bm, 0, none⟩ = some (.map (some b))) (M : MapAt Try.prog 27 .u32 enc w b l0) :
    SeqStopsK Fence.wide n Try.prog 61 #[.pointer (some ⟨Bm, 0, none⟩)] (fun x => #[encU x]) KeepsWalks (fun ss => ss.Perm (l0.map (·.1))) (fun _ => True) l0.length w :=
  fun l J Jx W hW hJ _ hY h0 => dkeys_in n hn l Bm b J Jx hY W hJ ((hW.cell (p := ⟨Bm, 0, none⟩) hBm).trans hm) (M.heap (hW.block b M.lt)) h0

/-- maps.Keys(m): the map is boxed; the function value captures the box. -/
theorem dkeys_ok {m : Value} {w : World} {R : Ending → World → Prop} (hm : ∃ b, m = .map b) (hR : R (.returned (.func (.func 61) #[] #[.pointer (some ⟨w.heap.size, 0, none⟩)])) (w.alloc (.cells #[m] 56))) :
    Calls Try.prog 37 #[m] w R := by
  obtain ⟨b, rfl⟩ := hm
  go_enter Try.func37, Try.ntmps37
  go_wp2
  exact hR

/-- slices.Collect(maps.Keys(m.held)). -/
theorem dcollect_ok {α : Type} {enc : α → Value} {l0 : List (Int × α)} {Bm b : Nat} {w : World} {R : Ending → World → Prop} (hm : w.cell? ⟨Bm, 0, none⟩ = some (.map (some b))) (hBm : Bm < w.heap.size) (M : MapAt Try.prog 27 .u32 enc w b l0) (hl : l0.length ≤ 1000000)
    (hR : ∀ (v : Value) (ss : List Int) (W' : World), ss.Perm (l0.map (·.1)) → W'.ownsRow w.heap.size 27 1 v ss.length (ss.map encU) → Fr No w W' → R (.returned v) W') :
    Calls Try.prog 36 #[.func (.func 61) #[] #[.pointer (some ⟨Bm, 0, none⟩)]] w R := by
  refine (callsIn_wide (n := 9)).1 ((collect_in 9 (by omega) _ _ (enters_of Try.func61 (by kernel_rfl) rfl) _ _ _ hl w (dkeys_stops 7 (by omega) Bm b w hBm hm M)).mono ?_)
  rintro e W' ⟨v, ss, rfl, hS, hrow, hb⟩
  exact hR v ss W' hS hrow (Fr.of_below hb)

end Go.Proofs.Ytokhbjllgaaogaa
