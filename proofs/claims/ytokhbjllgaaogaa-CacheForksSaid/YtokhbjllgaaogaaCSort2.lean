/- slices.Sort of at most twelve fids: the whole of it; slices.Sorted of a map's keys. No condition beside what each law asks. -/
import Derived.Test.YtokhbjllgaaogaaCSort
namespace Go.Proofs.Ytokhbjllgaaogaa
set_option linter.unusedSimpArgs false
open Go.RowKit Go.Maps

set_option maxHeartbeats 4000000 in
set_option maxRecDepth 100000 in
theorem len64_ok {x : Int} {w : World} {R : Ending → World → Prop} (h0 : 0 ≤ x) (h1 : x ≤ 12) (hR : ∀ k, R (.returned (.int .i64 k)) w) : Calls Try.prog 80 #[.int .u64 x] w R := by
  have HR := hid hR
  clear hR
  have hx : x = 0 ∨ x = 1 ∨ x = 2 ∨ x = 3 ∨ x = 4 ∨ x = 5 ∨ x = 6 ∨ x = 7 ∨ x = 8 ∨ x = 9 ∨ x = 10 ∨ x = 11 ∨ x = 12 := by omega
  clear h0 h1
  rcases hx with rfl | rfl | rfl | rfl | rfl | rfl | rfl | rfl | rfl | rfl | rfl | rfl | rfl
  all_goals
    go_enter Try.func80, Try.ntmps80
    go_wp2
    exact HR.out _

set_option maxHeartbeats 4000000 in
set_option maxRecDepth 100000 in
theorem len_ok {x : Int} {w : World} {R : Ending → World → Prop} (h0 : 0 ≤ x) (h1 : x ≤ 12) (hR : ∀ k, R (.returned (.int .i64 k)) w) : Calls Try.prog 63 #[.int .u64 x] w R := by
  have HR := hid hR
  clear hR
  go_enter Try.func63, Try.ntmps63
  go_wp2_with (go_at_call 80; refine len64_ok h0 h1 ?_; intro k)
  exact HR.out _

set_option maxHeartbeats 4000000 in
set_option maxRecDepth 100000 in
theorem isort_nil {p : Option Addr} {cap : Nat} {w : World} {R : Ending → World → Prop} (hR : R (.returned (.tuple #[])) w) :
    Calls Try.prog 87 #[.slice p 0 cap, .int .i64 0, .int .i64 0] w R := by
  have HR := hid hR
  clear hR
  go_enter Try.func87, Try.ntmps87
  go_wp2
  go_loopw [6] (fun t6 wr => t6 = .int .i64 1 ∧ wr = w) (fun _ _ => 0)
  case atStart => exact ⟨rfl, rfl⟩
  case round =>
    obtain ⟨rfl, rfl⟩ := hrel
    go_wp2
    go_end0
    exact HR.out

theorem row_of_take {cur : Array Value} {xs : List Int} (h : cur.toList.take (xs.length * 1) = xs.map encU) {k : Nat} (hk : k < xs.toArray.size) : cur[k]? = some (.int .u32 (xs.toArray.getD k 0)) := by
  have hk' : k < xs.length := by simpa using hk
  have h1 : (cur.toList.take (xs.length * 1))[k]? = (xs.map encU)[k]? := by rw [h]
  rw [List.getElem?_take_of_lt (by omega), Array.getElem?_toList] at h1
  rw [h1]
  simp [Array.getD_eq_getD_getElem?, hk']

theorem take_of_row {cur : Array Value} {ys : Array Int} (h : ∀ k, k < ys.size → cur[k]? = some (.int .u32 (ys.getD k 0))) : cur.toList.take (ys.size * 1) = ys.toList.map encU := by
  apply List.ext_getElem?
  intro j
  by_cases hj : j < ys.size
  · rw [List.getElem?_take_of_lt (by omega), Array.getElem?_toList, h j hj]
    simp [Array.getD_eq_getD_getElem?, hj]
  · rw [List.getElem?_take_eq_none (by omega), List.getElem?_eq_none (by simp; omega)]

theorem upto_pairwise {ys : Array Int} (h : Upto ys ys.size) : ys.toList.Pairwise (· ≤ ·) := by
  rw [List.pairwise_iff_getElem]
  intro p q hp hq hpq
  have hp' : p < ys.size := by simpa using hp
  have hq' : q < ys.size := by simpa using hq
  have := h p q hpq hq'
  simpa [Array.getD_eq_getD_getElem?, hp', hq'] using this

theorem isort_any {base : Nat} {v : Value} {xs : List Int} {w : World} {R : Ending → World → Prop} (hn : xs.length ≤ 12) (H : w.ownsRow base 27 1 v xs.length (xs.map encU))
    (hR : ∀ w' (ys : List Int), w'.ownsRow base 27 1 v xs.length (ys.map encU) → ys.Perm xs → ys.Pairwise (· ≤ ·) → Fr (fun b => base ≤ b) w w' → R (.returned (.tuple #[])) w') :
    Calls Try.prog 87 #[v, .int .i64 0, .int .i64 xs.length] w R := by
  obtain ⟨hlen, ⟨rfl, h0⟩ | ⟨g, cap, cur, rfl, hb, hh, h1, h2, h3, h4⟩⟩ := H
  · obtain rfl : xs = [] := List.eq_nil_of_length_eq_zero h0
    exact isort_nil (hR w [] ⟨rfl, .inl ⟨rfl, rfl⟩⟩ (List.Perm.refl _) List.Pairwise.nil (Fr.refl _ _))
  · have hrow : Row32 w g cap xs.toArray := ⟨cur, hh, by omega, by simpa using h1, fun k hk => row_of_take h4 hk⟩
    have := isort_ok (R := R) (xs := xs.toArray) (by simp; omega) hrow (fun w' ys hy hp hu hf => by
      have hsz : ys.size = xs.length := by have := hp.length_eq; simpa using this
      obtain ⟨cs, e1, e2, e3, e4⟩ := hy
      refine hR w' ys.toList ⟨by simp [hsz], .inr ⟨g, cap, cs, rfl, hb, e1, h1, h2, by omega, ?_⟩⟩ (by simpa using hp) (upto_pairwise (by rw [hsz]; simpa using hu)) (hf.mono (fun b hb' => by subst hb'; exact hb))
      have := take_of_row e4
      rwa [hsz] at this)
    simpa using this

set_option maxHeartbeats 4000000 in
set_option maxRecDepth 100000 in
theorem pdq_ok {base : Nat} {v : Value} {k : Int} {xs : List Int} {w : World} {R : Ending → World → Prop} (hn : xs.length ≤ 12) (H : w.ownsRow base 27 1 v xs.length (xs.map encU))
    (hR : ∀ w' (ys : List Int), w'.ownsRow base 27 1 v xs.length (ys.map encU) → ys.Perm xs → ys.Pairwise (· ≤ ·) → Fr (fun b => base ≤ b) w w' → R (.returned (.tuple #[])) w') :
    Calls Try.prog 81 #[v, .int .i64 0, .int .i64 xs.length, .int .i64 k] w R := by
  have HR := hid hR
  have HH := hid H
  clear hR
  obtain ⟨va, vc, rfl⟩ : ∃ va vc, v = .slice va xs.length vc := by
    obtain ⟨_, ⟨rfl, h0⟩ | ⟨g, cap, cur, rfl, _⟩⟩ := H
    · exact ⟨none, 0, by rw [h0]⟩
    · exact ⟨_, _, rfl⟩
  clear H
  obtain ⟨n, hN⟩ : ∃ n, n = xs.length := ⟨_, rfl⟩
  have HN := hid hN
  have hn' : (n : Int) ≤ 12 := by omega
  have hl : (n : Int) < 9223372036854775807 := by omega
  go_enter Try.func81, Try.ntmps81
  rw [← hN]
  clear hN
  go_wp2
  go_loopw [1, 2] (fun t1 t2 wr => t1 = .int .i64 0 ∧ t2 = .int .i64 n ∧ wr = w) (fun _ _ _ => 0)
  case atStart => exact ⟨rfl, rfl, rfl⟩
  case round =>
    obtain ⟨rfl, rfl, rfl⟩ := hrel
    go_wp2_with (go_at_call 87; rw [HN.out]; refine isort_any hn HH.out ?_; intro w' ys h1 h2 h3 h4; have X1 := hid h1; have X2 := hid h2; have X3 := hid h3; have X4 := hid h4; clear h1 h2 h3 h4)
    exact bodyPost_ret (results_none rfl _ _ _) rfl (HR.out _ ys X1.out X2.out X3.out X4.out)

set_option maxHeartbeats 4000000 in
set_option maxRecDepth 100000 in
theorem sort_ok {base : Nat} {v : Value} {xs : List Int} {w : World} {R : Ending → World → Prop} (hn : xs.length ≤ 12) (H : w.ownsRow base 27 1 v xs.length (xs.map encU))
    (hR : ∀ w' (ys : List Int), w'.ownsRow base 27 1 v xs.length (ys.map encU) → ys.Perm xs → ys.Pairwise (· ≤ ·) → Fr (fun b => base ≤ b) w w' → R (.returned (.tuple #[])) w') :
    Calls Try.prog 69 #[v] w R := by
  have HR := hid hR
  have HH := hid H
  clear hR
  obtain ⟨va, vc, rfl⟩ : ∃ va vc, v = .slice va xs.length vc := by
    obtain ⟨_, ⟨rfl, h0⟩ | ⟨g, cap, cur, rfl, _⟩⟩ := H
    · exact ⟨none, 0, by rw [h0]⟩
    · exact ⟨_, _, rfl⟩
  clear H
  obtain ⟨n, hN⟩ : ∃ n, n = xs.length := ⟨_, rfl⟩
  have HN := hid hN
  have hn' : (n : Int) ≤ 12 := by omega
  have hl0 : (0 : Int) ≤ n := by omega
  have hl : (n : Int) < 9223372036854775807 := by omega
  have HN0 := hid hl0
  have HN1 := hid hn'
  go_enter Try.func69, Try.ntmps69
  rw [← hN]
  clear hN
  go_wp2_with (first
    | (go_at_call 63; refine len_ok HN0.out HN1.out ?_; intro k)
    | (go_at_call 81; rw [HN.out]; refine pdq_ok hn HH.out ?_; intro w' ys h1 h2 h3 h4; have X1 := hid h1; have X2 := hid h2; have X3 := hid h3; have X4 := hid h4; clear h1 h2 h3 h4))
  go_end0
  exact HR.out _ ys X1.out X2.out X3.out X4.out

theorem sorted_keys {α : Type} {l : List (Int × α)} {ss ys : List Int} (hs : Srt l) (h1 : ss.Perm (l.map (·.1))) (h2 : ys.Perm ss) (h3 : ys.Pairwise (· ≤ ·)) : ys = l.map (·.1) :=
  List.Perm.eq_of_pairwise (le := fun a b : Int => a ≤ b) (fun a b _ _ h h' => Int.le_antisymm h h') h3 (List.pairwise_map.2 (List.Pairwise.imp (R := fun a b : Int × α => a.1 < b.1) (fun h => by omega) hs)) (h2.trans h1)

set_option maxHeartbeats 4000000 in
set_option maxRecDepth 100000 in
/-- slices.Sorted(maps.Keys(m)): the keys, rising. -/
theorem hsorted_ok {α : Type} {enc : α → Value} {l0 : List (Int × α)} {Bm b : Nat} {w : World} {R : Ending → World → Prop} (hm : w.cell? ⟨Bm, 0, none⟩ = some (.map (some b))) (hBm : Bm < w.heap.size) (M : MapAt Try.prog 27 .u32 enc w b l0) (hl : l0.length ≤ 12)
    (hR : ∀ (v : Value) (W' : World), W'.ownsRow w.heap.size 27 1 v l0.length ((l0.map (·.1)).map encU) → Fr No w W' → R (.returned v) W') :
    Calls Try.prog 56 #[.func (.func 70) #[] #[.pointer (some ⟨Bm, 0, none⟩)]] w R := by
  have HR := hid hR
  have HM := hid hm
  have HB := hid hBm
  have MM := hid M
  clear hR hm hBm M
  go_enter Try.func56, Try.ntmps56
  go_wp2_with (first
    | (go_at_call 36; refine hcollect_ok HM.out HB.out MM.out (Nat.le_trans hl (by decide)) ?_; intro v ss w1 hp hrow hf; have HP := hid hp; have HL : Hid (ss.length = l0.length) := (by show _ = _; simpa using hp.length_eq); have HRW := hid hrow; have F1 := hid hf; clear hp hrow hf)
    | (go_at_call 69; refine sort_ok (by rw [HL.out]; exact hl) HRW.out ?_; intro w2 ys h1 h2 h3 h4; have X1 := hid h1; have X2 := hid h2; have X3 := hid h3; have F2 : Hid (Fr No w w2) := F1.out.trans h4 (fun b hb => .inr hb); clear h1 h2 h3 h4))
  have e := sorted_keys MM.out.srt HP.out X2.out X3.out
  subst e
  exact HR.out _ _ (by have := X1.out; rwa [HL.out] at this) F2.out

end Go.Proofs.Ytokhbjllgaaogaa
