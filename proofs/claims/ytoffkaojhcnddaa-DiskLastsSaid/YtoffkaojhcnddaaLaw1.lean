/- The laws DiskPlays, DiskAll. No condition beside that the deeds lie there. -/
import Derived.Test.YtoffkaojhcnddaaLawE
namespace Go.Proofs.Ytoffkaojhcnddaa
set_option linter.unusedSimpArgs false
open Go.RowKit Go.Maps

theorem fr_up {w w' : World} {p q n bs bm : Nat} {l : List (Int × Array Value)} {s : Nat → Array Value} {B : Nat} {w1 : World} (T : Two B w1 p q n bs bm l s l s) (h : Fr (Up B) w w1) (h2 : Fr (SS p bs bm q) w1 w') : Fr (Up B) w w' :=
  h.trans h2 (fun b hb => .inl (T.lo b hb).1)

set_option maxHeartbeats 4000000 in
set_option maxRecDepth 100000 in
theorem plays_ok {w : World} {R : Ending → World → Prop} {x : Int} {v : Value} {ds : List Dd} (h0 : 0 ≤ x) (h1 : x < 256) (D : Deeds w.heap.size w v ds) (hR : ∀ w', Fr No w w' → R (.returned (.bool true)) w') :
    Calls Try.prog 3 #[.int .u8 x, v] w R := by
  have HR := hid hR
  have HD := hid D
  have HX := hid (And.intro h0 h1)
  clear hR D h0 h1
  obtain ⟨_, da, dc, rfl, _⟩ := id HD.out.row
  go_enter Try.func3, Try.ntmps3
  go_wp2_with (first
    | (go_at_call 9; refine play_ok HX.out.1 HX.out.2 HD.out (Nat.le_refl _) ?_; intro w1 p q n bs bm l s t1 _ hf; have T1 := hid t1; have F1 := hid hf.up; clear t1 hf)
    | (go_at_call 10; refine live_ok ?_; intro w2 hf; have T2 := hid (T1.out.no hf); have F2 := hid (F1.out.no hf); clear hf)
    | (go_at_call 11; refine same_ok T2.out (fun _ _ => rfl) rfl ?_; intro w3 hf; have F3 := hid (F2.out.no hf); clear hf))
  exact HR.out _ F3.out

/-- The places of DiskAll's Crash. -/
def nine : List Int := [7, 6, 5, 4, 3, 2, 1, 0, 0]

theorem put_all {l : List (Int × Array Value)} {s : Nat → Array Value} {n i : Nat} (hn : n ≤ 8) (hi : i < n) : put l s (fun i => nine.contains i) i = put l s (fun _ => true) i := by
  have : nine.contains (i : Int) = true := by
    have h8 : i < 8 := by omega
    have : ∀ j : Fin 8, nine.contains ((j.val : Nat) : Int) = true := by decide
    exact this ⟨i, h8⟩
  simp only [put, this]

set_option maxHeartbeats 4000000 in
set_option maxRecDepth 100000 in
theorem all_ok {w : World} {R : Ending → World → Prop} {x : Int} {v : Value} {ds : List Dd} (h0 : 0 ≤ x) (h1 : x < 256) (D : Deeds w.heap.size w v ds) (hR : ∀ w', Fr No w w' → R (.returned (.bool true)) w') :
    Calls Try.prog 5 #[.int .u8 x, v] w R := by
  have HR := hid hR
  have HD := hid D
  have HX := hid (And.intro h0 h1)
  clear hR D h0 h1
  obtain ⟨_, da, dc, rfl, _⟩ := id HD.out.row
  go_enter Try.func5, Try.ntmps5
  go_wp2_with (first
    | (go_at_call 9; refine play_ok HX.out.1 HX.out.2 HD.out (Nat.le_refl _) ?_; intro w1 p q n bs bm l s t1 hn hf; have T1 := hid t1; have F1 := hid hf; have HN : Hid (n ≤ 8) := (show n ≤ 8 by omega); clear t1 hf hn)
    | (go_at_call 10; refine live_ok ?_; intro w2 hf; have T2 := hid (T1.out.no hf); have F2 := hid (F1.out.no hf); clear hf)
    | (go_at_call 19; refine two_crash (xs := nine) (T2.out.no ((Fr.refl No _).alloc _)) (rows_new (xs := nine) rfl T2.out.notSS _) (by decide) ?_; intro w3 t3 hf; have T3 := hid t3; have F3 := hid (fr_up (T2.out.no ((Fr.refl No _).alloc _)) (F2.out.alloc _) hf); clear t3 hf)
    | (go_at_call 17; refine two_flushR T3.out ?_; intro w4 t4 hf; have T4 := hid t4; have F4 : Hid (Fr (Up w.heap.size) w w4) := F3.out.trans hf (fun b hb => .inl (T3.out.lo b hb).1); clear t4 hf)
    | (go_at_call 11; refine same_ok T4.out (fun i hi => (put_all HN.out hi)) rfl ?_; intro w5 hf; have F5 := hid (F4.out.no hf); clear hf))
  exact HR.out _ F5.out.up

end Go.Proofs.Ytoffkaojhcnddaa
