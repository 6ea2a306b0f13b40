/- The law's helper same: where both disks hold the same, it says so. No condition beside that both disks lie there. -/
import Derived.Test.YtoffkaojhcnddaaLawA
namespace Go.Proofs.Ytoffkaojhcnddaa
set_option linter.unusedSimpArgs false
open Go.RowKit Go.Maps
attribute [local irreducible] wpQuiet wpAnyH

/-- What Read answers. -/
def RV (l : List (Int × Array Value)) (s : Nat → Array Value) (n : Nat) (i : Int) : Array Value × Int := if 0 ≤ i ∧ i < n then (val l s i.toNat, 0) else (Z32, 2)

variable {B : Nat} {w : World} {p q n bs bm : Nat} {l l2 : List (Int × Array Value)} {s s2 : Nat → Array Value} {R : Ending → World → Prop} {i : Int} {c : Array Value} {e : Int}

theorem two_read' (T : Two B w p q n bs bm l s l2 s2) (hv : RV l s n i = (c, e)) (hR : ∀ w', Fr No w w' → R (.returned (.tuple #[.agg c, .int .i64 e])) w') :
    Calls Try.prog 14 #[.pointer (some ⟨p, 0, none⟩), .int .i64 i] w R := by
  unfold RV at hv
  split at hv
  · rename_i h
    obtain ⟨i, rfl⟩ : ∃ j : Nat, i = j := ⟨i.toNat, by omega⟩
    rw [Int.toNat_natCast] at hv
    cases hv
    exact two_read T (by omega) hR
  · cases hv
    obtain ⟨cap, h0⟩ := T.head
    exact read_no h0 (by omega) hR

theorem two_readR' (T : Two B w p q n bs bm l s l2 s2) (hv : RV l2 s2 n i = (c, e)) (hR : ∀ w', Fr No w w' → R (.returned (.tuple #[.agg c, .int .i64 e])) w') :
    Calls Try.prog 27 #[.pointer (some ⟨q, 0, none⟩), .int .i64 i] w R := by
  unfold RV at hv
  split at hv
  · rename_i h
    obtain ⟨i, rfl⟩ : ∃ j : Nat, i = j := ⟨i.toNat, by omega⟩
    rw [Int.toNat_natCast] at hv
    cases hv
    exact two_readR T (by omega) hR
  · cases hv
    obtain ⟨bs', cap, h0⟩ := T.headR
    exact rread_no h0 (by omega) hR

theorem RV_is (T : Two B w p q n bs bm l s l2 s2) (hv : RV l s n i = (c, e)) : IsSec c := by
  unfold RV at hv
  split at hv
  · cases hv; exact T.val_is (by omega)
  · cases hv; exact Z32_is

theorem Two.few (T : Two B w p q n bs bm l s l2 s2) : l.length ≤ n := by
  obtain ⟨cap, cs, H, _⟩ := T.d
  exact H.few
theorem two_loose (T : Two B w p q n bs bm l s l2 s2) (hR : ∀ v w', RowsAt No w' v l.length 1 (ints (l.map (·.1))) → Fr No w w' → R (.returned v) w') :
    Calls Try.prog 18 #[.pointer (some ⟨p, 0, none⟩)] w R := by
  obtain ⟨cap, cs, H, _⟩ := T.d
  exact loose_ok H fun v w' h hf => hR v w' (h No (fun _ _ h => h)) hf
theorem two_looseR (T : Two B w p q n bs bm l s l2 s2) (hR : ∀ v w', RowsAt No w' v l2.length 1 (ints (keys l2)) → Fr No w w' → R (.returned v) w') :
    Calls Try.prog 29 #[.pointer (some ⟨q, 0, none⟩)] w R := by
  obtain ⟨cap, cs, bs', bv, H, _⟩ := T.r
  exact rloose_ok H fun v w' h hf => hR v w' (h No (fun _ _ h => h)) hf
theorem keys_eq {v : Value} (hk : l.map (·.1) = keys l2) (h : RowsAt No w v l2.length 1 (ints (keys l2))) : RowsAt No w v l.length 1 (ints (l.map (·.1))) := by
  have hl : l.length = l2.length := by have := congrArg List.length hk; simpa [keys] using this
  rw [hk, hl]; exact h

theorem noGuardA : Try.prog.eqGuardType Try.prog.depth 35 = false := by kernel_rfl
theorem neqArr {a b : Array Value} (ha : IsSec a) (hb : IsSec b) {r : Bool} (hr : r = true ↔ a = b) (W : World) : (binOp .neq 35 (.agg a) (.agg b)).run Try.prog W = .ok (.bool (!r)) W :=
  run_bin_neq (run_eql_ints (q := .u8) arrU (by kernel_rfl) (by kernel_rfl) (by kernel_rfl) a b ha.ints hb.ints ha.1 hb.1 hr W)

set_option maxHeartbeats 4000000 in
set_option maxRecDepth 100000 in
theorem same_ok (T : Two B w p q n bs bm l s l2 s2) (hv : ∀ i, i < n → val l s i = val l2 s2 i) (hk : l.map (·.1) = keys l2) (hR : ∀ w', Fr No w w' → R (.returned (.bool true)) w') :
    Calls Try.prog 11 #[.pointer (some ⟨p, 0, none⟩), .pointer (some ⟨q, 0, none⟩)] w R := by
  have TT := hid T
  have HV := hid hv
  have HK := hid hk
  have HR := hid hR
  have hmost := T.most
  obtain ⟨bs', cap', hq0⟩ := T.headR
  obtain ⟨cap, hp0⟩ := T.head
  have hlq : q < w.heap.size := (T.lo q (.inr rfl)).2
  have hlp : p < w.heap.size := (T.lo p (.inl (.inl rfl))).2
  have HQ : Hid (∀ W, Fr No w W → W.cell? ⟨q, 0, none⟩ = some (.slice (some ⟨bs', 0, none⟩) n cap')) := fun W h => (h.cell hlq (fun h => h)).trans hq0
  have HP : Hid (∀ W, Fr No w W → W.cell? ⟨p, 0, none⟩ = some (.slice (some ⟨bs, 0, none⟩) n cap)) := fun W h => (h.cell hlp (fun h => h)).trans hp0
  clear T hv hk hR hq0 hp0 hlq hlp
  go_enter Try.func11, Try.ntmps11
  go_wp2
  go_loopw [5] (fun t5 wr => ∃ k : Nat, k ≤ n + 2 ∧ t5 = .int .i64 ((k : Int) - 1) ∧ Hid (Fr No w wr)) (fun t5 _ => (n + 2) - (intOf t5 + 1).toNat)
  case atStart => exact ⟨0, Nat.zero_le _, rfl, Fr.refl _ _⟩
  case round =>
    obtain ⟨k, hk, rfl, hf⟩ := hrel
    have HF := hid hf.out
    clear hf
    have q0 := HQ.out wr HF.out
    have T0 : Hid (Two B wr p q n bs bm l s l2 s2) := TT.out.no HF.out
    by_cases hlt : k < n + 2
    · obtain ⟨i, hi⟩ : ∃ i : Int, i = (k : Int) - 1 := ⟨_, rfl⟩
      have hle : i ≤ n := by omega
      have hlo : -1 ≤ i := by omega
      obtain ⟨c, e, hrv⟩ : ∃ c e, RV l s n i = (c, e) := ⟨_, _, rfl⟩
      have hrv2 : RV l2 s2 n i = (c, e) := by
        rw [← hrv]
        unfold RV
        split
        · rw [HV.out _ (by omega)]
        · rfl
      have HC := hid (RV_is TT.out hrv)
      have RV1 := hid hrv
      have RV2 := hid hrv2
      have hz : Hid (Z32.size = c.size) := by show _ = _; rw [HC.out.1]; exact Z32_is.1
      clear hrv hrv2
      rw [← hi]
      have HI := hid hi
      clear hi
      have hlow : -9223372036854775808 ≤ i := by omega
      go_wp2_with (first
        | (go_at_call 26; refine rsize_ok q0 ?_)
        | (go_at_call 14; refine two_read' T0.out RV1.out ?_; intro w1 hf1; have HF1 := hid (HF.out.no hf1); clear hf1)
        | (go_at_call 27; refine two_readR' (TT.out.no (HF1.out.alloc _)) RV2.out ?_; intro w2 hf2; have HB := hid (hf2.keep (heap_alloc_new w1 (.cells c 36)) (fun h => h)); have HF2 := hid ((HF1.out.alloc (.cells c 36)).no hf2); clear hf2)
        | (refine wpList_allocRow rfl rfl (zeroSec _) ?_)
        | (refine wpList_allocRow rfl rfl (rzeroSec _) ?_)
        | (refine wpList_storeNew (x := .tmp 6) rfl rfl rfl rfl (heap_alloc_new _ _) HC.out.info hz.out HC.out.one (World.setRow_alloc_new _ _ _ _) ?_)
        | (refine wpList_storeNew (x := .tmp 8) rfl rfl rfl rfl (heap_alloc_new _ _) HC.out.rinfo hz.out HC.out.one (World.setRow_alloc_new _ _ _ _) ?_)
        | (refine wpList_loadVar (x := .tmp 6) rfl rfl rfl (var_row (alloc_keep HB.out _) sectorU HC.out.info) ?_)
        | (refine wpList_loadVar (x := .tmp 8) rfl rfl rfl (var_row (heap_alloc_new _ _) rsectorU HC.out.rinfo) ?_)
        | (refine wpList_ok rfl (run_cmp_ints rfl rfl rfl noGuardA (neqArr HC.out HC.out (r := true) (by simp) _)) ?_))
      go_roundw
      case rel => exact ⟨k + 1, by omega, by rw [HI.out]; go_num, (HF2.out.alloc _)⟩
      case measure => rw [HI.out]; simp [intOf]; omega
    · obtain rfl : k = n + 2 := by omega
      have q1 := HP.out wr HF.out
      go_wp2_with (first
        | (go_at_call 26; refine rsize_ok q0 ?_)
        | (go_at_call 23; refine size_ok q1 ?_)
        | (go_at_call 18; refine two_loose T0.out ?_; intro v1 w1 hr1 hf1; have HR1 := hid hr1; have HF1 := hid hf1; clear hr1 hf1)
        | (go_at_call 29; refine two_looseR (T0.out.no HF1.out) ?_; intro v2 w2 hr2 hf2; have HR2 := hid hr2; have HF2 := hid hf2; clear hr2 hf2)
        | (go_at_call 28; refine sameInts_ok (HR1.out.no HF2.out) (keys_eq HK.out HR2.out) (by have := T0.out.few; omega) ?_; intro w3 hf3; have HF3 := hid hf3; clear hf3))
      exact HR.out _ (((HF.out.no HF1.out).no HF2.out).no HF3.out)

end Go.Proofs.Ytoffkaojhcnddaa
