/- The law's helper live: the model's disk is alive: it says yes. No condition. -/
import Derived.Test.YtoffkaojhcnddaaLawB
namespace Go.Proofs.Ytoffkaojhcnddaa
set_option linter.unusedSimpArgs false
open Go.RowKit Go.Maps

theorem sec2 : (secOf 2)[5]? = some (.int .u8 2) := by kernel_rfl

theorem rows_new {w : World} {xs : List Int} {S : Nat → Prop} {n cap : Nat} (hn : xs.length = n) (hS : ¬ S w.heap.size) (e : TypeId) : RowsAt S (w.alloc (.cells (ints xs).toArray e)) (.slice (some ⟨w.heap.size, 0, none⟩) n cap) n 1 (ints xs) := by
  refine ⟨by simp [hn], some ⟨w.heap.size, 0, none⟩, cap, rfl, .inr ⟨w.heap.size, 0, rfl, hS, lt_of_heap (heap_alloc_new w _), fun j x hj => ?_⟩⟩
  rw [Nat.zero_add]
  exact cell_at (heap_alloc_new w _) (by simpa using hj)

theorem notS {w : World} {p n cap : Nat} {cs : Array Value} {l : List (Int × Array Value)} {bs bm : Nat} (H : DiskAt w p n cap cs l bs bm) : ¬ DiskS p bs bm w.heap.size := by
  have h1 := lt_of_heap H.head
  have h2 := lt_of_heap H.secs
  have h3 := H.buf.lt
  rintro (h | h | h) <;> omega
theorem upS {m p bs bm x : Nat} (hx : DiskS p bs bm x) (hp : m ≤ p) (hs : m ≤ bs) (hm : m ≤ bm) : m ≤ x := by
  rcases hx with h | h | h <;> omega

set_option maxHeartbeats 4000000 in
set_option maxRecDepth 100000 in
theorem live_ok {w : World} {R : Ending → World → Prop} (hR : ∀ w', Fr No w w' → R (.returned (.bool true)) w') :
    Calls Try.prog 10 #[] w R := by
  have HR := hid hR
  clear hR
  have HI2 := hid (secOf_is (x := 2) (by decide) (by decide))
  have hz : Hid (Z32.size = (secOf 2).size) := by show _ = _; rw [HI2.out.1]; exact Z32_is.1
  go_enter Try.func10, Try.ntmps10
  go_wp2_with (first
    | (go_at_call 24; refine new_ok (n := 3) (by decide) (by decide) ?_; intro w1 p cap cs bs bm hd _ hp hs hm hf; have HD := hid hd; have HF := hid hf; have HP := hid hp; have HS := hid hs; have HM := hid hm; clear hd hf hp hs hm)
    | (go_at_call 13; refine sector_ok (by decide) (by decide) ?_; intro w1 hf; have HD' := hid (HD.out.no hf); have HF' := hid (HF.out.no hf); clear HD HF hf; have HD := HD'; have HF := HF'; clear HD' HF')
    | (go_at_call 12; refine write_ok HD.out (by decide) (by decide) (secOf_is (by decide) (by decide)) ?_; intro w1 hd hf; have HD' := hid hd; have HF' := hid (HF.out.trans hf (fun x hx => .inr (by rw [hx]; exact HM.out))); clear HD HF hf hd; have HD := HD'; have HF := HF'; clear HD' HF')
    | (go_at_call 18; rw [show aput (aput [] 0 (secOf 1)) 0 (secOf 2) = [(0, secOf 2)] by simp [aput]] at HD; refine loose_ok HD.out ?_; intro v w1 hr hf; obtain ⟨_, la, lc, rfl, _⟩ := hr No (fun _ _ h => h); have HD' := hid (HD.out.no hf); have HF' := hid (HF.out.no hf); clear HD HF hf hr; have HD := HD'; have HF := HF'; clear HD' HF'; simp only [List.length_singleton])
    | (go_at_call 19; refine crash_ok (xs := [0]) (HD.out.no ((Fr.refl No _).alloc _)) (by decide) (rows_new (xs := [0]) rfl (notS HD.out) _) ?_; intro w2 cs' hs hd hf; have H0 : Hid (sec cs' 0 = secOf 2) := (hs 0 (by decide)).trans (by simp [aget]); have HD' := hid hd; have HF' := hid ((HF.out.alloc _).trans hf (fun x hx => .inr (upS hx HP.out HS.out HM.out))); clear HD HF hf hd hs; have HD := HD'; have HF := HF'; clear HD' HF')
    | (go_at_call 14; refine read_none (i := 0) HD.out (by decide) rfl ?_; rw [H0.out]; intro w3 hf; have HD' := hid (HD.out.no hf); have HF' := hid (HF.out.no hf); clear HD HF hf; have HD := HD'; have HF := HF'; clear HD' HF')
    | (refine wpList_allocRow rfl rfl (zeroSec _) ?_)
    | (refine wpList_storeNew (x := .tmp 4) rfl rfl rfl rfl (heap_alloc_new _ _) HI2.out.info hz.out HI2.out.one (World.setRow_alloc_new _ _ _ _) ?_; have q5 : (w3.alloc (.cells (secOf 2) 36)).cell? ⟨w3.heap.size, 5, none⟩ = some (.int .u8 2) := cell_at (heap_alloc_new _ _) sec2)
    | (go_at_call 23; refine size_ok (cell_at (o := 0) (HD.out.no ((Fr.refl No _).alloc _)).head rfl) ?_))
  exact HR.out _ (HF.out.alloc _)

end Go.Proofs.Ytoffkaojhcnddaa
