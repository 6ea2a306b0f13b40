/-
  No cell of these rows narrows 'for every input' (looked for: loops, veiled, ifaces, maps, wideKeys, modest, calm, conditions, laid).
  DERIVED. THE GIVEN ROWS OF THIS SEAT. 8 by the template 'for every input the law returns true; each argument reads behind the call as it read before'; 0 by the template 'total and deterministic' (their statements: YtokhbjllgaaogaaTotals.lean).
  GIVEN WITH THE SEED: the statements are not yours to turn. If you find one false, say at which input.
  Laid BY PROGRAM, IN A SANDBOX (cutbox-rows.mjs): the forced cells as the released guide's own fill.sh prints them over the translation 55982e7f82beca87… (all of the seat's roots in one cut). By AI agents, Wed Nov 11 2026. No macro, syntax, notation, axiom, sorry.
-/
import Derived.Test.YtokhbjllgaaogaaChecked
import GoSem.Claim
import GoSem.ClaimJoined
import GoSem.ClaimMapViews
import Derived.JoinedTies
import Derived.KernelRfl
namespace Go.Proofs.Ytokhbjllgaaogaa
/- THE CELL 'sum', in the pinned program and in every row, IS THE sha256 OF THE DUMP (.gsa) THAT YtokhbjllgaaogaaProg.lean LOADS. Nothing in Lean hashes anything: it is a label: what it is worth is what the hold of that sum in a sandbox is worth. -/
noncomputable def Try.pinned : Pinned := { name := "ytokhbjllgaaogaa", sum := "55982e7f82beca873cfc47b80e4980ef9a79de7934a557d185857f3e2e71e39e", checked := Try.checked }
namespace Rows
def none {H : Type} : Left H := { results := [], args := [] }

/-- 'backwaterlaw09.CacheTurns': WHATEVER THE INPUT: true; the input reads as it did. -/
def cacheTurnsSpec : ChangeSpec := { name := "cacheTurns", fn := fun _ => fun
  | [d1, d2] => { results := [.lit (.bool true)], args := [d1, d2] }
  | _ => none }
def cacheTurnsRow : OpenClaim := { program := "ytokhbjllgaaogaa", sum := "55982e7f82beca873cfc47b80e4980ef9a79de7934a557d185857f3e2e71e39e", func := "backwater/backwaterlaw09.CacheTurns", spec := "cacheTurns", unfollowed := true, recurses := true, apart := false }
def CacheTurnsSaid : Prop := cacheTurnsRow.holds Try.pinned (OpenSpec.ofChange cacheTurnsSpec)

/-- ITS FALSE NEIGHBOUR: 'it returns false'. Refute it at one input. -/
def cacheTurnsWrong : ChangeSpec := { name := "cacheTurns", fn := fun _ => fun
  | [d1, d2] => { results := [.lit (.bool false)], args := [d1, d2] }
  | _ => none }
def CacheTurnsWrongFalsely : Prop := cacheTurnsRow.holds Try.pinned (OpenSpec.ofChange cacheTurnsWrong)

/-- 'backwaterlaw09.CacheFew': WHATEVER THE INPUT: true; the input reads as it did. -/
def cacheFewSpec : ChangeSpec := { name := "cacheFew", fn := fun _ => fun
  | [d1, d2, d3] => { results := [.lit (.bool true)], args := [d1, d2, d3] }
  | _ => none }
def cacheFewRow : OpenClaim := { program := "ytokhbjllgaaogaa", sum := "55982e7f82beca873cfc47b80e4980ef9a79de7934a557d185857f3e2e71e39e", func := "backwater/backwaterlaw09.CacheFew", spec := "cacheFew", unfollowed := true, recurses := true, apart := false }
def CacheFewSaid : Prop := cacheFewRow.holds Try.pinned (OpenSpec.ofChange cacheFewSpec)

/-- ITS FALSE NEIGHBOUR: 'it returns false'. Refute it at one input. -/
def cacheFewWrong : ChangeSpec := { name := "cacheFew", fn := fun _ => fun
  | [d1, d2, d3] => { results := [.lit (.bool false)], args := [d1, d2, d3] }
  | _ => none }
def CacheFewWrongFalsely : Prop := cacheFewRow.holds Try.pinned (OpenSpec.ofChange cacheFewWrong)

/-- 'backwaterlaw09.CacheDirty': WHATEVER THE INPUT: true; the input reads as it did. -/
def cacheDirtySpec : ChangeSpec := { name := "cacheDirty", fn := fun _ => fun
  | [d1, d2, d3] => { results := [.lit (.bool true)], args := [d1, d2, d3] }
  | _ => none }
def cacheDirtyRow : OpenClaim := { program := "ytokhbjllgaaogaa", sum := "55982e7f82beca873cfc47b80e4980ef9a79de7934a557d185857f3e2e71e39e", func := "backwater/backwaterlaw09.CacheDirty", spec := "cacheDirty", inPlace := ["maps.clone"], unfollowed := true, recurses := true, apart := false }
def CacheDirtySaid : Prop := cacheDirtyRow.holds Try.pinned (OpenSpec.ofChange cacheDirtySpec)

/-- ITS FALSE NEIGHBOUR: 'it returns false'. Refute it at one input. -/
def cacheDirtyWrong : ChangeSpec := { name := "cacheDirty", fn := fun _ => fun
  | [d1, d2, d3] => { results := [.lit (.bool false)], args := [d1, d2, d3] }
  | _ => none }
def CacheDirtyWrongFalsely : Prop := cacheDirtyRow.holds Try.pinned (OpenSpec.ofChange cacheDirtyWrong)

/-- 'backwaterlaw09.CacheDear': WHATEVER THE INPUT: true; the input reads as it did. -/
def cacheDearSpec : ChangeSpec := { name := "cacheDear", fn := fun _ => fun
  | [d1, d2, d3] => { results := [.lit (.bool true)], args := [d1, d2, d3] }
  | _ => none }
def cacheDearRow : OpenClaim := { program := "ytokhbjllgaaogaa", sum := "55982e7f82beca873cfc47b80e4980ef9a79de7934a557d185857f3e2e71e39e", func := "backwater/backwaterlaw09.CacheDear", spec := "cacheDear", inPlace := ["maps.clone"], unfollowed := true, recurses := true, apart := false }
def CacheDearSaid : Prop := cacheDearRow.holds Try.pinned (OpenSpec.ofChange cacheDearSpec)

/-- ITS FALSE NEIGHBOUR: 'it returns false'. Refute it at one input. -/
def cacheDearWrong : ChangeSpec := { name := "cacheDear", fn := fun _ => fun
  | [d1, d2, d3] => { results := [.lit (.bool false)], args := [d1, d2, d3] }
  | _ => none }
def CacheDearWrongFalsely : Prop := cacheDearRow.holds Try.pinned (OpenSpec.ofChange cacheDearWrong)

/-- 'backwaterlaw09.CacheWalks': WHATEVER THE INPUT: true; the input reads as it did. -/
def cacheWalksSpec : ChangeSpec := { name := "cacheWalks", fn := fun _ => fun
  | [d1, d2, d3] => { results := [.lit (.bool true)], args := [d1, d2, d3] }
  | _ => none }
def cacheWalksRow : OpenClaim := { program := "ytokhbjllgaaogaa", sum := "55982e7f82beca873cfc47b80e4980ef9a79de7934a557d185857f3e2e71e39e", func := "backwater/backwaterlaw09.CacheWalks", spec := "cacheWalks", unfollowed := true, recurses := true, apart := false }
def CacheWalksSaid : Prop := cacheWalksRow.holds Try.pinned (OpenSpec.ofChange cacheWalksSpec)

/-- ITS FALSE NEIGHBOUR: 'it returns false'. Refute it at one input. -/
def cacheWalksWrong : ChangeSpec := { name := "cacheWalks", fn := fun _ => fun
  | [d1, d2, d3] => { results := [.lit (.bool false)], args := [d1, d2, d3] }
  | _ => none }
def CacheWalksWrongFalsely : Prop := cacheWalksRow.holds Try.pinned (OpenSpec.ofChange cacheWalksWrong)

/-- 'backwaterlaw09.CachePlays': WHATEVER THE INPUT: true; the input reads as it did. -/
def cachePlaysSpec : ChangeSpec := { name := "cachePlays", fn := fun _ => fun
  | [d1, d2, d3] => { results := [.lit (.bool true)], args := [d1, d2, d3] }
  | _ => none }
def cachePlaysRow : OpenClaim := { program := "ytokhbjllgaaogaa", sum := "55982e7f82beca873cfc47b80e4980ef9a79de7934a557d185857f3e2e71e39e", func := "backwater/backwaterlaw09.CachePlays", spec := "cachePlays", unfollowed := true, recurses := true, apart := false }
def CachePlaysSaid : Prop := cachePlaysRow.holds Try.pinned (OpenSpec.ofChange cachePlaysSpec)

/-- ITS FALSE NEIGHBOUR: 'it returns false'. Refute it at one input. -/
def cachePlaysWrong : ChangeSpec := { name := "cachePlays", fn := fun _ => fun
  | [d1, d2, d3] => { results := [.lit (.bool false)], args := [d1, d2, d3] }
  | _ => none }
def CachePlaysWrongFalsely : Prop := cachePlaysRow.holds Try.pinned (OpenSpec.ofChange cachePlaysWrong)

/-- 'backwaterlaw09.CacheForks': WHATEVER THE INPUT: true; the input reads as it did. -/
def cacheForksSpec : ChangeSpec := { name := "cacheForks", fn := fun _ => fun
  | [d1, d2, d3] => { results := [.lit (.bool true)], args := [d1, d2, d3] }
  | _ => none }
def cacheForksRow : OpenClaim := { program := "ytokhbjllgaaogaa", sum := "55982e7f82beca873cfc47b80e4980ef9a79de7934a557d185857f3e2e71e39e", func := "backwater/backwaterlaw09.CacheForks", spec := "cacheForks", inPlace := ["maps.clone"], unfollowed := true, recurses := true, apart := false }
def CacheForksSaid : Prop := cacheForksRow.holds Try.pinned (OpenSpec.ofChange cacheForksSpec)

/-- ITS FALSE NEIGHBOUR: 'it returns false'. Refute it at one input. -/
def cacheForksWrong : ChangeSpec := { name := "cacheForks", fn := fun _ => fun
  | [d1, d2, d3] => { results := [.lit (.bool false)], args := [d1, d2, d3] }
  | _ => none }
def CacheForksWrongFalsely : Prop := cacheForksRow.holds Try.pinned (OpenSpec.ofChange cacheForksWrong)

/-- 'backwaterlaw09.CacheNone': WHATEVER THE INPUT: true; the input reads as it did. -/
def cacheNoneSpec : ChangeSpec := { name := "cacheNone", fn := fun _ => fun
  | [d1, d2] => { results := [.lit (.bool true)], args := [d1, d2] }
  | _ => none }
def cacheNoneRow : OpenClaim := { program := "ytokhbjllgaaogaa", sum := "55982e7f82beca873cfc47b80e4980ef9a79de7934a557d185857f3e2e71e39e", func := "backwater/backwaterlaw09.CacheNone", spec := "cacheNone", inPlace := ["maps.clone"], unfollowed := true, recurses := true, apart := false }
def CacheNoneSaid : Prop := cacheNoneRow.holds Try.pinned (OpenSpec.ofChange cacheNoneSpec)

/-- ITS FALSE NEIGHBOUR: 'it returns false'. Refute it at one input. -/
def cacheNoneWrong : ChangeSpec := { name := "cacheNone", fn := fun _ => fun
  | [d1, d2] => { results := [.lit (.bool false)], args := [d1, d2] }
  | _ => none }
def CacheNoneWrongFalsely : Prop := cacheNoneRow.holds Try.pinned (OpenSpec.ofChange cacheNoneWrong)

/- THE SECOND FORM. 'bulk': how many values and letters a reading holds, each counted each time it is reached (what is shared counts as often as it is met; a slice's spare places count too). A statement '..UptoSaid' is the law's where the arguments, and the package variables that the reading takes, are together of bulk at most 1048576: NARROWER than '..Said'. Prove '..Said' where nothing that the law and all that it calls make is longer than what came in: it says more and counts as full. Else prove '..UptoSaid'. A law counts once. -/
mutual
def uptoBulk {H : Type} : DataW H → Nat
  | .lit (.string bytes) => bytes.length + 1
  | .lit _ => 1
  | .nil => 1
  | .ptr d => uptoBulk d + 1
  | .slice elems spare => uptoBulkAll elems + uptoBulkAll spare + 1
  | .agg parts => uptoBulkAll parts + 1
  | .iface _ d => uptoBulk d + 1
  | .map entries => uptoBulkEntries entries + 1
  | .held _ => 1
def uptoBulkAll {H : Type} : List (DataW H) → Nat
  | [] => 0
  | d :: r => uptoBulk d + uptoBulkAll r
def uptoBulkEntries {H : Type} : List (Lit × DataW H) → Nat
  | [] => 0
  | x :: r => uptoBulkEntry x + uptoBulkEntries r
def uptoBulkEntry {H : Type} : Lit × DataW H → Nat
  | (.string bytes, d) => bytes.length + uptoBulk d + 1
  | (_, d) => uptoBulk d + 1
 end
def uptoSmall : (H : Type) → List (DataW H) → Bool := fun _ ds => decide (uptoBulkAll ds ≤ 1048576)
def OpenSpec.upto (s : _root_.Go.ChangeSpec) : _root_.Go.OpenSpec := { _root_.Go.OpenSpec.ofChange s with cond := some uptoSmall }

/-- 'backwaterlaw09.CacheTurns', WHERE WHAT IT READS IS OF BULK AT MOST 1048576: true; the input reads as it did. -/
def cacheTurnsUptoRow : OpenClaim := { program := "ytokhbjllgaaogaa", sum := "55982e7f82beca873cfc47b80e4980ef9a79de7934a557d185857f3e2e71e39e", func := "backwater/backwaterlaw09.CacheTurns", spec := "cacheTurns", unfollowed := true, recurses := true, apart := false, narrowed := true }
def CacheTurnsUptoSaid : Prop := cacheTurnsUptoRow.holds Try.pinned (OpenSpec.upto cacheTurnsSpec)

/-- 'backwaterlaw09.CacheFew', WHERE WHAT IT READS IS OF BULK AT MOST 1048576: true; the input reads as it did. -/
def cacheFewUptoRow : OpenClaim := { program := "ytokhbjllgaaogaa", sum := "55982e7f82beca873cfc47b80e4980ef9a79de7934a557d185857f3e2e71e39e", func := "backwater/backwaterlaw09.CacheFew", spec := "cacheFew", unfollowed := true, recurses := true, apart := false, narrowed := true }
def CacheFewUptoSaid : Prop := cacheFewUptoRow.holds Try.pinned (OpenSpec.upto cacheFewSpec)

/-- 'backwaterlaw09.CacheDirty', WHERE WHAT IT READS IS OF BULK AT MOST 1048576: true; the input reads as it did. -/
def cacheDirtyUptoRow : OpenClaim := { program := "ytokhbjllgaaogaa", sum := "55982e7f82beca873cfc47b80e4980ef9a79de7934a557d185857f3e2e71e39e", func := "backwater/backwaterlaw09.CacheDirty", spec := "cacheDirty", inPlace := ["maps.clone"], unfollowed := true, recurses := true, apart := false, narrowed := true }
def CacheDirtyUptoSaid : Prop := cacheDirtyUptoRow.holds Try.pinned (OpenSpec.upto cacheDirtySpec)

/-- 'backwaterlaw09.CacheDear', WHERE WHAT IT READS IS OF BULK AT MOST 1048576: true; the input reads as it did. -/
def cacheDearUptoRow : OpenClaim := { program := "ytokhbjllgaaogaa", sum := "55982e7f82beca873cfc47b80e4980ef9a79de7934a557d185857f3e2e71e39e", func := "backwater/backwaterlaw09.CacheDear", spec := "cacheDear", inPlace := ["maps.clone"], unfollowed := true, recurses := true, apart := false, narrowed := true }
def CacheDearUptoSaid : Prop := cacheDearUptoRow.holds Try.pinned (OpenSpec.upto cacheDearSpec)

/-- 'backwaterlaw09.CacheWalks', WHERE WHAT IT READS IS OF BULK AT MOST 1048576: true; the input reads as it did. -/
def cacheWalksUptoRow : OpenClaim := { program := "ytokhbjllgaaogaa", sum := "55982e7f82beca873cfc47b80e4980ef9a79de7934a557d185857f3e2e71e39e", func := "backwater/backwaterlaw09.CacheWalks", spec := "cacheWalks", unfollowed := true, recurses := true, apart := false, narrowed := true }
def CacheWalksUptoSaid : Prop := cacheWalksUptoRow.holds Try.pinned (OpenSpec.upto cacheWalksSpec)

/-- 'backwaterlaw09.CachePlays', WHERE WHAT IT READS IS OF BULK AT MOST 1048576: true; the input reads as it did. -/
def cachePlaysUptoRow : OpenClaim := { program := "ytokhbjllgaaogaa", sum := "55982e7f82beca873cfc47b80e4980ef9a79de7934a557d185857f3e2e71e39e", func := "backwater/backwaterlaw09.CachePlays", spec := "cachePlays", unfollowed := true, recurses := true, apart := false, narrowed := true }
def CachePlaysUptoSaid : Prop := cachePlaysUptoRow.holds Try.pinned (OpenSpec.upto cachePlaysSpec)

/-- 'backwaterlaw09.CacheForks', WHERE WHAT IT READS IS OF BULK AT MOST 1048576: true; the input reads as it did. -/
def cacheForksUptoRow : OpenClaim := { program := "ytokhbjllgaaogaa", sum := "55982e7f82beca873cfc47b80e4980ef9a79de7934a557d185857f3e2e71e39e", func := "backwater/backwaterlaw09.CacheForks", spec := "cacheForks", inPlace := ["maps.clone"], unfollowed := true, recurses := true, apart := false, narrowed := true }
def CacheForksUptoSaid : Prop := cacheForksUptoRow.holds Try.pinned (OpenSpec.upto cacheForksSpec)

/-- 'backwaterlaw09.CacheNone', WHERE WHAT IT READS IS OF BULK AT MOST 1048576: true; the input reads as it did. -/
def cacheNoneUptoRow : OpenClaim := { program := "ytokhbjllgaaogaa", sum := "55982e7f82beca873cfc47b80e4980ef9a79de7934a557d185857f3e2e71e39e", func := "backwater/backwaterlaw09.CacheNone", spec := "cacheNone", inPlace := ["maps.clone"], unfollowed := true, recurses := true, apart := false, narrowed := true }
def CacheNoneUptoSaid : Prop := cacheNoneUptoRow.holds Try.pinned (OpenSpec.upto cacheNoneSpec)

end Rows
end Go.Proofs.Ytokhbjllgaaogaa
