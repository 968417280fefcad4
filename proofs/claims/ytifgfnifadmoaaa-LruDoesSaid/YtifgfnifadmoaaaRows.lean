/-
  No cell of these rows narrows 'for every input' (looked for: loops, veiled, ifaces, maps, wideKeys, modest, calm, conditions, laid).
  DERIVED. THE GIVEN ROWS OF THIS SEAT. 4 by the template 'for every input the law returns true; each argument reads behind the call as it read before'; 0 by the template 'total and deterministic' (their statements: YtifgfnifadmoaaaTotals.lean).
  GIVEN WITH THE SEED: the statements are not yours to turn. If you find one false, say at which input.
  Laid BY PROGRAM, IN A SANDBOX (cutbox-rows.mjs): the forced cells as the released guide's own fill.sh prints them over the translation b3b9bacbc62ac5fb… (all of the seat's roots in one cut). By AI agents, Wed Nov 11 2026. No macro, syntax, notation, axiom, sorry.
-/
import Derived.Test.YtifgfnifadmoaaaChecked
import GoSem.Claim
import GoSem.ClaimJoined
import GoSem.ClaimMapViews
import Derived.JoinedTies
import Derived.KernelRfl
namespace Go.Proofs.Ytifgfnifadmoaaa
/- THE CELL 'sum', in the pinned program and in every row, IS THE sha256 OF THE DUMP (.gsa) THAT YtifgfnifadmoaaaProg.lean LOADS. Nothing in Lean hashes anything: it is a label: what it is worth is what the hold of that sum in a sandbox is worth. -/
noncomputable def Try.pinned : Pinned := { name := "ytifgfnifadmoaaa", sum := "b3b9bacbc62ac5fb5960f77498e4a4c0713748b37ba9d836bc3947c6f1493f3f", checked := Try.checked }
namespace Rows
def none {H : Type} : Left H := { results := [], args := [] }

/-- 'hatchwaylaw12.LruPlaces': WHATEVER THE INPUT: true; the input reads as it did. -/
def lruPlacesSpec : ChangeSpec := { name := "lruPlaces", fn := fun _ => fun
  | [d1, d2, d3, d4] => { results := [.lit (.bool true)], args := [d1, d2, d3, d4] }
  | _ => none }
def lruPlacesRow : OpenClaim := { program := "ytifgfnifadmoaaa", sum := "b3b9bacbc62ac5fb5960f77498e4a4c0713748b37ba9d836bc3947c6f1493f3f", func := "hatchway/hatchwaylaw12.LruPlaces", spec := "lruPlaces", unfollowed := true, recurses := true, apart := false }
def LruPlacesSaid : Prop := lruPlacesRow.holds Try.pinned (OpenSpec.ofChange lruPlacesSpec)

/-- ITS FALSE NEIGHBOUR: 'it returns false'. Refute it at one input. -/
def lruPlacesWrong : ChangeSpec := { name := "lruPlaces", fn := fun _ => fun
  | [d1, d2, d3, d4] => { results := [.lit (.bool false)], args := [d1, d2, d3, d4] }
  | _ => none }
def LruPlacesWrongFalsely : Prop := lruPlacesRow.holds Try.pinned (OpenSpec.ofChange lruPlacesWrong)

/-- 'hatchwaylaw12.LruLast': WHATEVER THE INPUT: true; the input reads as it did. -/
def lruLastSpec : ChangeSpec := { name := "lruLast", fn := fun _ => fun
  | [d1, d2] => { results := [.lit (.bool true)], args := [d1, d2] }
  | _ => none }
def lruLastRow : OpenClaim := { program := "ytifgfnifadmoaaa", sum := "b3b9bacbc62ac5fb5960f77498e4a4c0713748b37ba9d836bc3947c6f1493f3f", func := "hatchway/hatchwaylaw12.LruLast", spec := "lruLast", unfollowed := true, recurses := true, apart := false }
def LruLastSaid : Prop := lruLastRow.holds Try.pinned (OpenSpec.ofChange lruLastSpec)

/-- ITS FALSE NEIGHBOUR: 'it returns false'. Refute it at one input. -/
def lruLastWrong : ChangeSpec := { name := "lruLast", fn := fun _ => fun
  | [d1, d2] => { results := [.lit (.bool false)], args := [d1, d2] }
  | _ => none }
def LruLastWrongFalsely : Prop := lruLastRow.holds Try.pinned (OpenSpec.ofChange lruLastWrong)

/-- 'hatchwaylaw12.LruDoes': WHATEVER THE INPUT: true; the input reads as it did. -/
def lruDoesSpec : ChangeSpec := { name := "lruDoes", fn := fun _ => fun
  | [d1, d2] => { results := [.lit (.bool true)], args := [d1, d2] }
  | _ => none }
def lruDoesRow : OpenClaim := { program := "ytifgfnifadmoaaa", sum := "b3b9bacbc62ac5fb5960f77498e4a4c0713748b37ba9d836bc3947c6f1493f3f", func := "hatchway/hatchwaylaw12.LruDoes", spec := "lruDoes", unfollowed := true, recurses := true, apart := false }
def LruDoesSaid : Prop := lruDoesRow.holds Try.pinned (OpenSpec.ofChange lruDoesSpec)

/-- ITS FALSE NEIGHBOUR: 'it returns false'. Refute it at one input. -/
def lruDoesWrong : ChangeSpec := { name := "lruDoes", fn := fun _ => fun
  | [d1, d2] => { results := [.lit (.bool false)], args := [d1, d2] }
  | _ => none }
def LruDoesWrongFalsely : Prop := lruDoesRow.holds Try.pinned (OpenSpec.ofChange lruDoesWrong)

/-- 'hatchwaylaw12.LruNone': WHATEVER THE INPUT: true; the input reads as it did. -/
def lruNoneSpec : ChangeSpec := { name := "lruNone", fn := fun _ => fun
  | [d1, d2] => { results := [.lit (.bool true)], args := [d1, d2] }
  | _ => none }
def lruNoneRow : OpenClaim := { program := "ytifgfnifadmoaaa", sum := "b3b9bacbc62ac5fb5960f77498e4a4c0713748b37ba9d836bc3947c6f1493f3f", func := "hatchway/hatchwaylaw12.LruNone", spec := "lruNone", unfollowed := true, recurses := true, apart := false }
def LruNoneSaid : Prop := lruNoneRow.holds Try.pinned (OpenSpec.ofChange lruNoneSpec)

/-- ITS FALSE NEIGHBOUR: 'it returns false'. Refute it at one input. -/
def lruNoneWrong : ChangeSpec := { name := "lruNone", fn := fun _ => fun
  | [d1, d2] => { results := [.lit (.bool false)], args := [d1, d2] }
  | _ => none }
def LruNoneWrongFalsely : Prop := lruNoneRow.holds Try.pinned (OpenSpec.ofChange lruNoneWrong)

/- THE SECOND FORM. 'bulk': how many values and letters a reading holds, each counted each time it is reached (what is shared counts as often as it is met; a slice's spare places count too). A statement '..UptoSaid' is the law's where the arguments, and the package variables that the reading takes, are together of bulk at most 1048576: NARROWER than '..Said'. Prove '..Said' where nothing that the law and all that it calls make is longer than what came in: it says more and counts as full. Else prove '..UptoSaid'. A law counts once. -/
mutual
def uptoBulk {H : Type} : DataW H → Nat
  | .lit (.string bytes) => bytes.length + 1
  | .lit _ => 1
  | .nil => 1
  | .ptr d => uptoBulk d + 1
  | .slice elems spare => uptoBulkAll elems + uptoBulkAll spare + 1
  | .agg parts => uptoBulkAll parts + 1
  | .iface _ d => uptoBulk d + 1
  | .map entries => uptoBulkEntries entries + 1
  | .held _ => 1
def uptoBulkAll {H : Type} : List (DataW H) → Nat
  | [] => 0
  | d :: r => uptoBulk d + uptoBulkAll r
def uptoBulkEntries {H : Type} : List (Lit × DataW H) → Nat
  | [] => 0
  | x :: r => uptoBulkEntry x + uptoBulkEntries r
def uptoBulkEntry {H : Type} : Lit × DataW H → Nat
  | (.string bytes, d) => bytes.length + uptoBulk d + 1
  | (_, d) => uptoBulk d + 1
 end
def uptoSmall : (H : Type) → List (DataW H) → Bool := fun _ ds => decide (uptoBulkAll ds ≤ 1048576)
def OpenSpec.upto (s : _root_.Go.ChangeSpec) : _root_.Go.OpenSpec := { _root_.Go.OpenSpec.ofChange s with cond := some uptoSmall }

/-- 'hatchwaylaw12.LruPlaces', WHERE WHAT IT READS IS OF BULK AT MOST 1048576: true; the input reads as it did. -/
def lruPlacesUptoRow : OpenClaim := { program := "ytifgfnifadmoaaa", sum := "b3b9bacbc62ac5fb5960f77498e4a4c0713748b37ba9d836bc3947c6f1493f3f", func := "hatchway/hatchwaylaw12.LruPlaces", spec := "lruPlaces", unfollowed := true, recurses := true, apart := false, narrowed := true }
def LruPlacesUptoSaid : Prop := lruPlacesUptoRow.holds Try.pinned (OpenSpec.upto lruPlacesSpec)

/-- 'hatchwaylaw12.LruLast', WHERE WHAT IT READS IS OF BULK AT MOST 1048576: true; the input reads as it did. -/
def lruLastUptoRow : OpenClaim := { program := "ytifgfnifadmoaaa", sum := "b3b9bacbc62ac5fb5960f77498e4a4c0713748b37ba9d836bc3947c6f1493f3f", func := "hatchway/hatchwaylaw12.LruLast", spec := "lruLast", unfollowed := true, recurses := true, apart := false, narrowed := true }
def LruLastUptoSaid : Prop := lruLastUptoRow.holds Try.pinned (OpenSpec.upto lruLastSpec)

/-- 'hatchwaylaw12.LruDoes', WHERE WHAT IT READS IS OF BULK AT MOST 1048576: true; the input reads as it did. -/
def lruDoesUptoRow : OpenClaim := { program := "ytifgfnifadmoaaa", sum := "b3b9bacbc62ac5fb5960f77498e4a4c0713748b37ba9d836bc3947c6f1493f3f", func := "hatchway/hatchwaylaw12.LruDoes", spec := "lruDoes", unfollowed := true, recurses := true, apart := false, narrowed := true }
def LruDoesUptoSaid : Prop := lruDoesUptoRow.holds Try.pinned (OpenSpec.upto lruDoesSpec)

/-- 'hatchwaylaw12.LruNone', WHERE WHAT IT READS IS OF BULK AT MOST 1048576: true; the input reads as it did. -/
def lruNoneUptoRow : OpenClaim := { program := "ytifgfnifadmoaaa", sum := "b3b9bacbc62ac5fb5960f77498e4a4c0713748b37ba9d836bc3947c6f1493f3f", func := "hatchway/hatchwaylaw12.LruNone", spec := "lruNone", unfollowed := true, recurses := true, apart := false, narrowed := true }
def LruNoneUptoSaid : Prop := lruNoneUptoRow.holds Try.pinned (OpenSpec.upto lruNoneSpec)

end Rows
end Go.Proofs.Ytifgfnifadmoaaa
