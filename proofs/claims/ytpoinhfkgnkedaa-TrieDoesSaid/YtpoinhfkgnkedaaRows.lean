/-
  No cell of these rows narrows 'for every input' (looked for: loops, veiled, ifaces, maps, wideKeys, modest, calm, conditions, laid).
  DERIVED. THE GIVEN ROWS OF THIS SEAT. 4 by the template 'for every input the law returns true; each argument reads behind the call as it read before'; 0 by the template 'total and deterministic' (their statements: YtpoinhfkgnkedaaTotals.lean).
  GIVEN WITH THE SEED: the statements are not yours to turn. If you find one false, say at which input.
  Laid BY PROGRAM, IN A SANDBOX (cutbox-rows.mjs): the forced cells as the released guide's own fill.sh prints them over the translation b2af445a5402b818… (all of the seat's roots in one cut). By AI agents, Wed Nov 11 2026. No macro, syntax, notation, axiom, sorry.
-/
import Derived.Test.YtpoinhfkgnkedaaChecked
import GoSem.Claim
import GoSem.ClaimJoined
import GoSem.ClaimMapViews
import Derived.JoinedTies
import Derived.KernelRfl
namespace Go.Proofs.Ytpoinhfkgnkedaa
/- THE CELL 'sum', in the pinned program and in every row, IS THE sha256 OF THE DUMP (.gsa) THAT YtpoinhfkgnkedaaProg.lean LOADS. Nothing in Lean hashes anything: it is a label: what it is worth is what the hold of that sum in a sandbox is worth. -/
noncomputable def Try.pinned : Pinned := { name := "ytpoinhfkgnkedaa", sum := "b2af445a5402b81812b7b4dfe998ff2b32e45c78615279b785607e31788729ab", checked := Try.checked }
namespace Rows
def none {H : Type} : Left H := { results := [], args := [] }

/-- 'hatchwaylaw13.TrieLongest': WHATEVER THE INPUT: true; the input reads as it did. -/
def trieLongestSpec : ChangeSpec := { name := "trieLongest", fn := fun _ => fun
  | [d1, d2, d3] => { results := [.lit (.bool true)], args := [d1, d2, d3] }
  | _ => none }
def trieLongestRow : OpenClaim := { program := "ytpoinhfkgnkedaa", sum := "b2af445a5402b81812b7b4dfe998ff2b32e45c78615279b785607e31788729ab", func := "hatchway/hatchwaylaw13.TrieLongest", spec := "trieLongest", inPlace := ["internal/bytealg.Compare"], unfollowed := true, recurses := true, apart := false }
def TrieLongestSaid : Prop := trieLongestRow.holds Try.pinned (OpenSpec.ofChange trieLongestSpec)

/-- ITS FALSE NEIGHBOUR: 'it returns false'. Refute it at one input. -/
def trieLongestWrong : ChangeSpec := { name := "trieLongest", fn := fun _ => fun
  | [d1, d2, d3] => { results := [.lit (.bool false)], args := [d1, d2, d3] }
  | _ => none }
def TrieLongestWrongFalsely : Prop := trieLongestRow.holds Try.pinned (OpenSpec.ofChange trieLongestWrong)

/-- 'hatchwaylaw13.TriePlaces': WHATEVER THE INPUT: true; the input reads as it did. -/
def triePlacesSpec : ChangeSpec := { name := "triePlaces", fn := fun _ => fun
  | [d1, d2, d3, d4, d5] => { results := [.lit (.bool true)], args := [d1, d2, d3, d4, d5] }
  | _ => none }
def triePlacesRow : OpenClaim := { program := "ytpoinhfkgnkedaa", sum := "b2af445a5402b81812b7b4dfe998ff2b32e45c78615279b785607e31788729ab", func := "hatchway/hatchwaylaw13.TriePlaces", spec := "triePlaces", inPlace := ["internal/bytealg.Compare"], unfollowed := true, recurses := true, apart := false }
def TriePlacesSaid : Prop := triePlacesRow.holds Try.pinned (OpenSpec.ofChange triePlacesSpec)

/-- ITS FALSE NEIGHBOUR: 'it returns false'. Refute it at one input. -/
def triePlacesWrong : ChangeSpec := { name := "triePlaces", fn := fun _ => fun
  | [d1, d2, d3, d4, d5] => { results := [.lit (.bool false)], args := [d1, d2, d3, d4, d5] }
  | _ => none }
def TriePlacesWrongFalsely : Prop := triePlacesRow.holds Try.pinned (OpenSpec.ofChange triePlacesWrong)

/-- 'hatchwaylaw13.TrieDoes': WHATEVER THE INPUT: true; the input reads as it did. -/
def trieDoesSpec : ChangeSpec := { name := "trieDoes", fn := fun _ => fun
  | [d1, d2] => { results := [.lit (.bool true)], args := [d1, d2] }
  | _ => none }
def trieDoesRow : OpenClaim := { program := "ytpoinhfkgnkedaa", sum := "b2af445a5402b81812b7b4dfe998ff2b32e45c78615279b785607e31788729ab", func := "hatchway/hatchwaylaw13.TrieDoes", spec := "trieDoes", inPlace := ["internal/bytealg.Compare"], unfollowed := true, recurses := true, apart := false }
def TrieDoesSaid : Prop := trieDoesRow.holds Try.pinned (OpenSpec.ofChange trieDoesSpec)

/-- ITS FALSE NEIGHBOUR: 'it returns false'. Refute it at one input. -/
def trieDoesWrong : ChangeSpec := { name := "trieDoes", fn := fun _ => fun
  | [d1, d2] => { results := [.lit (.bool false)], args := [d1, d2] }
  | _ => none }
def TrieDoesWrongFalsely : Prop := trieDoesRow.holds Try.pinned (OpenSpec.ofChange trieDoesWrong)

/-- 'hatchwaylaw13.TrieNone': WHATEVER THE INPUT: true; the input reads as it did. -/
def trieNoneSpec : ChangeSpec := { name := "trieNone", fn := fun _ => fun
  | [d1, d2] => { results := [.lit (.bool true)], args := [d1, d2] }
  | _ => none }
def trieNoneRow : OpenClaim := { program := "ytpoinhfkgnkedaa", sum := "b2af445a5402b81812b7b4dfe998ff2b32e45c78615279b785607e31788729ab", func := "hatchway/hatchwaylaw13.TrieNone", spec := "trieNone", inPlace := ["internal/bytealg.Compare"], unfollowed := true, recurses := true, apart := false }
def TrieNoneSaid : Prop := trieNoneRow.holds Try.pinned (OpenSpec.ofChange trieNoneSpec)

/-- ITS FALSE NEIGHBOUR: 'it returns false'. Refute it at one input. -/
def trieNoneWrong : ChangeSpec := { name := "trieNone", fn := fun _ => fun
  | [d1, d2] => { results := [.lit (.bool false)], args := [d1, d2] }
  | _ => none }
def TrieNoneWrongFalsely : Prop := trieNoneRow.holds Try.pinned (OpenSpec.ofChange trieNoneWrong)

/- THE SECOND FORM. 'bulk': how many values and letters a reading holds, each counted each time it is reached (what is shared counts as often as it is met; a slice's spare places count too). A statement '..UptoSaid' is the law's where the arguments, and the package variables that the reading takes, are together of bulk at most 1048576: NARROWER than '..Said'. Prove '..Said' where nothing that the law and all that it calls make is longer than what came in: it says more and counts as full. Else prove '..UptoSaid'. A law counts once. -/
mutual
def uptoBulk {H : Type} : DataW H → Nat
  | .lit (.string bytes) => bytes.length + 1
  | .lit _ => 1
  | .nil => 1
  | .ptr d => uptoBulk d + 1
  | .slice elems spare => uptoBulkAll elems + uptoBulkAll spare + 1
  | .agg parts => uptoBulkAll parts + 1
  | .iface _ d => uptoBulk d + 1
  | .map entries => uptoBulkEntries entries + 1
  | .held _ => 1
def uptoBulkAll {H : Type} : List (DataW H) → Nat
  | [] => 0
  | d :: r => uptoBulk d + uptoBulkAll r
def uptoBulkEntries {H : Type} : List (Lit × DataW H) → Nat
  | [] => 0
  | x :: r => uptoBulkEntry x + uptoBulkEntries r
def uptoBulkEntry {H : Type} : Lit × DataW H → Nat
  | (.string bytes, d) => bytes.length + uptoBulk d + 1
  | (_, d) => uptoBulk d + 1
 end
def uptoSmall : (H : Type) → List (DataW H) → Bool := fun _ ds => decide (uptoBulkAll ds ≤ 1048576)
def OpenSpec.upto (s : _root_.Go.ChangeSpec) : _root_.Go.OpenSpec := { _root_.Go.OpenSpec.ofChange s with cond := some uptoSmall }

/-- 'hatchwaylaw13.TrieLongest', WHERE WHAT IT READS IS OF BULK AT MOST 1048576: true; the input reads as it did. -/
def trieLongestUptoRow : OpenClaim := { program := "ytpoinhfkgnkedaa", sum := "b2af445a5402b81812b7b4dfe998ff2b32e45c78615279b785607e31788729ab", func := "hatchway/hatchwaylaw13.TrieLongest", spec := "trieLongest", inPlace := ["internal/bytealg.Compare"], unfollowed := true, recurses := true, apart := false, narrowed := true }
def TrieLongestUptoSaid : Prop := trieLongestUptoRow.holds Try.pinned (OpenSpec.upto trieLongestSpec)

/-- 'hatchwaylaw13.TriePlaces', WHERE WHAT IT READS IS OF BULK AT MOST 1048576: true; the input reads as it did. -/
def triePlacesUptoRow : OpenClaim := { program := "ytpoinhfkgnkedaa", sum := "b2af445a5402b81812b7b4dfe998ff2b32e45c78615279b785607e31788729ab", func := "hatchway/hatchwaylaw13.TriePlaces", spec := "triePlaces", inPlace := ["internal/bytealg.Compare"], unfollowed := true, recurses := true, apart := false, narrowed := true }
def TriePlacesUptoSaid : Prop := triePlacesUptoRow.holds Try.pinned (OpenSpec.upto triePlacesSpec)

/-- 'hatchwaylaw13.TrieDoes', WHERE WHAT IT READS IS OF BULK AT MOST 1048576: true; the input reads as it did. -/
def trieDoesUptoRow : OpenClaim := { program := "ytpoinhfkgnkedaa", sum := "b2af445a5402b81812b7b4dfe998ff2b32e45c78615279b785607e31788729ab", func := "hatchway/hatchwaylaw13.TrieDoes", spec := "trieDoes", inPlace := ["internal/bytealg.Compare"], unfollowed := true, recurses := true, apart := false, narrowed := true }
def TrieDoesUptoSaid : Prop := trieDoesUptoRow.holds Try.pinned (OpenSpec.upto trieDoesSpec)

/-- 'hatchwaylaw13.TrieNone', WHERE WHAT IT READS IS OF BULK AT MOST 1048576: true; the input reads as it did. -/
def trieNoneUptoRow : OpenClaim := { program := "ytpoinhfkgnkedaa", sum := "b2af445a5402b81812b7b4dfe998ff2b32e45c78615279b785607e31788729ab", func := "hatchway/hatchwaylaw13.TrieNone", spec := "trieNone", inPlace := ["internal/bytealg.Compare"], unfollowed := true, recurses := true, apart := false, narrowed := true }
def TrieNoneUptoSaid : Prop := trieNoneUptoRow.holds Try.pinned (OpenSpec.upto trieNoneSpec)

end Rows
end Go.Proofs.Ytpoinhfkgnkedaa
