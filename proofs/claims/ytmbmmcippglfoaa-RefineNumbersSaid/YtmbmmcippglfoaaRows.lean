/-
  No cell of these rows narrows 'for every input' (looked for: loops, veiled, ifaces, maps, wideKeys, modest, calm, conditions, laid).
  DERIVED. THE GIVEN ROWS OF THIS SEAT. 4 by the template 'for every input the law returns true; each argument reads behind the call as it read before'; 0 by the template 'total and deterministic' (their statements: YtmbmmcippglfoaaTotals.lean).
  GIVEN WITH THE SEED: the statements are not yours to turn. If you find one false, say at which input.
  Laid BY PROGRAM, IN A SANDBOX (cutbox-rows.mjs): the forced cells as the released guide's own fill.sh prints them over the translation e597ae1b06810bf5… (all of the seat's roots in one cut). By AI agents, Wed Nov 11 2026. No macro, syntax, notation, axiom, sorry.
-/
import Derived.Test.YtmbmmcippglfoaaChecked
import GoSem.Claim
import GoSem.ClaimJoined
import GoSem.ClaimMapViews
import Derived.JoinedTies
import Derived.KernelRfl
namespace Go.Proofs.Ytmbmmcippglfoaa
/- THE CELL 'sum', in the pinned program and in every row, IS THE sha256 OF THE DUMP (.gsa) THAT YtmbmmcippglfoaaProg.lean LOADS. Nothing in Lean hashes anything: it is a label: what it is worth is what the hold of that sum in a sandbox is worth. -/
noncomputable def Try.pinned : Pinned := { name := "ytmbmmcippglfoaa", sum := "e597ae1b06810bf5b1722243abe5412ebede4bef0ec1d22de17518945e16bd32", checked := Try.checked }
namespace Rows
def none {H : Type} : Left H := { results := [], args := [] }

/-- 'hatchwaylaw21.RefineTells': WHATEVER THE INPUT: true; the input reads as it did. -/
def refineTellsSpec : ChangeSpec := { name := "refineTells", fn := fun _ => fun
  | [d1, d2, d3, d4, d5] => { results := [.lit (.bool true)], args := [d1, d2, d3, d4, d5] }
  | _ => none }
def refineTellsRow : OpenClaim := { program := "ytmbmmcippglfoaa", sum := "e597ae1b06810bf5b1722243abe5412ebede4bef0ec1d22de17518945e16bd32", func := "hatchway/hatchwaylaw21.RefineTells", spec := "refineTells", unfollowed := true, recurses := true, apart := false }
def RefineTellsSaid : Prop := refineTellsRow.holds Try.pinned (OpenSpec.ofChange refineTellsSpec)

/-- ITS FALSE NEIGHBOUR: 'it returns false'. Refute it at one input. -/
def refineTellsWrong : ChangeSpec := { name := "refineTells", fn := fun _ => fun
  | [d1, d2, d3, d4, d5] => { results := [.lit (.bool false)], args := [d1, d2, d3, d4, d5] }
  | _ => none }
def RefineTellsWrongFalsely : Prop := refineTellsRow.holds Try.pinned (OpenSpec.ofChange refineTellsWrong)

/-- 'hatchwaylaw21.RefineNumbers': WHATEVER THE INPUT: true; the input reads as it did. -/
def refineNumbersSpec : ChangeSpec := { name := "refineNumbers", fn := fun _ => fun
  | [] => { results := [.lit (.bool true)], args := [] }
  | _ => none }
def refineNumbersRow : OpenClaim := { program := "ytmbmmcippglfoaa", sum := "e597ae1b06810bf5b1722243abe5412ebede4bef0ec1d22de17518945e16bd32", func := "hatchway/hatchwaylaw21.RefineNumbers", spec := "refineNumbers", unfollowed := true, recurses := true, apart := false }
def RefineNumbersSaid : Prop := refineNumbersRow.holds Try.pinned (OpenSpec.ofChange refineNumbersSpec)

/-- ITS FALSE NEIGHBOUR: 'it returns false'. Refute it at one input. -/
def refineNumbersWrong : ChangeSpec := { name := "refineNumbers", fn := fun _ => fun
  | [] => { results := [.lit (.bool false)], args := [] }
  | _ => none }
def RefineNumbersWrongFalsely : Prop := refineNumbersRow.holds Try.pinned (OpenSpec.ofChange refineNumbersWrong)

/-- 'hatchwaylaw21.RefineTurns': WHATEVER THE INPUT: true; the input reads as it did. -/
def refineTurnsSpec : ChangeSpec := { name := "refineTurns", fn := fun _ => fun
  | [d1, d2, d3, d4, d5] => { results := [.lit (.bool true)], args := [d1, d2, d3, d4, d5] }
  | _ => none }
def refineTurnsRow : OpenClaim := { program := "ytmbmmcippglfoaa", sum := "e597ae1b06810bf5b1722243abe5412ebede4bef0ec1d22de17518945e16bd32", func := "hatchway/hatchwaylaw21.RefineTurns", spec := "refineTurns", unfollowed := true, recurses := true, apart := false }
def RefineTurnsSaid : Prop := refineTurnsRow.holds Try.pinned (OpenSpec.ofChange refineTurnsSpec)

/-- ITS FALSE NEIGHBOUR: 'it returns false'. Refute it at one input. -/
def refineTurnsWrong : ChangeSpec := { name := "refineTurns", fn := fun _ => fun
  | [d1, d2, d3, d4, d5] => { results := [.lit (.bool false)], args := [d1, d2, d3, d4, d5] }
  | _ => none }
def RefineTurnsWrongFalsely : Prop := refineTurnsRow.holds Try.pinned (OpenSpec.ofChange refineTurnsWrong)

/-- 'hatchwaylaw21.RefineSound': WHATEVER THE INPUT: true; the input reads as it did. -/
def refineSoundSpec : ChangeSpec := { name := "refineSound", fn := fun _ => fun
  | [d1, d2, d3, d4, d5] => { results := [.lit (.bool true)], args := [d1, d2, d3, d4, d5] }
  | _ => none }
def refineSoundRow : OpenClaim := { program := "ytmbmmcippglfoaa", sum := "e597ae1b06810bf5b1722243abe5412ebede4bef0ec1d22de17518945e16bd32", func := "hatchway/hatchwaylaw21.RefineSound", spec := "refineSound", unfollowed := true, recurses := true, apart := false }
def RefineSoundSaid : Prop := refineSoundRow.holds Try.pinned (OpenSpec.ofChange refineSoundSpec)

/-- ITS FALSE NEIGHBOUR: 'it returns false'. Refute it at one input. -/
def refineSoundWrong : ChangeSpec := { name := "refineSound", fn := fun _ => fun
  | [d1, d2, d3, d4, d5] => { results := [.lit (.bool false)], args := [d1, d2, d3, d4, d5] }
  | _ => none }
def RefineSoundWrongFalsely : Prop := refineSoundRow.holds Try.pinned (OpenSpec.ofChange refineSoundWrong)

/- THE SECOND FORM. 'bulk': how many values and letters a reading holds, each counted each time it is reached (what is shared counts as often as it is met; a slice's spare places count too). A statement '..UptoSaid' is the law's where the arguments, and the package variables that the reading takes, are together of bulk at most 1048576: NARROWER than '..Said'. Prove '..Said' where nothing that the law and all that it calls make is longer than what came in: it says more and counts as full. Else prove '..UptoSaid'. A law counts once. -/
mutual
def uptoBulk {H : Type} : DataW H → Nat
  | .lit (.string bytes) => bytes.length + 1
  | .lit _ => 1
  | .nil => 1
  | .ptr d => uptoBulk d + 1
  | .slice elems spare => uptoBulkAll elems + uptoBulkAll spare + 1
  | .agg parts => uptoBulkAll parts + 1
  | .iface _ d => uptoBulk d + 1
  | .map entries => uptoBulkEntries entries + 1
  | .held _ => 1
def uptoBulkAll {H : Type} : List (DataW H) → Nat
  | [] => 0
  | d :: r => uptoBulk d + uptoBulkAll r
def uptoBulkEntries {H : Type} : List (Lit × DataW H) → Nat
  | [] => 0
  | x :: r => uptoBulkEntry x + uptoBulkEntries r
def uptoBulkEntry {H : Type} : Lit × DataW H → Nat
  | (.string bytes, d) => bytes.length + uptoBulk d + 1
  | (_, d) => uptoBulk d + 1
 end
def uptoSmall : (H : Type) → List (DataW H) → Bool := fun _ ds => decide (uptoBulkAll ds ≤ 1048576)
def OpenSpec.upto (s : _root_.Go.ChangeSpec) : _root_.Go.OpenSpec := { _root_.Go.OpenSpec.ofChange s with cond := some uptoSmall }

/-- 'hatchwaylaw21.RefineTells', WHERE WHAT IT READS IS OF BULK AT MOST 1048576: true; the input reads as it did. -/
def refineTellsUptoRow : OpenClaim := { program := "ytmbmmcippglfoaa", sum := "e597ae1b06810bf5b1722243abe5412ebede4bef0ec1d22de17518945e16bd32", func := "hatchway/hatchwaylaw21.RefineTells", spec := "refineTells", unfollowed := true, recurses := true, apart := false, narrowed := true }
def RefineTellsUptoSaid : Prop := refineTellsUptoRow.holds Try.pinned (OpenSpec.upto refineTellsSpec)

/-- 'hatchwaylaw21.RefineNumbers', WHERE WHAT IT READS IS OF BULK AT MOST 1048576: true; the input reads as it did. -/
def refineNumbersUptoRow : OpenClaim := { program := "ytmbmmcippglfoaa", sum := "e597ae1b06810bf5b1722243abe5412ebede4bef0ec1d22de17518945e16bd32", func := "hatchway/hatchwaylaw21.RefineNumbers", spec := "refineNumbers", unfollowed := true, recurses := true, apart := false, narrowed := true }
def RefineNumbersUptoSaid : Prop := refineNumbersUptoRow.holds Try.pinned (OpenSpec.upto refineNumbersSpec)

/-- 'hatchwaylaw21.RefineTurns', WHERE WHAT IT READS IS OF BULK AT MOST 1048576: true; the input reads as it did. -/
def refineTurnsUptoRow : OpenClaim := { program := "ytmbmmcippglfoaa", sum := "e597ae1b06810bf5b1722243abe5412ebede4bef0ec1d22de17518945e16bd32", func := "hatchway/hatchwaylaw21.RefineTurns", spec := "refineTurns", unfollowed := true, recurses := true, apart := false, narrowed := true }
def RefineTurnsUptoSaid : Prop := refineTurnsUptoRow.holds Try.pinned (OpenSpec.upto refineTurnsSpec)

/-- 'hatchwaylaw21.RefineSound', WHERE WHAT IT READS IS OF BULK AT MOST 1048576: true; the input reads as it did. -/
def refineSoundUptoRow : OpenClaim := { program := "ytmbmmcippglfoaa", sum := "e597ae1b06810bf5b1722243abe5412ebede4bef0ec1d22de17518945e16bd32", func := "hatchway/hatchwaylaw21.RefineSound", spec := "refineSound", unfollowed := true, recurses := true, apart := false, narrowed := true }
def RefineSoundUptoSaid : Prop := refineSoundUptoRow.holds Try.pinned (OpenSpec.upto refineSoundSpec)

end Rows
end Go.Proofs.Ytmbmmcippglfoaa
