/-
  No cell of these rows narrows 'for every input' (looked for: loops, veiled, ifaces, maps, wideKeys, modest, calm, conditions, laid).
  DERIVED. THE GIVEN ROWS OF THIS SEAT. 6 by the template 'for every input the law returns true; each argument reads behind the call as it read before'; 0 by the template 'total and deterministic' (their statements: YtjbmlnkacfbheaaTotals.lean).
  GIVEN WITH THE SEED: the statements are not yours to turn. If you find one false, say at which input.
  Laid BY PROGRAM, IN A SANDBOX (cutbox-rows.mjs): the forced cells as the released guide's own fill.sh prints them over the translation d726d05d5eabcfc0… (all of the seat's roots in one cut). By AI agents, Wed Nov 11 2026. No macro, syntax, notation, axiom, sorry.
-/
import Derived.Test.YtjbmlnkacfbheaaChecked
import GoSem.Claim
import GoSem.ClaimJoined
import GoSem.ClaimMapViews
import Derived.JoinedTies
import Derived.KernelRfl
namespace Go.Proofs.Ytjbmlnkacfbheaa
/- THE CELL 'sum', in the pinned program and in every row, IS THE sha256 OF THE DUMP (.gsa) THAT YtjbmlnkacfbheaaProg.lean LOADS. Nothing in Lean hashes anything: it is a label: what it is worth is what the hold of that sum in a sandbox is worth. -/
noncomputable def Try.pinned : Pinned := { name := "ytjbmlnkacfbheaa", sum := "d726d05d5eabcfc04df541e48098450f2f03c8f14d5f23510cd5e9d454cda0cf", checked := Try.checked }
namespace Rows
def none {H : Type} : Left H := { results := [], args := [] }

/-- 'hatchwaylaw01.WordAlu': WHATEVER THE INPUT: true; the input reads as it did. -/
def wordAluSpec : ChangeSpec := { name := "wordAlu", fn := fun _ => fun
  | [d1, d2, d3, d4, d5] => { results := [.lit (.bool true)], args := [d1, d2, d3, d4, d5] }
  | _ => none }
def wordAluRow : OpenClaim := { program := "ytjbmlnkacfbheaa", sum := "d726d05d5eabcfc04df541e48098450f2f03c8f14d5f23510cd5e9d454cda0cf", func := "hatchway/hatchwaylaw01.WordAlu", spec := "wordAlu", unfollowed := true, recurses := true, plainKeys := false, apart := false }
def WordAluSaid : Prop := wordAluRow.holds Try.pinned (OpenSpec.ofChange wordAluSpec)

/-- ITS FALSE NEIGHBOUR: 'it returns false'. Refute it at one input. -/
def wordAluWrong : ChangeSpec := { name := "wordAlu", fn := fun _ => fun
  | [d1, d2, d3, d4, d5] => { results := [.lit (.bool false)], args := [d1, d2, d3, d4, d5] }
  | _ => none }
def WordAluWrongFalsely : Prop := wordAluRow.holds Try.pinned (OpenSpec.ofChange wordAluWrong)

/-- 'hatchwaylaw01.WordRing': WHATEVER THE INPUT: true; the input reads as it did. -/
def wordRingSpec : ChangeSpec := { name := "wordRing", fn := fun _ => fun
  | [d1, d2, d3, d4] => { results := [.lit (.bool true)], args := [d1, d2, d3, d4] }
  | _ => none }
def wordRingRow : OpenClaim := { program := "ytjbmlnkacfbheaa", sum := "d726d05d5eabcfc04df541e48098450f2f03c8f14d5f23510cd5e9d454cda0cf", func := "hatchway/hatchwaylaw01.WordRing", spec := "wordRing", unfollowed := true, recurses := true, plainKeys := false, apart := false }
def WordRingSaid : Prop := wordRingRow.holds Try.pinned (OpenSpec.ofChange wordRingSpec)

/-- ITS FALSE NEIGHBOUR: 'it returns false'. Refute it at one input. -/
def wordRingWrong : ChangeSpec := { name := "wordRing", fn := fun _ => fun
  | [d1, d2, d3, d4] => { results := [.lit (.bool false)], args := [d1, d2, d3, d4] }
  | _ => none }
def WordRingWrongFalsely : Prop := wordRingRow.holds Try.pinned (OpenSpec.ofChange wordRingWrong)

/-- 'hatchwaylaw01.WordBits': WHATEVER THE INPUT: true; the input reads as it did. -/
def wordBitsSpec : ChangeSpec := { name := "wordBits", fn := fun _ => fun
  | [d1, d2, d3, d4] => { results := [.lit (.bool true)], args := [d1, d2, d3, d4] }
  | _ => none }
def wordBitsRow : OpenClaim := { program := "ytjbmlnkacfbheaa", sum := "d726d05d5eabcfc04df541e48098450f2f03c8f14d5f23510cd5e9d454cda0cf", func := "hatchway/hatchwaylaw01.WordBits", spec := "wordBits", unfollowed := true, recurses := true, plainKeys := false, apart := false }
def WordBitsSaid : Prop := wordBitsRow.holds Try.pinned (OpenSpec.ofChange wordBitsSpec)

/-- ITS FALSE NEIGHBOUR: 'it returns false'. Refute it at one input. -/
def wordBitsWrong : ChangeSpec := { name := "wordBits", fn := fun _ => fun
  | [d1, d2, d3, d4] => { results := [.lit (.bool false)], args := [d1, d2, d3, d4] }
  | _ => none }
def WordBitsWrongFalsely : Prop := wordBitsRow.holds Try.pinned (OpenSpec.ofChange wordBitsWrong)

/-- 'hatchwaylaw01.WordSwaps': WHATEVER THE INPUT: true; the input reads as it did. -/
def wordSwapsSpec : ChangeSpec := { name := "wordSwaps", fn := fun _ => fun
  | [d1, d2, d3] => { results := [.lit (.bool true)], args := [d1, d2, d3] }
  | _ => none }
def wordSwapsRow : OpenClaim := { program := "ytjbmlnkacfbheaa", sum := "d726d05d5eabcfc04df541e48098450f2f03c8f14d5f23510cd5e9d454cda0cf", func := "hatchway/hatchwaylaw01.WordSwaps", spec := "wordSwaps", unfollowed := true, recurses := true, plainKeys := false, apart := false }
def WordSwapsSaid : Prop := wordSwapsRow.holds Try.pinned (OpenSpec.ofChange wordSwapsSpec)

/-- ITS FALSE NEIGHBOUR: 'it returns false'. Refute it at one input. -/
def wordSwapsWrong : ChangeSpec := { name := "wordSwaps", fn := fun _ => fun
  | [d1, d2, d3] => { results := [.lit (.bool false)], args := [d1, d2, d3] }
  | _ => none }
def WordSwapsWrongFalsely : Prop := wordSwapsRow.holds Try.pinned (OpenSpec.ofChange wordSwapsWrong)

/-- 'hatchwaylaw01.WordOrders': WHATEVER THE INPUT: true; the input reads as it did. -/
def wordOrdersSpec : ChangeSpec := { name := "wordOrders", fn := fun _ => fun
  | [d1, d2, d3] => { results := [.lit (.bool true)], args := [d1, d2, d3] }
  | _ => none }
def wordOrdersRow : OpenClaim := { program := "ytjbmlnkacfbheaa", sum := "d726d05d5eabcfc04df541e48098450f2f03c8f14d5f23510cd5e9d454cda0cf", func := "hatchway/hatchwaylaw01.WordOrders", spec := "wordOrders", unfollowed := true, recurses := true, plainKeys := false, apart := false }
def WordOrdersSaid : Prop := wordOrdersRow.holds Try.pinned (OpenSpec.ofChange wordOrdersSpec)

/-- ITS FALSE NEIGHBOUR: 'it returns false'. Refute it at one input. -/
def wordOrdersWrong : ChangeSpec := { name := "wordOrders", fn := fun _ => fun
  | [d1, d2, d3] => { results := [.lit (.bool false)], args := [d1, d2, d3] }
  | _ => none }
def WordOrdersWrongFalsely : Prop := wordOrdersRow.holds Try.pinned (OpenSpec.ofChange wordOrdersWrong)

/-- 'hatchwaylaw01.WordTests': WHATEVER THE INPUT: true; the input reads as it did. -/
def wordTestsSpec : ChangeSpec := { name := "wordTests", fn := fun _ => fun
  | [d1, d2, d3, d4, d5, d6, d7] => { results := [.lit (.bool true)], args := [d1, d2, d3, d4, d5, d6, d7] }
  | _ => none }
def wordTestsRow : OpenClaim := { program := "ytjbmlnkacfbheaa", sum := "d726d05d5eabcfc04df541e48098450f2f03c8f14d5f23510cd5e9d454cda0cf", func := "hatchway/hatchwaylaw01.WordTests", spec := "wordTests", unfollowed := true, recurses := true, plainKeys := false, apart := false }
def WordTestsSaid : Prop := wordTestsRow.holds Try.pinned (OpenSpec.ofChange wordTestsSpec)

/-- ITS FALSE NEIGHBOUR: 'it returns false'. Refute it at one input. -/
def wordTestsWrong : ChangeSpec := { name := "wordTests", fn := fun _ => fun
  | [d1, d2, d3, d4, d5, d6, d7] => { results := [.lit (.bool false)], args := [d1, d2, d3, d4, d5, d6, d7] }
  | _ => none }
def WordTestsWrongFalsely : Prop := wordTestsRow.holds Try.pinned (OpenSpec.ofChange wordTestsWrong)

/- THE SECOND FORM. 'bulk': how many values and letters a reading holds, each counted each time it is reached (what is shared counts as often as it is met; a slice's spare places count too). A statement '..UptoSaid' is the law's where the arguments, and the package variables that the reading takes, are together of bulk at most 1048576: NARROWER than '..Said'. Prove '..Said' where nothing that the law and all that it calls make is longer than what came in: it says more and counts as full. Else prove '..UptoSaid'. A law counts once. -/
mutual
def uptoBulk {H : Type} : DataW H → Nat
  | .lit (.string bytes) => bytes.length + 1
  | .lit _ => 1
  | .nil => 1
  | .ptr d => uptoBulk d + 1
  | .slice elems spare => uptoBulkAll elems + uptoBulkAll spare + 1
  | .agg parts => uptoBulkAll parts + 1
  | .iface _ d => uptoBulk d + 1
  | .map entries => uptoBulkEntries entries + 1
  | .held _ => 1
def uptoBulkAll {H : Type} : List (DataW H) → Nat
  | [] => 0
  | d :: r => uptoBulk d + uptoBulkAll r
def uptoBulkEntries {H : Type} : List (Lit × DataW H) → Nat
  | [] => 0
  | x :: r => uptoBulkEntry x + uptoBulkEntries r
def uptoBulkEntry {H : Type} : Lit × DataW H → Nat
  | (.string bytes, d) => bytes.length + uptoBulk d + 1
  | (_, d) => uptoBulk d + 1
 end
def uptoSmall : (H : Type) → List (DataW H) → Bool := fun _ ds => decide (uptoBulkAll ds ≤ 1048576)
def OpenSpec.upto (s : _root_.Go.ChangeSpec) : _root_.Go.OpenSpec := { _root_.Go.OpenSpec.ofChange s with cond := some uptoSmall }

/-- 'hatchwaylaw01.WordAlu', WHERE WHAT IT READS IS OF BULK AT MOST 1048576: true; the input reads as it did. -/
def wordAluUptoRow : OpenClaim := { program := "ytjbmlnkacfbheaa", sum := "d726d05d5eabcfc04df541e48098450f2f03c8f14d5f23510cd5e9d454cda0cf", func := "hatchway/hatchwaylaw01.WordAlu", spec := "wordAlu", unfollowed := true, recurses := true, plainKeys := false, apart := false, narrowed := true }
def WordAluUptoSaid : Prop := wordAluUptoRow.holds Try.pinned (OpenSpec.upto wordAluSpec)

/-- 'hatchwaylaw01.WordRing', WHERE WHAT IT READS IS OF BULK AT MOST 1048576: true; the input reads as it did. -/
def wordRingUptoRow : OpenClaim := { program := "ytjbmlnkacfbheaa", sum := "d726d05d5eabcfc04df541e48098450f2f03c8f14d5f23510cd5e9d454cda0cf", func := "hatchway/hatchwaylaw01.WordRing", spec := "wordRing", unfollowed := true, recurses := true, plainKeys := false, apart := false, narrowed := true }
def WordRingUptoSaid : Prop := wordRingUptoRow.holds Try.pinned (OpenSpec.upto wordRingSpec)

/-- 'hatchwaylaw01.WordBits', WHERE WHAT IT READS IS OF BULK AT MOST 1048576: true; the input reads as it did. -/
def wordBitsUptoRow : OpenClaim := { program := "ytjbmlnkacfbheaa", sum := "d726d05d5eabcfc04df541e48098450f2f03c8f14d5f23510cd5e9d454cda0cf", func := "hatchway/hatchwaylaw01.WordBits", spec := "wordBits", unfollowed := true, recurses := true, plainKeys := false, apart := false, narrowed := true }
def WordBitsUptoSaid : Prop := wordBitsUptoRow.holds Try.pinned (OpenSpec.upto wordBitsSpec)

/-- 'hatchwaylaw01.WordSwaps', WHERE WHAT IT READS IS OF BULK AT MOST 1048576: true; the input reads as it did. -/
def wordSwapsUptoRow : OpenClaim := { program := "ytjbmlnkacfbheaa", sum := "d726d05d5eabcfc04df541e48098450f2f03c8f14d5f23510cd5e9d454cda0cf", func := "hatchway/hatchwaylaw01.WordSwaps", spec := "wordSwaps", unfollowed := true, recurses := true, plainKeys := false, apart := false, narrowed := true }
def WordSwapsUptoSaid : Prop := wordSwapsUptoRow.holds Try.pinned (OpenSpec.upto wordSwapsSpec)

/-- 'hatchwaylaw01.WordOrders', WHERE WHAT IT READS IS OF BULK AT MOST 1048576: true; the input reads as it did. -/
def wordOrdersUptoRow : OpenClaim := { program := "ytjbmlnkacfbheaa", sum := "d726d05d5eabcfc04df541e48098450f2f03c8f14d5f23510cd5e9d454cda0cf", func := "hatchway/hatchwaylaw01.WordOrders", spec := "wordOrders", unfollowed := true, recurses := true, plainKeys := false, apart := false, narrowed := true }
def WordOrdersUptoSaid : Prop := wordOrdersUptoRow.holds Try.pinned (OpenSpec.upto wordOrdersSpec)

/-- 'hatchwaylaw01.WordTests', WHERE WHAT IT READS IS OF BULK AT MOST 1048576: true; the input reads as it did. -/
def wordTestsUptoRow : OpenClaim := { program := "ytjbmlnkacfbheaa", sum := "d726d05d5eabcfc04df541e48098450f2f03c8f14d5f23510cd5e9d454cda0cf", func := "hatchway/hatchwaylaw01.WordTests", spec := "wordTests", unfollowed := true, recurses := true, plainKeys := false, apart := false, narrowed := true }
def WordTestsUptoSaid : Prop := wordTestsUptoRow.holds Try.pinned (OpenSpec.upto wordTestsSpec)

end Rows
end Go.Proofs.Ytjbmlnkacfbheaa
