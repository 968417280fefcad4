/-
  awake: the chapter's examples.
-/
import Derived.Test.YtmbmmcippglfoaaAwR
import Derived.Test.YtmbmmcippglfoaaBrL
namespace Go.Proofs.Ytmbmmcippglfoaa.M
open Go.RowKit Go.Shelf
set_option linter.unusedVariables false
set_option linter.unusedSectionVars false
set_option linter.unusedSimpArgs false

theorem from_0_9 (w : World) : Calls Try.prog 21 #[.int .u64 0, .int .u64 9] w fun e w' => e = .returned (.agg #[.int .u64 0, .int .u64 15, .int .u64 0, .int .u64 9, .int .i64 0, .int .i64 9]) ∧ But [] w w' := from_c 0 9 0 15 0 9 0 9 0 9 true (by decide) (by decide) ⟨by decide, by decide, by decide, by decide, by decide, by decide⟩ (by decide +kernel) (by decide +kernel) w
theorem from_1_5 (w : World) : Calls Try.prog 21 #[.int .u64 1, .int .u64 5] w fun e w' => e = .returned (.agg #[.int .u64 0, .int .u64 7, .int .u64 1, .int .u64 5, .int .i64 1, .int .i64 5]) ∧ But [] w w' := from_c 1 5 0 7 1 5 1 5 1 5 true (by decide) (by decide) ⟨by decide, by decide, by decide, by decide, by decide, by decide⟩ (by decide +kernel) (by decide +kernel) w
theorem from_4_9 (w : World) : Calls Try.prog 21 #[.int .u64 4, .int .u64 9] w fun e w' => e = .returned (.agg #[.int .u64 0, .int .u64 15, .int .u64 4, .int .u64 9, .int .i64 4, .int .i64 9]) ∧ But [] w w' := from_c 4 9 0 15 4 9 4 9 4 9 true (by decide) (by decide) ⟨by decide, by decide, by decide, by decide, by decide, by decide⟩ (by decide +kernel) (by decide +kernel) w
theorem from_0_3 (w : World) : Calls Try.prog 21 #[.int .u64 0, .int .u64 3] w fun e w' => e = .returned (.agg #[.int .u64 0, .int .u64 3, .int .u64 0, .int .u64 3, .int .i64 0, .int .i64 3]) ∧ But [] w w' := from_c 0 3 0 3 0 3 0 3 0 3 true (by decide) (by decide) ⟨by decide, by decide, by decide, by decide, by decide, by decide⟩ (by decide +kernel) (by decide +kernel) w
theorem from_4_5 (w : World) : Calls Try.prog 21 #[.int .u64 4, .int .u64 5] w fun e w' => e = .returned (.agg #[.int .u64 4, .int .u64 1, .int .u64 4, .int .u64 5, .int .i64 4, .int .i64 5]) ∧ But [] w w' := from_c 4 5 4 1 4 5 4 5 4 5 true (by decide) (by decide) ⟨by decide, by decide, by decide, by decide, by decide, by decide⟩ (by decide +kernel) (by decide +kernel) w
theorem from_1_3 (w : World) : Calls Try.prog 21 #[.int .u64 1, .int .u64 3] w fun e w' => e = .returned (.agg #[.int .u64 0, .int .u64 3, .int .u64 1, .int .u64 3, .int .i64 1, .int .i64 3]) ∧ But [] w w' := from_c 1 3 0 3 1 3 1 3 1 3 true (by decide) (by decide) ⟨by decide, by decide, by decide, by decide, by decide, by decide⟩ (by decide +kernel) (by decide +kernel) w
theorem const_0 (w : World) : Calls Try.prog 20 #[.int .u64 0] w fun e w' => e = .returned (.agg #[.int .u64 0, .int .u64 0, .int .u64 0, .int .u64 0, .int .i64 0, .int .i64 0]) ∧ But [] w w' := scConst_c 0 0 (by decide) w
theorem const_1 (w : World) : Calls Try.prog 20 #[.int .u64 1] w fun e w' => e = .returned (.agg #[.int .u64 1, .int .u64 0, .int .u64 1, .int .u64 1, .int .i64 1, .int .i64 1]) ∧ But [] w w' := scConst_c 1 1 (by decide) w
theorem const_8 (w : World) : Calls Try.prog 20 #[.int .u64 8] w fun e w' => e = .returned (.agg #[.int .u64 8, .int .u64 0, .int .u64 8, .int .u64 8, .int .i64 8, .int .i64 8]) ∧ But [] w w' := scConst_c 8 8 (by decide) w
theorem const_10 (w : World) : Calls Try.prog 20 #[.int .u64 10] w fun e w' => e = .returned (.agg #[.int .u64 10, .int .u64 0, .int .u64 10, .int .u64 10, .int .i64 10, .int .i64 10]) ∧ But [] w w' := scConst_c 10 10 (by decide) w
theorem brT_2 : branchT 160 true ⟨⟨0, 18446744073709551615⟩, ⟨0, 18446744073709551615, -9223372036854775808, 9223372036854775807⟩⟩ ⟨⟨10, 0⟩, ⟨10, 10, 10, 10⟩⟩ true = some (⟨⟨0, 15⟩, ⟨0, 9, 0, 9⟩⟩, ⟨⟨10, 0⟩, ⟨10, 10, 10, 10⟩⟩) := by decide +kernel
theorem br_2 (w : World) : Calls Try.prog 12 #[.int .u8 160, .bool true, .agg #[.int .u64 0, .int .u64 18446744073709551615, .int .u64 0, .int .u64 18446744073709551615, .int .i64 (-9223372036854775808), .int .i64 9223372036854775807], .agg #[.int .u64 10, .int .u64 0, .int .u64 10, .int .u64 10, .int .i64 10, .int .i64 10], .bool true] w fun e w' => e = .returned (.tuple #[.agg #[.int .u64 0, .int .u64 15, .int .u64 0, .int .u64 9, .int .i64 0, .int .i64 9], .agg #[.int .u64 10, .int .u64 0, .int .u64 10, .int .u64 10, .int .i64 10, .int .i64 10], .bool true]) ∧ But [] w w' := by
  have h := branch_c 160 true true ⟨⟨0, 18446744073709551615⟩, ⟨0, 18446744073709551615, -9223372036854775808, 9223372036854775807⟩⟩ ⟨⟨10, 0⟩, ⟨10, 10, 10, 10⟩⟩ w (by decide) ⟨by decide, by decide, by decide, by decide, by decide, by decide⟩ ⟨by decide, by decide, by decide, by decide, by decide, by decide⟩
  rw [brT_2] at h
  exact h
theorem brT_3 : branchT 160 true ⟨⟨0, 18446744073709551615⟩, ⟨0, 18446744073709551615, -9223372036854775808, 9223372036854775807⟩⟩ ⟨⟨10, 0⟩, ⟨10, 10, 10, 10⟩⟩ false = some (⟨⟨0, 18446744073709551615⟩, ⟨10, 18446744073709551615, -9223372036854775808, 9223372036854775807⟩⟩, ⟨⟨10, 0⟩, ⟨10, 10, 10, 10⟩⟩) := by decide +kernel
theorem br_3 (w : World) : Calls Try.prog 12 #[.int .u8 160, .bool true, .agg #[.int .u64 0, .int .u64 18446744073709551615, .int .u64 0, .int .u64 18446744073709551615, .int .i64 (-9223372036854775808), .int .i64 9223372036854775807], .agg #[.int .u64 10, .int .u64 0, .int .u64 10, .int .u64 10, .int .i64 10, .int .i64 10], .bool false] w fun e w' => e = .returned (.tuple #[.agg #[.int .u64 0, .int .u64 18446744073709551615, .int .u64 10, .int .u64 18446744073709551615, .int .i64 (-9223372036854775808), .int .i64 9223372036854775807], .agg #[.int .u64 10, .int .u64 0, .int .u64 10, .int .u64 10, .int .i64 10, .int .i64 10], .bool true]) ∧ But [] w w' := by
  have h := branch_c 160 true false ⟨⟨0, 18446744073709551615⟩, ⟨0, 18446744073709551615, -9223372036854775808, 9223372036854775807⟩⟩ ⟨⟨10, 0⟩, ⟨10, 10, 10, 10⟩⟩ w (by decide) ⟨by decide, by decide, by decide, by decide, by decide, by decide⟩ ⟨by decide, by decide, by decide, by decide, by decide, by decide⟩
  rw [brT_3] at h
  exact h
theorem brT_4 : branchT 16 true ⟨⟨0, 7⟩, ⟨1, 5, 1, 5⟩⟩ ⟨⟨0, 15⟩, ⟨4, 9, 4, 9⟩⟩ true = some (⟨⟨4, 1⟩, ⟨4, 5, 4, 5⟩⟩, ⟨⟨4, 1⟩, ⟨4, 5, 4, 5⟩⟩) := by decide +kernel
theorem br_4 (w : World) : Calls Try.prog 12 #[.int .u8 16, .bool true, .agg #[.int .u64 0, .int .u64 7, .int .u64 1, .int .u64 5, .int .i64 1, .int .i64 5], .agg #[.int .u64 0, .int .u64 15, .int .u64 4, .int .u64 9, .int .i64 4, .int .i64 9], .bool true] w fun e w' => e = .returned (.tuple #[.agg #[.int .u64 4, .int .u64 1, .int .u64 4, .int .u64 5, .int .i64 4, .int .i64 5], .agg #[.int .u64 4, .int .u64 1, .int .u64 4, .int .u64 5, .int .i64 4, .int .i64 5], .bool true]) ∧ But [] w w' := by
  have h := branch_c 16 true true ⟨⟨0, 7⟩, ⟨1, 5, 1, 5⟩⟩ ⟨⟨0, 15⟩, ⟨4, 9, 4, 9⟩⟩ w (by decide) ⟨by decide, by decide, by decide, by decide, by decide, by decide⟩ ⟨by decide, by decide, by decide, by decide, by decide, by decide⟩
  rw [brT_4] at h
  exact h
theorem brT_5 : branchT 80 true ⟨⟨0, 3⟩, ⟨0, 3, 0, 3⟩⟩ ⟨⟨0, 0⟩, ⟨0, 0, 0, 0⟩⟩ true = some (⟨⟨0, 3⟩, ⟨1, 3, 1, 3⟩⟩, ⟨⟨0, 0⟩, ⟨0, 0, 0, 0⟩⟩) := by decide +kernel
theorem br_5 (w : World) : Calls Try.prog 12 #[.int .u8 80, .bool true, .agg #[.int .u64 0, .int .u64 3, .int .u64 0, .int .u64 3, .int .i64 0, .int .i64 3], .agg #[.int .u64 0, .int .u64 0, .int .u64 0, .int .u64 0, .int .i64 0, .int .i64 0], .bool true] w fun e w' => e = .returned (.tuple #[.agg #[.int .u64 0, .int .u64 3, .int .u64 1, .int .u64 3, .int .i64 1, .int .i64 3], .agg #[.int .u64 0, .int .u64 0, .int .u64 0, .int .u64 0, .int .i64 0, .int .i64 0], .bool true]) ∧ But [] w w' := by
  have h := branch_c 80 true true ⟨⟨0, 3⟩, ⟨0, 3, 0, 3⟩⟩ ⟨⟨0, 0⟩, ⟨0, 0, 0, 0⟩⟩ w (by decide) ⟨by decide, by decide, by decide, by decide, by decide, by decide⟩ ⟨by decide, by decide, by decide, by decide, by decide, by decide⟩
  rw [brT_5] at h
  exact h
theorem brT_6 : branchT 64 true ⟨⟨0, 18446744073709551615⟩, ⟨0, 18446744073709551615, -9223372036854775808, 9223372036854775807⟩⟩ ⟨⟨8, 0⟩, ⟨8, 8, 8, 8⟩⟩ false = some (⟨⟨0, 18446744073709551607⟩, ⟨0, 18446744073709551607, -9223372036854775808, 9223372036854775807⟩⟩, ⟨⟨8, 0⟩, ⟨8, 8, 8, 8⟩⟩) := by decide +kernel
theorem br_6 (w : World) : Calls Try.prog 12 #[.int .u8 64, .bool true, .agg #[.int .u64 0, .int .u64 18446744073709551615, .int .u64 0, .int .u64 18446744073709551615, .int .i64 (-9223372036854775808), .int .i64 9223372036854775807], .agg #[.int .u64 8, .int .u64 0, .int .u64 8, .int .u64 8, .int .i64 8, .int .i64 8], .bool false] w fun e w' => e = .returned (.tuple #[.agg #[.int .u64 0, .int .u64 18446744073709551607, .int .u64 0, .int .u64 18446744073709551607, .int .i64 (-9223372036854775808), .int .i64 9223372036854775807], .agg #[.int .u64 8, .int .u64 0, .int .u64 8, .int .u64 8, .int .i64 8, .int .i64 8], .bool true]) ∧ But [] w w' := by
  have h := branch_c 64 true false ⟨⟨0, 18446744073709551615⟩, ⟨0, 18446744073709551615, -9223372036854775808, 9223372036854775807⟩⟩ ⟨⟨8, 0⟩, ⟨8, 8, 8, 8⟩⟩ w (by decide) ⟨by decide, by decide, by decide, by decide, by decide, by decide⟩ ⟨by decide, by decide, by decide, by decide, by decide, by decide⟩
  rw [brT_6] at h
  exact h
theorem brT_7 : branchT 16 false ⟨⟨0, 18446744073709551615⟩, ⟨0, 18446744073709551615, -9223372036854775808, 9223372036854775807⟩⟩ ⟨⟨1, 0⟩, ⟨1, 1, 1, 1⟩⟩ true = some (⟨⟨0, 18446744073709551615⟩, ⟨0, 18446744073709551615, -9223372036854775808, 9223372036854775807⟩⟩, ⟨⟨1, 0⟩, ⟨1, 1, 1, 1⟩⟩) := by decide +kernel
theorem br_7 (w : World) : Calls Try.prog 12 #[.int .u8 16, .bool false, .agg #[.int .u64 0, .int .u64 18446744073709551615, .int .u64 0, .int .u64 18446744073709551615, .int .i64 (-9223372036854775808), .int .i64 9223372036854775807], .agg #[.int .u64 1, .int .u64 0, .int .u64 1, .int .u64 1, .int .i64 1, .int .i64 1], .bool true] w fun e w' => e = .returned (.tuple #[.agg #[.int .u64 0, .int .u64 18446744073709551615, .int .u64 0, .int .u64 18446744073709551615, .int .i64 (-9223372036854775808), .int .i64 9223372036854775807], .agg #[.int .u64 1, .int .u64 0, .int .u64 1, .int .u64 1, .int .i64 1, .int .i64 1], .bool true]) ∧ But [] w w' := by
  have h := branch_c 16 false true ⟨⟨0, 18446744073709551615⟩, ⟨0, 18446744073709551615, -9223372036854775808, 9223372036854775807⟩⟩ ⟨⟨1, 0⟩, ⟨1, 1, 1, 1⟩⟩ w (by decide) ⟨by decide, by decide, by decide, by decide, by decide, by decide⟩ ⟨by decide, by decide, by decide, by decide, by decide, by decide⟩
  rw [brT_7] at h
  exact h
noncomputable def code_aw8 : Code := ((Try.f8.body.getD .skip |> regionR 8).getD .skip)
set_option maxRecDepth 100000 in
set_option maxHeartbeats 8000000 in
theorem aw8 (Q : Exit → Act → World → Prop) {wr : World} {b1 b2 b5 b8 b9 b11 b14 b17 b18 : Nat} (H1 : Hid (wr.heap[b1]? = some (.cells #[.int .u64 0, .int .u64 18446744073709551615, .int .u64 0, .int .u64 18446744073709551615, .int .i64 (-9223372036854775808), .int .i64 9223372036854775807] 28))) (H2 : Hid (wr.heap[b2]? = some (.cells #[.int .u64 0, .int .u64 15, .int .u64 0, .int .u64 9, .int .i64 0, .int .i64 9] 28))) (H5 : Hid (wr.heap[b5]? = some (.cells #[.int .u64 0, .int .u64 18446744073709551615, .int .u64 10, .int .u64 18446744073709551615, .int .i64 (-9223372036854775808), .int .i64 9223372036854775807] 28))) (H8 : Hid (wr.heap[b8]? = some (.cells #[.int .u64 4, .int .u64 1, .int .u64 4, .int .u64 5, .int .i64 4, .int .i64 5] 28))) (H9 : Hid (wr.heap[b9]? = some (.cells #[.int .u64 4, .int .u64 1, .int .u64 4, .int .u64 5, .int .i64 4, .int .i64 5] 28))) (H11 : Hid (wr.heap[b11]? = some (.cells #[.int .u64 0, .int .u64 3, .int .u64 1, .int .u64 3, .int .i64 1, .int .i64 3] 28))) (H14 : Hid (wr.heap[b14]? = some (.cells #[.int .u64 0, .int .u64 18446744073709551607, .int .u64 0, .int .u64 18446744073709551607, .int .i64 (-9223372036854775808), .int .i64 9223372036854775807] 28))) (H17 : Hid (wr.heap[b17]? = some (.cells #[.int .u64 0, .int .u64 18446744073709551615, .int .u64 0, .int .u64 18446744073709551615, .int .i64 (-9223372036854775808), .int .i64 9223372036854775807] 28))) (H18 : Hid (wr.heap[b18]? = some (.cells #[.int .u64 1, .int .u64 0, .int .u64 1, .int .u64 1, .int .i64 1, .int .i64 1] 28))) {u0 u3 u6 u12 u15 u20 u21 u22 u23 u24 u25 u26 u27 u28 u29 u30 u31 u32 u33 u34 u35 u36 u37 u38 u39 u40 u41 u42 u43 u44 u45 u46 u47 u48 u49 u50 u51 u52 u53 u54 u55 u56 u57 u58 u59 u60 u61 u62 u63 u64 u65 u66 u67 u68 u69 u70 u71 u72 u73 u74 u75 u76 u77 u78 u79 u80 u81 u82 u83 u84 u85 u86 u87 u88 u89 u90 u91 u92 u93 u94 u95 u96 u97 u98 u99 u100 u101 u102 u103 u104 u105 u106 u107 u108 u109 u110 u111 u112 u113 u114 u115 u116 u117 u118 u119 u120 : Value} (hQ : ∀ (z63 z64 z65 z66 z67 z68 z69 z70 z71 z72 z73 z74 z75 z76 z77 z78 z79 z80 z81 z82 z83 z84 z85 z86 z87 z88 z89 z90 z91 z92 z93 z94 z95 z96 z97 z98 z99 z100 z101 z102 z103 z104 z105 z106 z107 z108 z109 z110 z111 z112 z113 z114 z115 z116 z117 z118 z119 z120 : Value) (w5 : World), But [] wr w5 → Q .normal { tmps := List.toArray (.bool true :: .pointer (some ⟨b1, 0, none⟩) :: .pointer (some ⟨b2, 0, none⟩) :: u3 :: .bool true :: .pointer (some ⟨b5, 0, none⟩) :: u6 :: .bool true :: .pointer (some ⟨b8, 0, none⟩) :: .pointer (some ⟨b9, 0, none⟩) :: .bool true :: .pointer (some ⟨b11, 0, none⟩) :: u12 :: .bool true :: .pointer (some ⟨b14, 0, none⟩) :: u15 :: .bool true :: .pointer (some ⟨b17, 0, none⟩) :: .pointer (some ⟨b18, 0, none⟩) :: .bool true :: u20 :: u21 :: u22 :: u23 :: u24 :: u25 :: u26 :: u27 :: u28 :: u29 :: u30 :: u31 :: u32 :: u33 :: u34 :: u35 :: u36 :: u37 :: u38 :: u39 :: u40 :: u41 :: u42 :: u43 :: u44 :: u45 :: u46 :: u47 :: u48 :: u49 :: u50 :: u51 :: u52 :: u53 :: u54 :: u55 :: u56 :: u57 :: u58 :: u59 :: u60 :: u61 :: u62 :: z63 :: z64 :: z65 :: z66 :: z67 :: z68 :: z69 :: z70 :: z71 :: z72 :: z73 :: z74 :: z75 :: z76 :: z77 :: z78 :: z79 :: z80 :: z81 :: z82 :: z83 :: z84 :: z85 :: z86 :: z87 :: z88 :: z89 :: z90 :: z91 :: z92 :: z93 :: z94 :: z95 :: z96 :: z97 :: z98 :: z99 :: z100 :: z101 :: z102 :: z103 :: z104 :: z105 :: z106 :: z107 :: z108 :: z109 :: z110 :: z111 :: z112 :: z113 :: z114 :: z115 :: z116 :: z117 :: z118 :: z119 :: z120 :: []), defers := [] } w5) :
    Code.wp Try.prog code_aw8 Q { tmps := List.toArray (u0 :: .pointer (some ⟨b1, 0, none⟩) :: .pointer (some ⟨b2, 0, none⟩) :: u3 :: .bool true :: .pointer (some ⟨b5, 0, none⟩) :: u6 :: .bool true :: .pointer (some ⟨b8, 0, none⟩) :: .pointer (some ⟨b9, 0, none⟩) :: .bool true :: .pointer (some ⟨b11, 0, none⟩) :: u12 :: .bool true :: .pointer (some ⟨b14, 0, none⟩) :: u15 :: .bool true :: .pointer (some ⟨b17, 0, none⟩) :: .pointer (some ⟨b18, 0, none⟩) :: .bool true :: u20 :: u21 :: u22 :: u23 :: u24 :: u25 :: u26 :: u27 :: u28 :: u29 :: u30 :: u31 :: u32 :: u33 :: u34 :: u35 :: u36 :: u37 :: u38 :: u39 :: u40 :: u41 :: u42 :: u43 :: u44 :: u45 :: u46 :: u47 :: u48 :: u49 :: u50 :: u51 :: u52 :: u53 :: u54 :: u55 :: u56 :: u57 :: u58 :: u59 :: u60 :: u61 :: u62 :: u63 :: u64 :: u65 :: u66 :: u67 :: u68 :: u69 :: u70 :: u71 :: u72 :: u73 :: u74 :: u75 :: u76 :: u77 :: u78 :: u79 :: u80 :: u81 :: u82 :: u83 :: u84 :: u85 :: u86 :: u87 :: u88 :: u89 :: u90 :: u91 :: u92 :: u93 :: u94 :: u95 :: u96 :: u97 :: u98 :: u99 :: u100 :: u101 :: u102 :: u103 :: u104 :: u105 :: u106 :: u107 :: u108 :: u109 :: u110 :: u111 :: u112 :: u113 :: u114 :: u115 :: u116 :: u117 :: u118 :: u119 :: u120 :: []), defers := [] } wr := by
  have HQ := Lib.hid hQ
  clear hQ
  conv => arg 2; whnf
  refine wp_region_flowS 58 (by decide) (by kernel_rfl) (But []) (fun _ _ _ h1 h2 => h1.trans h2 (by simp)) (⟨rfl, rfl, rfl, Nat.le_refl _, fun _ _ _ => rfl⟩) (GV [.bool true, .bool true, .agg #[.int .u64 0, .int .u64 15, .int .u64 0, .int .u64 9, .int .i64 0, .int .i64 9], .agg #[.int .u64 0, .int .u64 15, .int .u64 0, .int .u64 9, .int .i64 0, .int .i64 9], .bool true, .bool true, .bool true, .bool true, .bool true, .bool true, .pointer (some ⟨b5, 2, none⟩), .pointer (some ⟨b5, 2, none⟩), .int .u64 10, .bool true, .bool true, .bool true, .bool true, .bool true, .bool true, .agg #[.int .u64 4, .int .u64 1, .int .u64 4, .int .u64 5, .int .i64 4, .int .i64 5], .agg #[.int .u64 4, .int .u64 1, .int .u64 4, .int .u64 5, .int .i64 4, .int .i64 5], .bool true, .bool true, .bool true, .agg #[.int .u64 4, .int .u64 1, .int .u64 4, .int .u64 5, .int .i64 4, .int .i64 5], .agg #[.int .u64 4, .int .u64 1, .int .u64 4, .int .u64 5, .int .i64 4, .int .i64 5], .bool true, .bool true, .bool true, .bool true, .bool true, .bool true, .agg #[.int .u64 0, .int .u64 3, .int .u64 1, .int .u64 3, .int .i64 1, .int .i64 3], .agg #[.int .u64 0, .int .u64 3, .int .u64 1, .int .u64 3, .int .i64 1, .int .i64 3], .bool true, .bool true, .bool true, .bool true, .bool true, .bool true, .pointer (some ⟨b14, 0, none⟩), .pointer (some ⟨b14, 1, none⟩), .int .u64 18446744073709551607, .bool true, .bool true, .bool true, .bool true, .bool true, .bool true, .agg #[.int .u64 0, .int .u64 18446744073709551615, .int .u64 0, .int .u64 18446744073709551615, .int .i64 (-9223372036854775808), .int .i64 9223372036854775807], .agg #[.int .u64 0, .int .u64 18446744073709551615, .int .u64 0, .int .u64 18446744073709551615, .int .i64 (-9223372036854775808), .int .i64 9223372036854775807], .bool true, .bool true, .bool true, .agg #[.int .u64 1, .int .u64 0, .int .u64 1, .int .u64 1, .int .i64 1, .int .i64 1], .agg #[.int .u64 1, .int .u64 0, .int .u64 1, .int .u64 1, .int .i64 1, .int .i64 1], .bool true, .bool true]) [[], [(0, 63)], [(1, 64)], [(1, 64)], [(1, 64), (2, 65), (3, 66)], [(1, 64), (4, 67)], [(5, 68)], [(6, 69)], [(6, 69), (7, 70)], [(8, 71)], [(9, 72)], [(9, 72), (10, 73)], [(9, 72), (11, 74)], [(9, 72), (12, 75)], [(9, 72), (13, 76)], [(14, 77)], [(15, 78)], [(15, 78), (16, 79)], [(17, 80)], [(18, 81)], [(18, 81)], [(18, 81), (19, 82), (20, 83)], [(18, 81), (21, 84)], [(22, 85)], [(23, 86)], [(23, 86)], [(23, 86), (24, 87), (25, 88)], [(23, 86), (26, 89)], [(27, 90)], [(28, 91)], [(28, 91), (29, 92)], [(30, 93)], [(31, 94)], [(31, 94)], [(31, 94), (32, 95), (33, 96)], [(31, 94), (34, 97)], [(35, 98)], [(36, 99)], [(36, 99), (37, 100)], [(38, 101)], [(39, 102)], [(39, 102), (40, 103)], [(39, 102), (41, 104)], [(39, 102), (42, 105)], [(39, 102), (43, 106)], [(44, 107)], [(45, 108)], [(45, 108), (46, 109)], [(47, 110)], [(48, 111)], [(48, 111)], [(48, 111), (49, 112), (50, 113)], [(48, 111), (51, 114)], [(52, 115)], [(53, 116)], [(53, 116)], [(53, 116), (54, 117), (55, 118)], [(53, 116), (56, 119)]] [[(4, .bool true)], [], [(2, .pointer (some ⟨b2, 0, none⟩))], [], [], [], [], [(7, .bool true)], [], [], [(5, .pointer (some ⟨b5, 0, none⟩))], [], [], [], [], [], [(10, .bool true)], [], [], [(8, .pointer (some ⟨b8, 0, none⟩))], [], [], [], [], [(9, .pointer (some ⟨b9, 0, none⟩))], [(8, .pointer (some ⟨b8, 0, none⟩))], [], [], [], [(13, .bool true)], [], [], [(11, .pointer (some ⟨b11, 0, none⟩))], [], [], [], [], [(16, .bool true)], [], [], [(14, .pointer (some ⟨b14, 0, none⟩))], [], [], [], [], [], [(19, .bool true)], [], [], [(17, .pointer (some ⟨b17, 0, none⟩))], [(1, .pointer (some ⟨b1, 0, none⟩))], [], [], [], [(18, .pointer (some ⟨b18, 0, none⟩))], [], [], []] (by kernel_rfl) (by kernel_rfl) (by kernel_rfl) (by kernel_rfl) ?_ (fun _ _ _ _ _ h _ => h) [none, none, none, none, none, none, none, none, none, none, none, none, none, none, none, none, none, none, none, none, none, none, none, none, none, none, none, none, none, none, none, none, none, none, none, none, none, none, none, none, none, none, none, none, none, none, none, none, none, none, none, none, none, none, none, none, none, none, none, none, none, none, none, some 63, some 64, some 65, some 66, some 67, some 68, some 69, some 70, some 71, some 72, some 73, some 74, some 75, some 76, some 77, some 78, some 79, some 80, some 81, some 82, some 83, some 84, some 85, some 86, some 87, some 88, some 89, some 90, some 91, some 92, some 93, some 94, some 95, some 96, some 97, some 98, some 99, some 100, some 101, some 102, some 103, some 104, some 105, some 106, some 107, some 108, some 109, some 110, some 111, some 112, some 113, some 114, some 115, some 116, some 117, some 118, some 119, some 120] (by kernel_rfl) (by rfl) ?_ ?_
  · exact ⟨⟨rfl, trivial⟩, trivial, ⟨rfl, trivial⟩, trivial, trivial, trivial, trivial, ⟨rfl, trivial⟩, trivial, trivial, ⟨rfl, trivial⟩, trivial, trivial, trivial, trivial, trivial, ⟨rfl, trivial⟩, trivial, trivial, ⟨rfl, trivial⟩, trivial, trivial, trivial, trivial, ⟨rfl, trivial⟩, ⟨rfl, trivial⟩, trivial, trivial, trivial, ⟨rfl, trivial⟩, trivial, trivial, ⟨rfl, trivial⟩, trivial, trivial, trivial, trivial, ⟨rfl, trivial⟩, trivial, trivial, ⟨rfl, trivial⟩, trivial, trivial, trivial, trivial, trivial, ⟨rfl, trivial⟩, trivial, trivial, ⟨rfl, trivial⟩, ⟨rfl, trivial⟩, trivial, trivial, trivial, ⟨rfl, trivial⟩, trivial, trivial, trivial, trivial⟩
  · simp only [List.take_succ_cons, List.take_zero]
    -- 63
    refine ⟨fun a9 w9 hR hk hf => ?_, ?_⟩
    · simp only [KnowF, FreeF, and_true] at hk hf
      have e4 : a9.tmps[4]?.getD undef = .bool true := freeF_ev hf
      exact flow_on (rfl) (flow_run (v := .bool true) (by go_simp) (But.refl _ _) (GV.of rfl))
    -- 64
    refine ⟨fun a9 w9 hR hk hf => ?_, ?_⟩
    · simp only [KnowF, FreeF, and_true] at hk hf
      have e63 := (hk).ev (v := .bool true) rfl
      exact flow_on (rfl) (flow_run (v := .bool true) (by go_simp) (But.refl _ _) (GV.of rfl))
    -- 65
    refine ⟨fun a9 w9 hR hk hf => ?_, ?_⟩
    · simp only [KnowF, FreeF, and_true] at hk hf
      have hgd := (hk).eval (v := .bool true) rfl
      have e2 : a9.tmps[2]?.getD undef = .pointer (some ⟨b2, 0, none⟩) := freeF_ev hf
      have hh := hR.heap H2.out (by simp)
      have f0 := cl_of hh 0
      have f1 := cl_of hh 1
      have f2 := cl_of hh 2
      have f3 := cl_of hh 3
      have f4 := cl_of hh 4
      have f5 := cl_of hh 5
      simp only [List.getElem?_toArray, List.getElem?_cons_zero, List.getElem?_cons_succ] at f0 f1 f2 f3 f4 f5
      clear hh
      exact flow_on (wanted_at (j := 1) (b := true) (s := 64) rfl rfl hgd) (flow_run (v := .agg #[.int .u64 0, .int .u64 15, .int .u64 0, .int .u64 9, .int .i64 0, .int .i64 9]) (by go_simp) (But.refl _ _) (GV.of rfl))
    -- 66
    refine ⟨fun a9 w9 hR hk hf => ?_, ?_⟩
    · simp only [KnowF, FreeF, and_true] at hk hf
      have hgd := (hk).eval (v := .bool true) rfl
      exact flow_on (wanted_at (j := 1) (b := true) (s := 64) rfl rfl hgd) (flow_call (f := 21) (args := #[.int .u64 0, .int .u64 9]) (by go_simp) ((from_0_9 _).mono (by rintro e w' ⟨rfl, hb⟩; exact ⟨_, rfl, hb, GV.of rfl⟩)))
    -- 67
    refine ⟨fun a9 w9 hR hk hf => ?_, ?_⟩
    · simp only [KnowF, FreeF, and_true] at hk hf
      have hgd := (hk.1).eval (v := .bool true) rfl
      have e65 := (hk.2.1).ev (v := .agg #[.int .u64 0, .int .u64 15, .int .u64 0, .int .u64 9, .int .i64 0, .int .i64 9]) rfl
      have e66 := (hk.2.2).ev (v := .agg #[.int .u64 0, .int .u64 15, .int .u64 0, .int .u64 9, .int .i64 0, .int .i64 9]) rfl
      exact flow_on (wanted_at (j := 1) (b := true) (s := 64) rfl rfl hgd) (flow_run (v := .bool true) (by go_simp) (But.refl _ _) (GV.of rfl))
    -- 68
    refine ⟨fun a9 w9 hR hk hf => ?_, ?_⟩
    · simp only [KnowF, FreeF, and_true] at hk hf
      have e64 := (hk.1).ev (v := .bool true) rfl
      have e67 := (hk.2).ev (v := .bool true) rfl
      exact flow_on (rfl) (flow_run (v := .bool true) (by go_simp) (But.refl _ _) (GV.of rfl))
    -- 69
    refine ⟨fun a9 w9 hR hk hf => ?_, ?_⟩
    · simp only [KnowF, FreeF, and_true] at hk hf
      have e68 := (hk).ev (v := .bool true) rfl
      exact flow_on (rfl) (flow_run (v := .bool true) (by go_simp) (But.refl _ _) (GV.of rfl))
    -- 70
    refine ⟨fun a9 w9 hR hk hf => ?_, ?_⟩
    · simp only [KnowF, FreeF, and_true] at hk hf
      have hgd := (hk).eval (v := .bool true) rfl
      have e7 : a9.tmps[7]?.getD undef = .bool true := freeF_ev hf
      exact flow_on (wanted_at (j := 6) (b := true) (s := 69) rfl rfl hgd) (flow_run (v := .bool true) (by go_simp) (But.refl _ _) (GV.of rfl))
    -- 71
    refine ⟨fun a9 w9 hR hk hf => ?_, ?_⟩
    · simp only [KnowF, FreeF, and_true] at hk hf
      have e69 := (hk.1).ev (v := .bool true) rfl
      have e70 := (hk.2).ev (v := .bool true) rfl
      exact flow_on (rfl) (flow_run (v := .bool true) (by go_simp) (But.refl _ _) (GV.of rfl))
    -- 72
    refine ⟨fun a9 w9 hR hk hf => ?_, ?_⟩
    · simp only [KnowF, FreeF, and_true] at hk hf
      have e71 := (hk).ev (v := .bool true) rfl
      exact flow_on (rfl) (flow_run (v := .bool true) (by go_simp) (But.refl _ _) (GV.of rfl))
    -- 73
    refine ⟨fun a9 w9 hR hk hf => ?_, ?_⟩
    · simp only [KnowF, FreeF, and_true] at hk hf
      have hgd := (hk).eval (v := .bool true) rfl
      have e5 : a9.tmps[5]?.getD undef = .pointer (some ⟨b5, 0, none⟩) := freeF_ev hf
      exact flow_on (wanted_at (j := 9) (b := true) (s := 72) rfl rfl hgd) (flow_run (v := .pointer (some ⟨b5, 2, none⟩)) (by go_simp) (But.refl _ _) (GV.of rfl))
    -- 74
    refine ⟨fun a9 w9 hR hk hf => ?_, ?_⟩
    · simp only [KnowF, FreeF, and_true] at hk hf
      have hgd := (hk.1).eval (v := .bool true) rfl
      have e73 := (hk.2).ev (v := .pointer (some ⟨b5, 2, none⟩)) rfl
      exact flow_on (wanted_at (j := 9) (b := true) (s := 72) rfl rfl hgd) (flow_run (v := .pointer (some ⟨b5, 2, none⟩)) (by go_simp) (But.refl _ _) (GV.of rfl))
    -- 75
    refine ⟨fun a9 w9 hR hk hf => ?_, ?_⟩
    · simp only [KnowF, FreeF, and_true] at hk hf
      have hgd := (hk.1).eval (v := .bool true) rfl
      have e74 := (hk.2).ev (v := .pointer (some ⟨b5, 2, none⟩)) rfl
      have hh := hR.heap H5.out (by simp)
      have f0 := cl_of hh 2
      simp only [List.getElem?_toArray, List.getElem?_cons_zero, List.getElem?_cons_succ] at f0
      clear hh
      exact flow_on (wanted_at (j := 9) (b := true) (s := 72) rfl rfl hgd) (flow_run (v := .int .u64 10) (by go_simp) (But.refl _ _) (GV.of rfl))
    -- 76
    refine ⟨fun a9 w9 hR hk hf => ?_, ?_⟩
    · simp only [KnowF, FreeF, and_true] at hk hf
      have hgd := (hk.1).eval (v := .bool true) rfl
      have e75 := (hk.2).ev (v := .int .u64 10) rfl
      exact flow_on (wanted_at (j := 9) (b := true) (s := 72) rfl rfl hgd) (flow_run (v := .bool true) (by go_simp) (But.refl _ _) (GV.of rfl))
    -- 77
    refine ⟨fun a9 w9 hR hk hf => ?_, ?_⟩
    · simp only [KnowF, FreeF, and_true] at hk hf
      have e72 := (hk.1).ev (v := .bool true) rfl
      have e76 := (hk.2).ev (v := .bool true) rfl
      exact flow_on (rfl) (flow_run (v := .bool true) (by go_simp) (But.refl _ _) (GV.of rfl))
    -- 78
    refine ⟨fun a9 w9 hR hk hf => ?_, ?_⟩
    · simp only [KnowF, FreeF, and_true] at hk hf
      have e77 := (hk).ev (v := .bool true) rfl
      exact flow_on (rfl) (flow_run (v := .bool true) (by go_simp) (But.refl _ _) (GV.of rfl))
    -- 79
    refine ⟨fun a9 w9 hR hk hf => ?_, ?_⟩
    · simp only [KnowF, FreeF, and_true] at hk hf
      have hgd := (hk).eval (v := .bool true) rfl
      have e10 : a9.tmps[10]?.getD undef = .bool true := freeF_ev hf
      exact flow_on (wanted_at (j := 15) (b := true) (s := 78) rfl rfl hgd) (flow_run (v := .bool true) (by go_simp) (But.refl _ _) (GV.of rfl))
    -- 80
    refine ⟨fun a9 w9 hR hk hf => ?_, ?_⟩
    · simp only [KnowF, FreeF, and_true] at hk hf
      have e78 := (hk.1).ev (v := .bool true) rfl
      have e79 := (hk.2).ev (v := .bool true) rfl
      exact flow_on (rfl) (flow_run (v := .bool true) (by go_simp) (But.refl _ _) (GV.of rfl))
    -- 81
    refine ⟨fun a9 w9 hR hk hf => ?_, ?_⟩
    · simp only [KnowF, FreeF, and_true] at hk hf
      have e80 := (hk).ev (v := .bool true) rfl
      exact flow_on (rfl) (flow_run (v := .bool true) (by go_simp) (But.refl _ _) (GV.of rfl))
    -- 82
    refine ⟨fun a9 w9 hR hk hf => ?_, ?_⟩
    · simp only [KnowF, FreeF, and_true] at hk hf
      have hgd := (hk).eval (v := .bool true) rfl
      have e8 : a9.tmps[8]?.getD undef = .pointer (some ⟨b8, 0, none⟩) := freeF_ev hf
      have hh := hR.heap H8.out (by simp)
      have f0 := cl_of hh 0
      have f1 := cl_of hh 1
      have f2 := cl_of hh 2
      have f3 := cl_of hh 3
      have f4 := cl_of hh 4
      have f5 := cl_of hh 5
      simp only [List.getElem?_toArray, List.getElem?_cons_zero, List.getElem?_cons_succ] at f0 f1 f2 f3 f4 f5
      clear hh
      exact flow_on (wanted_at (j := 18) (b := true) (s := 81) rfl rfl hgd) (flow_run (v := .agg #[.int .u64 4, .int .u64 1, .int .u64 4, .int .u64 5, .int .i64 4, .int .i64 5]) (by go_simp) (But.refl _ _) (GV.of rfl))
    -- 83
    refine ⟨fun a9 w9 hR hk hf => ?_, ?_⟩
    · simp only [KnowF, FreeF, and_true] at hk hf
      have hgd := (hk).eval (v := .bool true) rfl
      exact flow_on (wanted_at (j := 18) (b := true) (s := 81) rfl rfl hgd) (flow_call (f := 21) (args := #[.int .u64 4, .int .u64 5]) (by go_simp) ((from_4_5 _).mono (by rintro e w' ⟨rfl, hb⟩; exact ⟨_, rfl, hb, GV.of rfl⟩)))
    -- 84
    refine ⟨fun a9 w9 hR hk hf => ?_, ?_⟩
    · simp only [KnowF, FreeF, and_true] at hk hf
      have hgd := (hk.1).eval (v := .bool true) rfl
      have e82 := (hk.2.1).ev (v := .agg #[.int .u64 4, .int .u64 1, .int .u64 4, .int .u64 5, .int .i64 4, .int .i64 5]) rfl
      have e83 := (hk.2.2).ev (v := .agg #[.int .u64 4, .int .u64 1, .int .u64 4, .int .u64 5, .int .i64 4, .int .i64 5]) rfl
      exact flow_on (wanted_at (j := 18) (b := true) (s := 81) rfl rfl hgd) (flow_run (v := .bool true) (by go_simp) (But.refl _ _) (GV.of rfl))
    -- 85
    refine ⟨fun a9 w9 hR hk hf => ?_, ?_⟩
    · simp only [KnowF, FreeF, and_true] at hk hf
      have e81 := (hk.1).ev (v := .bool true) rfl
      have e84 := (hk.2).ev (v := .bool true) rfl
      exact flow_on (rfl) (flow_run (v := .bool true) (by go_simp) (But.refl _ _) (GV.of rfl))
    -- 86
    refine ⟨fun a9 w9 hR hk hf => ?_, ?_⟩
    · simp only [KnowF, FreeF, and_true] at hk hf
      have e85 := (hk).ev (v := .bool true) rfl
      exact flow_on (rfl) (flow_run (v := .bool true) (by go_simp) (But.refl _ _) (GV.of rfl))
    -- 87
    refine ⟨fun a9 w9 hR hk hf => ?_, ?_⟩
    · simp only [KnowF, FreeF, and_true] at hk hf
      have hgd := (hk).eval (v := .bool true) rfl
      have e9 : a9.tmps[9]?.getD undef = .pointer (some ⟨b9, 0, none⟩) := freeF_ev hf
      have hh := hR.heap H9.out (by simp)
      have f0 := cl_of hh 0
      have f1 := cl_of hh 1
      have f2 := cl_of hh 2
      have f3 := cl_of hh 3
      have f4 := cl_of hh 4
      have f5 := cl_of hh 5
      simp only [List.getElem?_toArray, List.getElem?_cons_zero, List.getElem?_cons_succ] at f0 f1 f2 f3 f4 f5
      clear hh
      exact flow_on (wanted_at (j := 23) (b := true) (s := 86) rfl rfl hgd) (flow_run (v := .agg #[.int .u64 4, .int .u64 1, .int .u64 4, .int .u64 5, .int .i64 4, .int .i64 5]) (by go_simp) (But.refl _ _) (GV.of rfl))
    -- 88
    refine ⟨fun a9 w9 hR hk hf => ?_, ?_⟩
    · simp only [KnowF, FreeF, and_true] at hk hf
      have hgd := (hk).eval (v := .bool true) rfl
      have e8 : a9.tmps[8]?.getD undef = .pointer (some ⟨b8, 0, none⟩) := freeF_ev hf
      have hh := hR.heap H8.out (by simp)
      have f0 := cl_of hh 0
      have f1 := cl_of hh 1
      have f2 := cl_of hh 2
      have f3 := cl_of hh 3
      have f4 := cl_of hh 4
      have f5 := cl_of hh 5
      simp only [List.getElem?_toArray, List.getElem?_cons_zero, List.getElem?_cons_succ] at f0 f1 f2 f3 f4 f5
      clear hh
      exact flow_on (wanted_at (j := 23) (b := true) (s := 86) rfl rfl hgd) (flow_run (v := .agg #[.int .u64 4, .int .u64 1, .int .u64 4, .int .u64 5, .int .i64 4, .int .i64 5]) (by go_simp) (But.refl _ _) (GV.of rfl))
    -- 89
    refine ⟨fun a9 w9 hR hk hf => ?_, ?_⟩
    · simp only [KnowF, FreeF, and_true] at hk hf
      have hgd := (hk.1).eval (v := .bool true) rfl
      have e87 := (hk.2.1).ev (v := .agg #[.int .u64 4, .int .u64 1, .int .u64 4, .int .u64 5, .int .i64 4, .int .i64 5]) rfl
      have e88 := (hk.2.2).ev (v := .agg #[.int .u64 4, .int .u64 1, .int .u64 4, .int .u64 5, .int .i64 4, .int .i64 5]) rfl
      exact flow_on (wanted_at (j := 23) (b := true) (s := 86) rfl rfl hgd) (flow_run (v := .bool true) (by go_simp) (But.refl _ _) (GV.of rfl))
    -- 90
    refine ⟨fun a9 w9 hR hk hf => ?_, ?_⟩
    · simp only [KnowF, FreeF, and_true] at hk hf
      have e86 := (hk.1).ev (v := .bool true) rfl
      have e89 := (hk.2).ev (v := .bool true) rfl
      exact flow_on (rfl) (flow_run (v := .bool true) (by go_simp) (But.refl _ _) (GV.of rfl))
    -- 91
    refine ⟨fun a9 w9 hR hk hf => ?_, ?_⟩
    · simp only [KnowF, FreeF, and_true] at hk hf
      have e90 := (hk).ev (v := .bool true) rfl
      exact flow_on (rfl) (flow_run (v := .bool true) (by go_simp) (But.refl _ _) (GV.of rfl))
    -- 92
    refine ⟨fun a9 w9 hR hk hf => ?_, ?_⟩
    · simp only [KnowF, FreeF, and_true] at hk hf
      have hgd := (hk).eval (v := .bool true) rfl
      have e13 : a9.tmps[13]?.getD undef = .bool true := freeF_ev hf
      exact flow_on (wanted_at (j := 28) (b := true) (s := 91) rfl rfl hgd) (flow_run (v := .bool true) (by go_simp) (But.refl _ _) (GV.of rfl))
    -- 93
    refine ⟨fun a9 w9 hR hk hf => ?_, ?_⟩
    · simp only [KnowF, FreeF, and_true] at hk hf
      have e91 := (hk.1).ev (v := .bool true) rfl
      have e92 := (hk.2).ev (v := .bool true) rfl
      exact flow_on (rfl) (flow_run (v := .bool true) (by go_simp) (But.refl _ _) (GV.of rfl))
    -- 94
    refine ⟨fun a9 w9 hR hk hf => ?_, ?_⟩
    · simp only [KnowF, FreeF, and_true] at hk hf
      have e93 := (hk).ev (v := .bool true) rfl
      exact flow_on (rfl) (flow_run (v := .bool true) (by go_simp) (But.refl _ _) (GV.of rfl))
    -- 95
    refine ⟨fun a9 w9 hR hk hf => ?_, ?_⟩
    · simp only [KnowF, FreeF, and_true] at hk hf
      have hgd := (hk).eval (v := .bool true) rfl
      have e11 : a9.tmps[11]?.getD undef = .pointer (some ⟨b11, 0, none⟩) := freeF_ev hf
      have hh := hR.heap H11.out (by simp)
      have f0 := cl_of hh 0
      have f1 := cl_of hh 1
      have f2 := cl_of hh 2
      have f3 := cl_of hh 3
      have f4 := cl_of hh 4
      have f5 := cl_of hh 5
      simp only [List.getElem?_toArray, List.getElem?_cons_zero, List.getElem?_cons_succ] at f0 f1 f2 f3 f4 f5
      clear hh
      exact flow_on (wanted_at (j := 31) (b := true) (s := 94) rfl rfl hgd) (flow_run (v := .agg #[.int .u64 0, .int .u64 3, .int .u64 1, .int .u64 3, .int .i64 1, .int .i64 3]) (by go_simp) (But.refl _ _) (GV.of rfl))
    -- 96
    refine ⟨fun a9 w9 hR hk hf => ?_, ?_⟩
    · simp only [KnowF, FreeF, and_true] at hk hf
      have hgd := (hk).eval (v := .bool true) rfl
      exact flow_on (wanted_at (j := 31) (b := true) (s := 94) rfl rfl hgd) (flow_call (f := 21) (args := #[.int .u64 1, .int .u64 3]) (by go_simp) ((from_1_3 _).mono (by rintro e w' ⟨rfl, hb⟩; exact ⟨_, rfl, hb, GV.of rfl⟩)))
    -- 97
    refine ⟨fun a9 w9 hR hk hf => ?_, ?_⟩
    · simp only [KnowF, FreeF, and_true] at hk hf
      have hgd := (hk.1).eval (v := .bool true) rfl
      have e95 := (hk.2.1).ev (v := .agg #[.int .u64 0, .int .u64 3, .int .u64 1, .int .u64 3, .int .i64 1, .int .i64 3]) rfl
      have e96 := (hk.2.2).ev (v := .agg #[.int .u64 0, .int .u64 3, .int .u64 1, .int .u64 3, .int .i64 1, .int .i64 3]) rfl
      exact flow_on (wanted_at (j := 31) (b := true) (s := 94) rfl rfl hgd) (flow_run (v := .bool true) (by go_simp) (But.refl _ _) (GV.of rfl))
    -- 98
    refine ⟨fun a9 w9 hR hk hf => ?_, ?_⟩
    · simp only [KnowF, FreeF, and_true] at hk hf
      have e94 := (hk.1).ev (v := .bool true) rfl
      have e97 := (hk.2).ev (v := .bool true) rfl
      exact flow_on (rfl) (flow_run (v := .bool true) (by go_simp) (But.refl _ _) (GV.of rfl))
    -- 99
    refine ⟨fun a9 w9 hR hk hf => ?_, ?_⟩
    · simp only [KnowF, FreeF, and_true] at hk hf
      have e98 := (hk).ev (v := .bool true) rfl
      exact flow_on (rfl) (flow_run (v := .bool true) (by go_simp) (But.refl _ _) (GV.of rfl))
    -- 100
    refine ⟨fun a9 w9 hR hk hf => ?_, ?_⟩
    · simp only [KnowF, FreeF, and_true] at hk hf
      have hgd := (hk).eval (v := .bool true) rfl
      have e16 : a9.tmps[16]?.getD undef = .bool true := freeF_ev hf
      exact flow_on (wanted_at (j := 36) (b := true) (s := 99) rfl rfl hgd) (flow_run (v := .bool true) (by go_simp) (But.refl _ _) (GV.of rfl))
    -- 101
    refine ⟨fun a9 w9 hR hk hf => ?_, ?_⟩
    · simp only [KnowF, FreeF, and_true] at hk hf
      have e99 := (hk.1).ev (v := .bool true) rfl
      have e100 := (hk.2).ev (v := .bool true) rfl
      exact flow_on (rfl) (flow_run (v := .bool true) (by go_simp) (But.refl _ _) (GV.of rfl))
    -- 102
    refine ⟨fun a9 w9 hR hk hf => ?_, ?_⟩
    · simp only [KnowF, FreeF, and_true] at hk hf
      have e101 := (hk).ev (v := .bool true) rfl
      exact flow_on (rfl) (flow_run (v := .bool true) (by go_simp) (But.refl _ _) (GV.of rfl))
    -- 103
    refine ⟨fun a9 w9 hR hk hf => ?_, ?_⟩
    · simp only [KnowF, FreeF, and_true] at hk hf
      have hgd := (hk).eval (v := .bool true) rfl
      have e14 : a9.tmps[14]?.getD undef = .pointer (some ⟨b14, 0, none⟩) := freeF_ev hf
      exact flow_on (wanted_at (j := 39) (b := true) (s := 102) rfl rfl hgd) (flow_run (v := .pointer (some ⟨b14, 0, none⟩)) (by go_simp) (But.refl _ _) (GV.of rfl))
    -- 104
    refine ⟨fun a9 w9 hR hk hf => ?_, ?_⟩
    · simp only [KnowF, FreeF, and_true] at hk hf
      have hgd := (hk.1).eval (v := .bool true) rfl
      have e103 := (hk.2).ev (v := .pointer (some ⟨b14, 0, none⟩)) rfl
      exact flow_on (wanted_at (j := 39) (b := true) (s := 102) rfl rfl hgd) (flow_run (v := .pointer (some ⟨b14, 1, none⟩)) (by go_simp) (But.refl _ _) (GV.of rfl))
    -- 105
    refine ⟨fun a9 w9 hR hk hf => ?_, ?_⟩
    · simp only [KnowF, FreeF, and_true] at hk hf
      have hgd := (hk.1).eval (v := .bool true) rfl
      have e104 := (hk.2).ev (v := .pointer (some ⟨b14, 1, none⟩)) rfl
      have hh := hR.heap H14.out (by simp)
      have f0 := cl_of hh 1
      simp only [List.getElem?_toArray, List.getElem?_cons_zero, List.getElem?_cons_succ] at f0
      clear hh
      exact flow_on (wanted_at (j := 39) (b := true) (s := 102) rfl rfl hgd) (flow_run (v := .int .u64 18446744073709551607) (by go_simp) (But.refl _ _) (GV.of rfl))
    -- 106
    refine ⟨fun a9 w9 hR hk hf => ?_, ?_⟩
    · simp only [KnowF, FreeF, and_true] at hk hf
      have hgd := (hk.1).eval (v := .bool true) rfl
      have e105 := (hk.2).ev (v := .int .u64 18446744073709551607) rfl
      exact flow_on (wanted_at (j := 39) (b := true) (s := 102) rfl rfl hgd) (flow_run (v := .bool true) (by go_simp) (But.refl _ _) (GV.of rfl))
    -- 107
    refine ⟨fun a9 w9 hR hk hf => ?_, ?_⟩
    · simp only [KnowF, FreeF, and_true] at hk hf
      have e102 := (hk.1).ev (v := .bool true) rfl
      have e106 := (hk.2).ev (v := .bool true) rfl
      exact flow_on (rfl) (flow_run (v := .bool true) (by go_simp) (But.refl _ _) (GV.of rfl))
    -- 108
    refine ⟨fun a9 w9 hR hk hf => ?_, ?_⟩
    · simp only [KnowF, FreeF, and_true] at hk hf
      have e107 := (hk).ev (v := .bool true) rfl
      exact flow_on (rfl) (flow_run (v := .bool true) (by go_simp) (But.refl _ _) (GV.of rfl))
    -- 109
    refine ⟨fun a9 w9 hR hk hf => ?_, ?_⟩
    · simp only [KnowF, FreeF, and_true] at hk hf
      have hgd := (hk).eval (v := .bool true) rfl
      have e19 : a9.tmps[19]?.getD undef = .bool true := freeF_ev hf
      exact flow_on (wanted_at (j := 45) (b := true) (s := 108) rfl rfl hgd) (flow_run (v := .bool true) (by go_simp) (But.refl _ _) (GV.of rfl))
    -- 110
    refine ⟨fun a9 w9 hR hk hf => ?_, ?_⟩
    · simp only [KnowF, FreeF, and_true] at hk hf
      have e108 := (hk.1).ev (v := .bool true) rfl
      have e109 := (hk.2).ev (v := .bool true) rfl
      exact flow_on (rfl) (flow_run (v := .bool true) (by go_simp) (But.refl _ _) (GV.of rfl))
    -- 111
    refine ⟨fun a9 w9 hR hk hf => ?_, ?_⟩
    · simp only [KnowF, FreeF, and_true] at hk hf
      have e110 := (hk).ev (v := .bool true) rfl
      exact flow_on (rfl) (flow_run (v := .bool true) (by go_simp) (But.refl _ _) (GV.of rfl))
    -- 112
    refine ⟨fun a9 w9 hR hk hf => ?_, ?_⟩
    · simp only [KnowF, FreeF, and_true] at hk hf
      have hgd := (hk).eval (v := .bool true) rfl
      have e17 : a9.tmps[17]?.getD undef = .pointer (some ⟨b17, 0, none⟩) := freeF_ev hf
      have hh := hR.heap H17.out (by simp)
      have f0 := cl_of hh 0
      have f1 := cl_of hh 1
      have f2 := cl_of hh 2
      have f3 := cl_of hh 3
      have f4 := cl_of hh 4
      have f5 := cl_of hh 5
      simp only [List.getElem?_toArray, List.getElem?_cons_zero, List.getElem?_cons_succ] at f0 f1 f2 f3 f4 f5
      clear hh
      exact flow_on (wanted_at (j := 48) (b := true) (s := 111) rfl rfl hgd) (flow_run (v := .agg #[.int .u64 0, .int .u64 18446744073709551615, .int .u64 0, .int .u64 18446744073709551615, .int .i64 (-9223372036854775808), .int .i64 9223372036854775807]) (by go_simp) (But.refl _ _) (GV.of rfl))
    -- 113
    refine ⟨fun a9 w9 hR hk hf => ?_, ?_⟩
    · simp only [KnowF, FreeF, and_true] at hk hf
      have hgd := (hk).eval (v := .bool true) rfl
      have e1 : a9.tmps[1]?.getD undef = .pointer (some ⟨b1, 0, none⟩) := freeF_ev hf
      have hh := hR.heap H1.out (by simp)
      have f0 := cl_of hh 0
      have f1 := cl_of hh 1
      have f2 := cl_of hh 2
      have f3 := cl_of hh 3
      have f4 := cl_of hh 4
      have f5 := cl_of hh 5
      simp only [List.getElem?_toArray, List.getElem?_cons_zero, List.getElem?_cons_succ] at f0 f1 f2 f3 f4 f5
      clear hh
      exact flow_on (wanted_at (j := 48) (b := true) (s := 111) rfl rfl hgd) (flow_run (v := .agg #[.int .u64 0, .int .u64 18446744073709551615, .int .u64 0, .int .u64 18446744073709551615, .int .i64 (-9223372036854775808), .int .i64 9223372036854775807]) (by go_simp) (But.refl _ _) (GV.of rfl))
    -- 114
    refine ⟨fun a9 w9 hR hk hf => ?_, ?_⟩
    · simp only [KnowF, FreeF, and_true] at hk hf
      have hgd := (hk.1).eval (v := .bool true) rfl
      have e112 := (hk.2.1).ev (v := .agg #[.int .u64 0, .int .u64 18446744073709551615, .int .u64 0, .int .u64 18446744073709551615, .int .i64 (-9223372036854775808), .int .i64 9223372036854775807]) rfl
      have e113 := (hk.2.2).ev (v := .agg #[.int .u64 0, .int .u64 18446744073709551615, .int .u64 0, .int .u64 18446744073709551615, .int .i64 (-9223372036854775808), .int .i64 9223372036854775807]) rfl
      exact flow_on (wanted_at (j := 48) (b := true) (s := 111) rfl rfl hgd) (flow_run (v := .bool true) (by go_simp) (But.refl _ _) (GV.of rfl))
    -- 115
    refine ⟨fun a9 w9 hR hk hf => ?_, ?_⟩
    · simp only [KnowF, FreeF, and_true] at hk hf
      have e111 := (hk.1).ev (v := .bool true) rfl
      have e114 := (hk.2).ev (v := .bool true) rfl
      exact flow_on (rfl) (flow_run (v := .bool true) (by go_simp) (But.refl _ _) (GV.of rfl))
    -- 116
    refine ⟨fun a9 w9 hR hk hf => ?_, ?_⟩
    · simp only [KnowF, FreeF, and_true] at hk hf
      have e115 := (hk).ev (v := .bool true) rfl
      exact flow_on (rfl) (flow_run (v := .bool true) (by go_simp) (But.refl _ _) (GV.of rfl))
    -- 117
    refine ⟨fun a9 w9 hR hk hf => ?_, ?_⟩
    · simp only [KnowF, FreeF, and_true] at hk hf
      have hgd := (hk).eval (v := .bool true) rfl
      have e18 : a9.tmps[18]?.getD undef = .pointer (some ⟨b18, 0, none⟩) := freeF_ev hf
      have hh := hR.heap H18.out (by simp)
      have f0 := cl_of hh 0
      have f1 := cl_of hh 1
      have f2 := cl_of hh 2
      have f3 := cl_of hh 3
      have f4 := cl_of hh 4
      have f5 := cl_of hh 5
      simp only [List.getElem?_toArray, List.getElem?_cons_zero, List.getElem?_cons_succ] at f0 f1 f2 f3 f4 f5
      clear hh
      exact flow_on (wanted_at (j := 53) (b := true) (s := 116) rfl rfl hgd) (flow_run (v := .agg #[.int .u64 1, .int .u64 0, .int .u64 1, .int .u64 1, .int .i64 1, .int .i64 1]) (by go_simp) (But.refl _ _) (GV.of rfl))
    -- 118
    refine ⟨fun a9 w9 hR hk hf => ?_, ?_⟩
    · simp only [KnowF, FreeF, and_true] at hk hf
      have hgd := (hk).eval (v := .bool true) rfl
      exact flow_on (wanted_at (j := 53) (b := true) (s := 116) rfl rfl hgd) (flow_call (f := 20) (args := #[.int .u64 1]) (by go_simp) ((const_1 _).mono (by rintro e w' ⟨rfl, hb⟩; exact ⟨_, rfl, hb, GV.of rfl⟩)))
    -- 119
    refine ⟨fun a9 w9 hR hk hf => ?_, ?_⟩
    · simp only [KnowF, FreeF, and_true] at hk hf
      have hgd := (hk.1).eval (v := .bool true) rfl
      have e117 := (hk.2.1).ev (v := .agg #[.int .u64 1, .int .u64 0, .int .u64 1, .int .u64 1, .int .i64 1, .int .i64 1]) rfl
      have e118 := (hk.2.2).ev (v := .agg #[.int .u64 1, .int .u64 0, .int .u64 1, .int .u64 1, .int .i64 1, .int .i64 1]) rfl
      exact flow_on (wanted_at (j := 53) (b := true) (s := 116) rfl rfl hgd) (flow_run (v := .bool true) (by go_simp) (But.refl _ _) (GV.of rfl))
    -- 120
    refine ⟨fun a9 w9 hR hk hf => ?_, ?_⟩
    · simp only [KnowF, FreeF, and_true] at hk hf
      have e116 := (hk.1).ev (v := .bool true) rfl
      have e119 := (hk.2).ev (v := .bool true) rfl
      exact flow_on (rfl) (flow_run (v := .bool true) (by go_simp) (But.refl _ _) (GV.of rfl))
    exact trivial
  · intro f w5 hb5 hG
    have eL : f 120 = .bool true := hG 57 _ 120 (by decide) rfl rfl _ rfl
    have HB5 := Lib.hid hb5
    clear hG hb5
    simp only [List.drop_succ_cons, List.drop_zero]
    show wpList _ _ _ _ { tmps := List.toArray (u0 :: .pointer (some ⟨b1, 0, none⟩) :: .pointer (some ⟨b2, 0, none⟩) :: u3 :: .bool true :: .pointer (some ⟨b5, 0, none⟩) :: u6 :: .bool true :: .pointer (some ⟨b8, 0, none⟩) :: .pointer (some ⟨b9, 0, none⟩) :: .bool true :: .pointer (some ⟨b11, 0, none⟩) :: u12 :: .bool true :: .pointer (some ⟨b14, 0, none⟩) :: u15 :: .bool true :: .pointer (some ⟨b17, 0, none⟩) :: .pointer (some ⟨b18, 0, none⟩) :: .bool true :: u20 :: u21 :: u22 :: u23 :: u24 :: u25 :: u26 :: u27 :: u28 :: u29 :: u30 :: u31 :: u32 :: u33 :: u34 :: u35 :: u36 :: u37 :: u38 :: u39 :: u40 :: u41 :: u42 :: u43 :: u44 :: u45 :: u46 :: u47 :: u48 :: u49 :: u50 :: u51 :: u52 :: u53 :: u54 :: u55 :: u56 :: u57 :: u58 :: u59 :: u60 :: u61 :: u62 :: f 63 :: f 64 :: f 65 :: f 66 :: f 67 :: f 68 :: f 69 :: f 70 :: f 71 :: f 72 :: f 73 :: f 74 :: f 75 :: f 76 :: f 77 :: f 78 :: f 79 :: f 80 :: f 81 :: f 82 :: f 83 :: f 84 :: f 85 :: f 86 :: f 87 :: f 88 :: f 89 :: f 90 :: f 91 :: f 92 :: f 93 :: f 94 :: f 95 :: f 96 :: f 97 :: f 98 :: f 99 :: f 100 :: f 101 :: f 102 :: f 103 :: f 104 :: f 105 :: f 106 :: f 107 :: f 108 :: f 109 :: f 110 :: f 111 :: f 112 :: f 113 :: f 114 :: f 115 :: f 116 :: f 117 :: f 118 :: f 119 :: f 120 :: []), defers := [] } w5
    go_wp2_with fail
    rw [eL]
    exact HQ.out _ _ _ _ _ _ _ _ _ _ _ _ _ _ _ _ _ _ _ _ _ _ _ _ _ _ _ _ _ _ _ _ _ _ _ _ _ _ _ _ _ _ _ _ _ _ _ _ _ _ _ _ _ _ _ _ _ _ _ HB5.out
end Go.Proofs.Ytmbmmcippglfoaa.M
