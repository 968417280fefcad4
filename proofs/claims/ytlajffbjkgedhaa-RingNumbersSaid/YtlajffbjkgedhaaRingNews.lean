/-
  New, of any make, by the program and by the document; great, once more.
-/
import Derived.Test.YtlajffbjkgedhaaRefPut
import Derived.Test.YtlajffbjkgedhaaRingAwake
import Derived.Lib.SmallJoins
namespace Go.Proofs.Ytlajffbjkgedhaa.M
open Go.RowKit
set_option linter.unusedVariables false
set_option linter.unusedSectionVars false
set_option linter.unusedSimpArgs false
structure MSpec where
  (k key val ent : Int)
def MSpec.v (s : MSpec) : Value := .agg #[.int .u8 s.k, .int .i64 s.key, .int .i64 s.val, .int .i64 s.ent]
theorem newErr (k key val ent E : Int) (w : World) (hk : (Lit.int .u8 k).wf = true) (hE : specE k key val ent = E) (h0 : (E == 0) = false) :
    Calls Try.prog 9 #[.agg #[.int .u8 k, .int .i64 key, .int .i64 val, .int .i64 ent]] w fun e w' => e = .returned (.tuple #[.pointer none, .int .i64 E]) ∧ But [] w w' := by
  have hn0 : (E != 0) = true := by simpa using h0
  have HE := Lib.hid hE
  clear hE
  go_enter Try.func9, Try.ntmps9
  go_wp2_with fail
  refine (calls_val (specAny k key val ent _ hk) (v' := .int .i64 E) (by rw [HE.out])).mono ?_
  rintro e w1 ⟨rfl, hb⟩
  go_wp2_with fail
  go_ret2
  exact ⟨rfl, ((But.refl _ _).alloc _).trans hb (by simp)⟩
theorem newKind (k key val ent : Int) (w : World) (hk : (Lit.int .u8 k).wf = true) (hE : specE k key val ent = 0) (h7 : (k == 7) = false) :
    Calls Try.prog 9 #[.agg #[.int .u8 k, .int .i64 key, .int .i64 val, .int .i64 ent]] w fun e w' => e = .returned (.tuple #[.pointer none, .int .i64 9]) ∧ But [] w w' := by
  have h7' : (k != 7) = true := by simpa using h7
  have HE := Lib.hid hE
  have hb1 : But [] w (w.alloc (.cells #[.int .u8 k, .int .i64 key, .int .i64 val, .int .i64 ent] 24)) := (But.refl [] w).alloc _
  have ha := al_at w (.cells #[.int .u8 k, .int .i64 key, .int .i64 val, .int .i64 ent] 24)
  have HB1 := Lib.hid hb1
  have HAA := Lib.hid ha
  clear hE hb1 ha
  go_enter Try.func9, Try.ntmps9
  go_wp2_with fail
  refine (calls_val (specAny k key val ent _ hk) (v' := .int .i64 0) (by rw [HE.out])).mono ?_
  rintro e w1 ⟨rfl, hb⟩
  have c0 : w1.cell? ⟨w.heap.size, 0, none⟩ = some (.int .u8 k) := cl_of (hb.heap HAA.out (by simp)) 0
  have HB := Lib.hid hb
  clear hb
  go_wp2_with fail
  go_ret2
  exact ⟨rfl, HB1.out.trans HB.out (by simp)⟩
theorem refNewErr (k key val ent E : Int) (w : World) (hE : specE k key val ent = E) (h0 : (E == 0) = false) :
    Calls Try.prog 10 #[.agg #[.int .u8 k, .int .i64 key, .int .i64 val, .int .i64 ent]] w fun e w' => e = .returned (.tuple #[.pointer none, .int .i64 E]) ∧ But [] w w' := by
  have hn0 : (E != 0) = true := by simpa using h0
  have HE := Lib.hid hE
  clear hE
  go_enter Try.func10, Try.ntmps10
  go_wp2_with fail
  refine (calls_val (refSpec k key val ent _) (v' := .int .i64 E) (by rw [HE.out])).mono ?_
  rintro e w1 ⟨rfl, hb⟩
  go_wp2_with fail
  go_ret2
  exact ⟨rfl, ((But.refl _ _).alloc _).trans hb (by simp)⟩
theorem refNewKind (k key val ent : Int) (w : World) (hE : specE k key val ent = 0) (h7 : (k == 7) = false) :
    Calls Try.prog 10 #[.agg #[.int .u8 k, .int .i64 key, .int .i64 val, .int .i64 ent]] w fun e w' => e = .returned (.tuple #[.pointer none, .int .i64 9]) ∧ But [] w w' := by
  have h7' : (k != 7) = true := by simpa using h7
  have HE := Lib.hid hE
  have hb1 : But [] w (w.alloc (.cells #[.int .u8 k, .int .i64 key, .int .i64 val, .int .i64 ent] 24)) := (But.refl [] w).alloc _
  have ha := al_at w (.cells #[.int .u8 k, .int .i64 key, .int .i64 val, .int .i64 ent] 24)
  have HB1 := Lib.hid hb1
  have HAA := Lib.hid ha
  clear hE hb1 ha
  go_enter Try.func10, Try.ntmps10
  go_wp2_with fail
  refine (calls_val (refSpec k key val ent _) (v' := .int .i64 0) (by rw [HE.out])).mono ?_
  rintro e w1 ⟨rfl, hb⟩
  have c0 : w1.cell? ⟨w.heap.size, 0, none⟩ = some (.int .u8 k) := cl_of (hb.heap HAA.out (by simp)) 0
  have HB := Lib.hid hb
  clear hb
  go_wp2_with fail
  go_ret2
  exact ⟨rfl, HB1.out.trans HB.out (by simp)⟩
theorem refNew7 (n : Int) (w : World) (h1 : 16 ≤ n) (h2 : n ≤ 16384) (ok : Nat → Prop) (hok : ∀ b, w.heap.size ≤ b → ok b) :
    Calls Try.prog 10 #[.agg #[.int .u8 7, .int .i64 0, .int .i64 0, .int .i64 n]] w fun e w' => ∃ X, e = .returned (.tuple #[.pointer (some ⟨X, 0, none⟩), .int .i64 0]) ∧ RefS w' ok X n [] ∧ But [] w w' := by
  have hE : specE 7 0 0 n = 0 := by simp [specE, rowB7, rowE, inB, h1, h2]
  have HE := Lib.hid hE
  have hb1 : But [] w (w.alloc (.cells #[.int .u8 7, .int .i64 0, .int .i64 0, .int .i64 n] 24)) := (But.refl [] w).alloc _
  have ha := al_at w (.cells #[.int .u8 7, .int .i64 0, .int .i64 0, .int .i64 n] 24)
  have HB1 := Lib.hid hb1
  have HAA := Lib.hid ha
  clear hE hb1 ha
  go_enter Try.func10, Try.ntmps10
  go_wp2_with fail
  refine (calls_val (refSpec 7 0 0 n _) (v' := .int .i64 0) (by rw [HE.out])).mono ?_
  rintro e w1 ⟨rfl, hb⟩
  have hh := hb.heap HAA.out (by simp)
  have c0 : w1.cell? ⟨w.heap.size, 0, none⟩ = some (.int .u8 7) := cl_of hh 0
  have c1 : w1.cell? ⟨w.heap.size, 1, none⟩ = some (.int .i64 0) := cl_of hh 1
  have c2 : w1.cell? ⟨w.heap.size, 2, none⟩ = some (.int .i64 0) := cl_of hh 2
  have c3 : w1.cell? ⟨w.heap.size, 3, none⟩ = some (.int .i64 n) := cl_of hh 3
  have HB := Lib.hid (HB1.out.trans hb (by simp))
  clear hb hh
  go_wp2_with fail
  go_ret2
  exact ⟨w1.heap.size, rfl, ⟨hok _ HB.out.size, none, 0, [], al_at w1 _, .inl ⟨rfl, rfl⟩, rfl, (fun b hb => by cases hb), (fun j v r hv => by simp at hv)⟩, HB.out.alloc _⟩
def GreatPost (l : List Deed) (w : World) (e : Ending) (w' : World) : Prop := ∃ b, e = .returned (.bool b) ∧ (b = false → l.length ≤ 300) ∧ But [] w w'
set_option maxRecDepth 100000 in
set_option maxHeartbeats 1000000 in
theorem great2 (v : Value) (l : List Deed) (w : World) (hs : SeesDeeds w v l) (hl : l.length ≤ 4398046510976) :
    Calls Try.prog 7 #[v] w (GreatPost l w) := by
  by_cases h3 : l.length ≤ 300
  · exact (great v l w hs hl).mono fun e w' ⟨b, he, hb⟩ => ⟨b, he, fun _ => h3, hb⟩
  · obtain ⟨a, c, rfl, hD⟩ := hs
    clear hD
    have h4 : (300 : Int) < l.length := by omega
    have h5 : ¬ ((l.length : Int) ≤ 300) := by omega
    go_enter Try.func7, Try.ntmps7
    go_wp2_with fail
    refine wp_loop_rounds 1 ?_
    rw [rounds_succ]
    go_wp2_with fail
    go_ret
    exact ⟨true, rfl, (fun h => by cases h), But.refl _ _⟩
section
variable {H : Type} {enc : TypeId × Value → H} {w : World}
set_option maxRecDepth 100000 in
theorem spec_in {base : Nat} {v : Value} {d : DataW H} {ps : List MemPlace} (hval : Value.okWide Try.prog w .any base 24 v) (h : DataW.Trod enc Try.prog w 0 (fun _ => true) true 24 v d ps) (hsz : ∀ n ∈ d.weights Try.prog 24, n ≤ reachBytes) :
    ∃ s : MSpec, v = s.v ∧ ((Lit.int .u8 s.k).wf = true ∧ (Lit.int .i64 s.key).wf = true ∧ (Lit.int .i64 s.val).wf = true ∧ (Lit.int .i64 s.ent).wf = true) := by
  obtain ⟨v0, v1, v2, v3, y0, y1, y2, y3, n, rfl, _, _, h0, h1, h2, h3⟩ := Joins.open_agg4 Try.underlying24 (by kernel_rfl) (by kernel_rfl) hval h
  obtain ⟨k, rfl, w0⟩ := int_cell rowK h0
  obtain ⟨key, rfl, w1⟩ := int_cell Try.underlying3 h1
  obtain ⟨val, rfl, w2⟩ := int_cell Try.underlying3 h2
  obtain ⟨ent, rfl, w3⟩ := int_cell Try.underlying3 h3
  exact ⟨⟨k, key, val, ent⟩, rfl, w0, w1, w2, w3⟩
end
end Go.Proofs.Ytlajffbjkgedhaa.M
