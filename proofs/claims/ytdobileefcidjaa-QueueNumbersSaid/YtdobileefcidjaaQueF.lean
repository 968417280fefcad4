/-
  New, of any make.
-/
import Derived.Test.YtdobileefcidjaaQueE
import Derived.Test.YtdobileefcidjaaSpecAny
import Derived.Test.YtdobileefcidjaaStr
import Derived.Lib.SmallJoins
namespace Go.Proofs.Ytdobileefcidjaa.M
open Go.RowKit Go.Shelf
set_option linter.unusedVariables false
set_option linter.unusedSectionVars false
set_option linter.unusedSimpArgs false
structure MSpec where
  (k key val ent : Int)
def MSpec.v (s : MSpec) : Value := .agg #[.int .u8 s.k, .int .i64 s.key, .int .i64 s.val, .int .i64 s.ent]
theorem newErr (k key val ent E : Int) (w : World) (hk : (Lit.int .u8 k).wf = true) (hE : specE k key val ent = E) (h0 : (E == 0) = false) :
    Calls Try.prog 9 #[.agg #[.int .u8 k, .int .i64 key, .int .i64 val, .int .i64 ent]] w fun e w' => e = .returned (.tuple #[.pointer none, .int .i64 E]) ∧ But [] w w' := by
  have hn0 : (E != 0) = true := by simpa using h0
  have HE := Lib.hid hE
  clear hE
  go_enter Try.func9, Try.ntmps9
  go_wp2_with fail
  refine (calls_val (specAny k key val ent _ hk) (v' := .int .i64 E) (by rw [HE.out])).mono ?_
  rintro e w1 ⟨rfl, hb⟩
  go_wp2_with fail
  go_ret2
  exact ⟨rfl, ((But.refl _ _).alloc _).trans hb (by simp)⟩
theorem newKind (k key val ent : Int) (w : World) (hk : (Lit.int .u8 k).wf = true) (hE : specE k key val ent = 0) (h5 : (k == 5) = false) (h6 : (k == 6) = false) :
    Calls Try.prog 9 #[.agg #[.int .u8 k, .int .i64 key, .int .i64 val, .int .i64 ent]] w fun e w' => e = .returned (.tuple #[.pointer none, .int .i64 9]) ∧ But [] w w' := by
  have HE := Lib.hid hE
  have hb1 : But [] w (w.alloc (.cells #[.int .u8 k, .int .i64 key, .int .i64 val, .int .i64 ent] 24)) := (But.refl [] w).alloc _
  have ha := al_at w (.cells #[.int .u8 k, .int .i64 key, .int .i64 val, .int .i64 ent] 24)
  have HB1 := Lib.hid hb1
  have HAA := Lib.hid ha
  clear hE hb1 ha
  go_enter Try.func9, Try.ntmps9
  go_wp2_with fail
  refine (calls_val (specAny k key val ent _ hk) (v' := .int .i64 0) (by rw [HE.out])).mono ?_
  rintro e w1 ⟨rfl, hb⟩
  have hs := hb.heap HAA.out (by simp)
  have c0 : w1.cell? ⟨w.heap.size, 0, none⟩ = some (.int .u8 k) := cl_of hs 0
  have c1 : w1.cell? ⟨w.heap.size, 1, none⟩ = some (.int .i64 key) := cl_of hs 1
  have c2 : w1.cell? ⟨w.heap.size, 2, none⟩ = some (.int .i64 val) := cl_of hs 2
  have c3 : w1.cell? ⟨w.heap.size, 3, none⟩ = some (.int .i64 ent) := cl_of hs 3
  have hlt := lt_of hs
  have HB := Lib.hid (HB1.out.trans hb (by simp))
  clear hb hs
  go_wp2_with fail
  go_ret2
  exact ⟨rfl, (HB.out.alloc _).alloc _⟩
def kindOf (stack : Bool) : Int := if stack then 6 else 5
theorem queue_made {w1 : World} {ok : Nat → Prop} (hok : ∀ b, w1.heap.size ≤ b → ok b) (stack : Bool) (k val ent : Int) (nx : Value) (hn : nx = if stack then .func (.func 26) #[] #[.pointer (some ⟨w1.heap.size + 1, 0, none⟩)] else .func (.func 25) #[] #[]) :
    QueueS ((w1.alloc (.cells #[.slice none 0 0, .int .u8 k, .int .i64 0, .int .i64 val, .int .i64 ent, nx] 55)).alloc (.cells #[.pointer (some ⟨w1.heap.size, 0, none⟩)] 28)) ok w1.heap.size stack val ent [] := by
  refine ⟨hok _ (Nat.le_refl _), none, 0, [], k, nx, al_keep (al_at w1 _) _, ?_, .inl ⟨rfl, rfl⟩, rfl, (fun b hb => by cases hb), (fun j v r hv => by simp at hv)⟩
  cases stack with
  | false => exact .inl ⟨rfl, hn⟩
  | true => exact .inr ⟨rfl, w1.heap.size + 1, hn, al_eq _ _ _ (by rw [size_alloc]), hok _ (by omega)⟩
theorem newQueue (val ent : Int) (w : World) (hE : specE 5 0 val ent = 0) (ok : Nat → Prop) (hok : ∀ b, w.heap.size ≤ b → ok b) :
    Calls Try.prog 9 #[.agg #[.int .u8 5, .int .i64 0, .int .i64 val, .int .i64 ent]] w fun e w' => ∃ Q, e = .returned (.tuple #[.pointer (some ⟨Q, 0, none⟩), .int .i64 0]) ∧ QueueS w' ok Q false val ent [] ∧ But [] w w' := by
  have HE := Lib.hid hE
  have hb1 : But [] w (w.alloc (.cells #[.int .u8 5, .int .i64 0, .int .i64 val, .int .i64 ent] 24)) := (But.refl [] w).alloc _
  have ha := al_at w (.cells #[.int .u8 5, .int .i64 0, .int .i64 val, .int .i64 ent] 24)
  have HB1 := Lib.hid hb1
  have HAA := Lib.hid ha
  have HOK : Hid (∀ b, w.heap.size ≤ b → ok b) := Lib.hid hok
  clear hE hb1 ha hok
  go_enter Try.func9, Try.ntmps9
  go_wp2_with fail
  refine (calls_val (specAny 5 0 val ent _ rfl) (v' := .int .i64 0) (by rw [HE.out])).mono ?_
  rintro e w1 ⟨rfl, hb⟩
  have hs := hb.heap HAA.out (by simp)
  have c0 : w1.cell? ⟨w.heap.size, 0, none⟩ = some (.int .u8 5) := cl_of hs 0
  have c1 : w1.cell? ⟨w.heap.size, 1, none⟩ = some (.int .i64 0) := cl_of hs 1
  have c2 : w1.cell? ⟨w.heap.size, 2, none⟩ = some (.int .i64 val) := cl_of hs 2
  have c3 : w1.cell? ⟨w.heap.size, 3, none⟩ = some (.int .i64 ent) := cl_of hs 3
  have hlt := lt_of hs
  have HB := Lib.hid (HB1.out.trans hb (by simp))
  clear hb hs
  go_wp2_with fail
  go_ret2
  exact ⟨w1.heap.size, rfl, queue_made (fun b hb => HOK.out b (Nat.le_trans HB.out.size hb)) false 5 val ent _ rfl, (HB.out.alloc _).alloc _⟩
theorem newStack (val ent : Int) (w : World) (hE : specE 6 0 val ent = 0) (ok : Nat → Prop) (hok : ∀ b, w.heap.size ≤ b → ok b) :
    Calls Try.prog 9 #[.agg #[.int .u8 6, .int .i64 0, .int .i64 val, .int .i64 ent]] w fun e w' => ∃ Q, e = .returned (.tuple #[.pointer (some ⟨Q, 0, none⟩), .int .i64 0]) ∧ QueueS w' ok Q true val ent [] ∧ But [] w w' := by
  have HE := Lib.hid hE
  have hb1 : But [] w (w.alloc (.cells #[.int .u8 6, .int .i64 0, .int .i64 val, .int .i64 ent] 24)) := (But.refl [] w).alloc _
  have ha := al_at w (.cells #[.int .u8 6, .int .i64 0, .int .i64 val, .int .i64 ent] 24)
  have HB1 := Lib.hid hb1
  have HAA := Lib.hid ha
  have HOK : Hid (∀ b, w.heap.size ≤ b → ok b) := Lib.hid hok
  clear hE hb1 ha hok
  go_enter Try.func9, Try.ntmps9
  go_wp2_with fail
  refine (calls_val (specAny 6 0 val ent _ rfl) (v' := .int .i64 0) (by rw [HE.out])).mono ?_
  rintro e w1 ⟨rfl, hb⟩
  have hs := hb.heap HAA.out (by simp)
  have c0 : w1.cell? ⟨w.heap.size, 0, none⟩ = some (.int .u8 6) := cl_of hs 0
  have c1 : w1.cell? ⟨w.heap.size, 1, none⟩ = some (.int .i64 0) := cl_of hs 1
  have c2 : w1.cell? ⟨w.heap.size, 2, none⟩ = some (.int .i64 val) := cl_of hs 2
  have c3 : w1.cell? ⟨w.heap.size, 3, none⟩ = some (.int .i64 ent) := cl_of hs 3
  have hlt := lt_of hs
  have HB := Lib.hid (HB1.out.trans hb (by simp))
  clear hb hs
  go_wp2_with fail
  go_ret2
  exact ⟨w1.heap.size, rfl, queue_made (fun b hb => HOK.out b (Nat.le_trans HB.out.size hb)) true 6 val ent _ rfl, (HB.out.alloc _).alloc _⟩
end Go.Proofs.Ytdobileefcidjaa.M
