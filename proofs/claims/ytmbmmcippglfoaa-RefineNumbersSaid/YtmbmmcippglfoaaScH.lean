/-
  refine.rules: the table of rules.
-/
import Derived.Test.YtmbmmcippglfoaaScG
import Derived.Test.YtmbmmcippglfoaaMapU
import Derived.Test.YtmbmmcippglfoaaGF
namespace Go.Proofs.Ytmbmmcippglfoaa.M
open Go.RowKit Go.Shelf
set_option linter.unusedVariables false
set_option linter.unusedSectionVars false
set_option linter.unusedSimpArgs false

/-- A cell that reads, reads so later. -/
def KC (W W' : World) : Prop := ∀ p v, W.cell? p = some v → W'.cell? p = some v
theorem KC.refl (W : World) : KC W W := fun _ _ h => h
theorem KC.trans {U V W : World} (h : KC U V) (k : KC V W) : KC U W := fun p v x => k p v (h p v x)
theorem KC.of_but {U V : World} (h : But [] U V) : KC U V := fun p v x => cell_but h x (by simp)
theorem KC.setBlock {W : World} {M : Nat} {es : Array MapEntry} {c : Nat} (h : W.heap[M]? = some (.map es c)) (o : Obj) : KC W (ChangeMaps.setBlock W M o) := fun p v x => by
  have hne : M ≠ p.block := fun e => by
    unfold World.cell? at x
    rw [← e, h] at x
    simp at x
  unfold World.cell? ChangeMaps.setBlock at *
  simp only [Array.getElem?_setIfInBounds_ne hne]
  exact x
/-- What a function value does as a rule. -/
def RuleV (v : Value) (f : Sc → Sc → Option Sc) (W : World) : Prop := ∃ (k : Nat) (caps : Array Value) (fs : List (Nat × Bool)), v = .func (.func k) #[] caps ∧ (∀ (args : Array Value) (w : World), (callFunc k args).run Try.prog w = .ok (.enter k args) w) ∧ (∀ p ∈ fs, W.cell? ⟨p.1, 0, none⟩ = some (.bool p.2)) ∧ ∀ (w' : World) (a b : Sc), (∀ p ∈ fs, w'.cell? ⟨p.1, 0, none⟩ = some (.bool p.2)) → Fx a → Fx b → Calls Try.prog k (#[a.val, b.val] ++ caps) w' (RulePost (f a b) w')
theorem RuleV.keep {v : Value} {f : Sc → Sc → Option Sc} {W W' : World} (h : RuleV v f W) (k : KC W W') : RuleV v f W' := by
  obtain ⟨n, caps, fs, h1, h2, h3, h4⟩ := h
  exact ⟨n, caps, fs, h1, h2, fun p hp => k _ _ (h3 p hp), h4⟩
theorem RuleV.one {v : Value} {f : Sc → Sc → Option Sc} {W : World} (h : RuleV v f W) : v.oneCell' = true := by
  obtain ⟨n, caps, fs, rfl, _⟩ := h
  rfl
theorem lowRg (q : Bool) {a b : Sc} (ha : Fx a) (hb : Fx b) : Rg (lowA q a b) := by
  have := ha.rg
  exact ⟨this.v, this.m, this.lo, Nat.lt_of_le_of_lt (Nat.min_le_left _ _) this.hi, this.sl, this.sh⟩
theorem uppRg (q : Bool) {a b : Sc} (ha : Fx a) (hb : Fx b) : Rg (uppA q a b) := by
  have := ha.rg; have h2 := hb.rg.lo
  refine ⟨this.v, this.m, ?_, this.hi, this.sl, this.sh⟩
  have h3 : abU q b.s.lo < 18446744073709551616 := by
    unfold abU
    split
    · exact h2
    · exact toU_lt _
  have h4 := this.lo
  simp only [uppA]
  omega
theorem lesRg (q : Bool) {a b : Sc} (ha : Fx a) (hb : Fx b) : Rg (lesA q a b) := by
  have := ha.rg
  exact ⟨this.v, this.m, this.lo, this.hi, this.sl, Int.le_trans (Int.min_le_left _ _) this.sh⟩
theorem morRg (q : Bool) {a b : Sc} (ha : Fx a) (hb : Fx b) : Rg (morA q a b) := by
  have := ha.rg
  exact ⟨this.v, this.m, this.lo, this.hi, Int.le_trans this.sl (Int.le_max_left _ _), this.sh⟩
theorem meetV (W : World) : RuleV (.func (.func 51) #[] #[]) scMeetT W := ⟨_, #[], [], rfl, (fun args w => by kernel_rfl), by simp, fun w' a b _ ha hb => meet_c _ _ _ _ _ _ _ _ _ _ _ _ w' ha.rg hb.rg⟩
theorem otherV (W : World) : RuleV (.func (.func 52) #[] #[]) otherT W := ⟨_, #[], [], rfl, (fun args w => by kernel_rfl), by simp, fun w' a b _ ha hb => other_c _ _ _ _ _ _ _ _ _ _ _ _ w' ha.rg hb.rg⟩
theorem someV (W : World) : RuleV (.func (.func 53) #[] #[]) someT W := ⟨_, #[], [], rfl, (fun args w => by kernel_rfl), by simp, fun w' a b _ ha hb => some_c _ _ _ _ _ _ _ _ _ _ _ _ w' ha.rg hb.rg⟩
theorem noneV (W : World) : RuleV (.func (.func 48) #[] #[]) noneT W := ⟨_, #[], [], rfl, (fun args w => by kernel_rfl), by simp, fun w' a b _ ha hb => none_c _ _ _ _ _ _ _ _ _ _ _ _ w' ha.rg hb.rg⟩
theorem lowV (q : Bool) (k : Nat) (W : World) (h : W.cell? ⟨k, 0, none⟩ = some (.bool q)) : RuleV (.func (.func 91) #[] #[.pointer (some ⟨k, 0, none⟩)]) (lowT q) W := ⟨_, #[.pointer (some ⟨k, 0, none⟩)], [(k, q)], rfl, (fun args w => by kernel_rfl), by simpa using h, fun w' a b hq ha hb => lower1_c _ _ _ _ _ _ _ _ _ _ _ _ q k w' (lowRg q ha hb) hb.rg.hi (hq (k, q) (by simp))⟩
set_option maxHeartbeats 1000000 in
theorem lowM (q : Bool) (w : World) : Calls Try.prog 54 #[.bool q] w fun e w' => ∃ k, e = .returned (.func (.func 91) #[] #[.pointer (some ⟨k, 0, none⟩)]) ∧ w'.cell? ⟨k, 0, none⟩ = some (.bool q) ∧ But [] w w' := by
  go_enter Try.func54, Try.ntmps54
  go_wp2
  go_ret
  exact ⟨_, rfl, cl_of (al_at w _) 0, (But.refl _ _).alloc _⟩
theorem uppV (q : Bool) (k : Nat) (W : World) (h : W.cell? ⟨k, 0, none⟩ = some (.bool q)) : RuleV (.func (.func 93) #[] #[.pointer (some ⟨k, 0, none⟩)]) (uppT q) W := ⟨_, #[.pointer (some ⟨k, 0, none⟩)], [(k, q)], rfl, (fun args w => by kernel_rfl), by simpa using h, fun w' a b hq ha hb => upper1_c _ _ _ _ _ _ _ _ _ _ _ _ q k w' (uppRg q ha hb) hb.rg.lo (hq (k, q) (by simp))⟩
set_option maxHeartbeats 1000000 in
theorem uppM (q : Bool) (w : World) : Calls Try.prog 55 #[.bool q] w fun e w' => ∃ k, e = .returned (.func (.func 93) #[] #[.pointer (some ⟨k, 0, none⟩)]) ∧ w'.cell? ⟨k, 0, none⟩ = some (.bool q) ∧ But [] w w' := by
  go_enter Try.func55, Try.ntmps55
  go_wp2
  go_ret
  exact ⟨_, rfl, cl_of (al_at w _) 0, (But.refl _ _).alloc _⟩
theorem lesV (q : Bool) (k : Nat) (W : World) (h : W.cell? ⟨k, 0, none⟩ = some (.bool q)) : RuleV (.func (.func 95) #[] #[.pointer (some ⟨k, 0, none⟩)]) (lesT q) W := ⟨_, #[.pointer (some ⟨k, 0, none⟩)], [(k, q)], rfl, (fun args w => by kernel_rfl), by simpa using h, fun w' a b hq ha hb => less1_c _ _ _ _ _ _ _ _ _ _ _ _ q k w' (lesRg q ha hb) (Int.le_trans hb.wf.sl hb.wf.i) hb.wf.sh (hq (k, q) (by simp))⟩
set_option maxHeartbeats 1000000 in
theorem lesM (q : Bool) (w : World) : Calls Try.prog 56 #[.bool q] w fun e w' => ∃ k, e = .returned (.func (.func 95) #[] #[.pointer (some ⟨k, 0, none⟩)]) ∧ w'.cell? ⟨k, 0, none⟩ = some (.bool q) ∧ But [] w w' := by
  go_enter Try.func56, Try.ntmps56
  go_wp2
  go_ret
  exact ⟨_, rfl, cl_of (al_at w _) 0, (But.refl _ _).alloc _⟩
theorem morV (q : Bool) (k : Nat) (W : World) (h : W.cell? ⟨k, 0, none⟩ = some (.bool q)) : RuleV (.func (.func 97) #[] #[.pointer (some ⟨k, 0, none⟩)]) (morT q) W := ⟨_, #[.pointer (some ⟨k, 0, none⟩)], [(k, q)], rfl, (fun args w => by kernel_rfl), by simpa using h, fun w' a b hq ha hb => more1_c _ _ _ _ _ _ _ _ _ _ _ _ q k w' (morRg q ha hb) hb.wf.sl (Int.le_trans hb.wf.i hb.wf.sh) (hq (k, q) (by simp))⟩
set_option maxHeartbeats 1000000 in
theorem morM (q : Bool) (w : World) : Calls Try.prog 57 #[.bool q] w fun e w' => ∃ k, e = .returned (.func (.func 97) #[] #[.pointer (some ⟨k, 0, none⟩)]) ∧ w'.cell? ⟨k, 0, none⟩ = some (.bool q) ∧ But [] w w' := by
  go_enter Try.func57, Try.ntmps57
  go_wp2
  go_ret
  exact ⟨_, rfl, cl_of (al_at w _) 0, (But.refl _ _).alloc _⟩
end Go.Proofs.Ytmbmmcippglfoaa.M
