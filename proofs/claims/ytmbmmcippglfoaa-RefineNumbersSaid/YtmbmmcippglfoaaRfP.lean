/-
  Plain: pairs of rules, as the reference tells them.
-/
import Derived.Test.YtmbmmcippglfoaaBrA
namespace Go.Proofs.Ytmbmmcippglfoaa.M
open Go.RowKit
set_option linter.unusedVariables false
set_option linter.unusedSectionVars false
set_option linter.unusedSimpArgs false
/-- What a pair of rules tells. -/
def PairPost (r : Option (Sc × Sc)) (w : World) (e : Ending) (w' : World) : Prop := ∃ c d : Sc, e = .returned (.tuple #[c.val, d.val, .bool r.isSome]) ∧ (∀ x, r = some x → x = (c, d)) ∧ But [] w w'
theorem PairPost.mk {r : Option (Sc × Sc)} {w w' : World} {e : Ending} (c d : Sc) (h1 : e = .returned (.tuple #[c.val, d.val, .bool r.isSome])) (h2 : ∀ x, r = some x → x = (c, d)) (h3 : But [] w w') : PairPost r w e w' := ⟨c, d, h1, h2, h3⟩
def pairO (p q : Option Sc) : Option (Sc × Sc) := p.bind fun c => q.map fun d => (c, d)
theorem pairO_none1 {p q : Option Sc} (h : p = none) : pairO p q = none := by subst h; rfl
theorem pairO_none2 {p q : Option Sc} (h : q = none) : pairO p q = none := by subst h; cases p <;> rfl
theorem pairO_is (p q : Option Sc) : (pairO p q).isSome = (p.isSome && q.isSome) := by cases p <;> cases q <;> rfl
theorem pairO_eq {p q : Option Sc} {x : Sc × Sc} (h : pairO p q = some x) : p = some x.1 ∧ q = some x.2 := by
  unfold pairO at h
  cases p with
  | none => cases h
  | some c =>
    cases q with
    | none => cases h
    | some d => simp at h; subst h; exact ⟨rfl, rfl⟩
theorem pairO_get {p q : Option Sc} {c d : Sc} (hp : ∀ x, p = some x → c = x) (hq : ∀ x, q = some x → d = x) : ∀ x, pairO p q = some x → x = (c, d) := fun x h => by
  obtain ⟨h1, h2⟩ := pairO_eq h
  rw [hp _ h1, hq _ h2]
theorem getD_is {p : Option Sc} {c : Sc} (h : p.getD zeroSc = c) : ∀ x, p = some x → c = x := fun x e => by rw [← h, e]; rfl
theorem hold_both (op : Nat) (a b : Sc) : holdT op a b = pairO (ruleT op false a b) (ruleT op true b a) := rfl
theorem pairO_swap (p q : Option Sc) : pairO p q = (pairO q p).map fun x => (x.2, x.1) := by cases p <;> cases q <;> rfl
theorem less_true {a b : Sc} (ha : Rg a) (hb : Rg b) : ∃ p r : Nat, min (a.s.hi : Int) (b.s.hi : Int) = (p : Int) ∧ max (b.s.lo : Int) (a.s.lo : Int) = (r : Int) ∧ Rg ⟨a.t, ⟨a.s.lo, p, a.s.sl, a.s.sh⟩⟩ ∧ Rg ⟨b.t, ⟨r, b.s.hi, b.s.sl, b.s.sh⟩⟩ ∧ lowT true a b = ofT ⟨a.t, ⟨a.s.lo, p, a.s.sl, a.s.sh⟩⟩ ∧ uppT true b a = ofT ⟨b.t, ⟨r, b.s.hi, b.s.sl, b.s.sh⟩⟩ := by
  have h1 := ha.hi; have h2 := hb.hi; have h3 := ha.lo; have h4 := hb.lo
  exact ⟨min a.s.hi b.s.hi, max b.s.lo a.s.lo, by omega, by omega, ⟨ha.v, ha.m, ha.lo, by simp only; omega, ha.sl, ha.sh⟩, ⟨hb.v, hb.m, by simp only; omega, hb.hi, hb.sl, hb.sh⟩, rfl, rfl⟩
theorem less_false {a b : Sc} (ha : Rg a) (hb : Rg b) (h1 : b.s.hi ≠ 0) (h2 : a.s.lo ≠ 18446744073709551615) : ∃ n k p r : Nat, IntKind.u64.wrap ((b.s.hi : Int) - 1) = (n : Int) ∧ IntKind.u64.wrap ((a.s.lo : Int) + 1) = (k : Int) ∧ min (a.s.hi : Int) (n : Int) = (p : Int) ∧ max (b.s.lo : Int) (k : Int) = (r : Int) ∧ Rg ⟨a.t, ⟨a.s.lo, p, a.s.sl, a.s.sh⟩⟩ ∧ Rg ⟨b.t, ⟨r, b.s.hi, b.s.sl, b.s.sh⟩⟩ ∧ lowT false a b = ofT ⟨a.t, ⟨a.s.lo, p, a.s.sl, a.s.sh⟩⟩ ∧ uppT false b a = ofT ⟨b.t, ⟨r, b.s.hi, b.s.sl, b.s.sh⟩⟩ := by
  have k1 := ha.hi; have k2 := hb.hi; have k3 := ha.lo; have k4 := hb.lo
  have k5 := toU_lt ((a.s.lo : Int) + 1)
  refine ⟨toU ((b.s.hi : Int) - 1), toU ((a.s.lo : Int) + 1), min a.s.hi (toU ((b.s.hi : Int) - 1)), max b.s.lo (toU ((a.s.lo : Int) + 1)), toU_wrap _, toU_wrap _, by omega, by omega, ⟨ha.v, ha.m, ha.lo, by simp only; omega, ha.sl, ha.sh⟩, ⟨hb.v, hb.m, by simp only; omega, hb.hi, hb.sl, hb.sh⟩, ?_, ?_⟩
  · unfold lowT
    rw [if_pos (by simp [beUo]; omega)]
    rfl
  · unfold uppT
    rw [if_pos (by simp [abUo]; omega)]
    rfl
theorem less_no {a b : Sc} (h : b.s.hi = 0 ∨ a.s.lo = 18446744073709551615) : pairO (lowT false a b) (uppT false b a) = none := by
  rcases h with h | h
  · exact pairO_none1 (by unfold lowT; rw [if_neg (by simp [beUo, h])])
  · exact pairO_none2 (by unfold uppT; rw [if_neg (by simp [abUo, h])])
theorem under_true {a b : Sc} (ha : Rg a) (hb : Rg b) : ∃ p r : Int, min a.s.sh b.s.sh = p ∧ max b.s.sl a.s.sl = r ∧ Rg ⟨a.t, ⟨a.s.lo, a.s.hi, a.s.sl, p⟩⟩ ∧ Rg ⟨b.t, ⟨b.s.lo, b.s.hi, r, b.s.sh⟩⟩ ∧ lesT true a b = ofT ⟨a.t, ⟨a.s.lo, a.s.hi, a.s.sl, p⟩⟩ ∧ morT true b a = ofT ⟨b.t, ⟨b.s.lo, b.s.hi, r, b.s.sh⟩⟩ := by
  have h1 := ha.sh; have h2 := hb.sh; have h3 := ha.sl; have h4 := hb.sl
  exact ⟨min a.s.sh b.s.sh, max b.s.sl a.s.sl, rfl, rfl, ⟨ha.v, ha.m, ha.lo, ha.hi, ha.sl, by simp only; omega⟩, ⟨hb.v, hb.m, hb.lo, hb.hi, by simp only; omega, hb.sh⟩, rfl, rfl⟩
theorem under_false {a b : Sc} (ha : Rg a) (hb : Rg b) (h1 : b.s.sh ≠ -9223372036854775808) (h2 : a.s.sl ≠ 9223372036854775807) (h3 : -9223372036854775808 ≤ b.s.sh) (h4 : a.s.sl ≤ 9223372036854775807) : ∃ n k p r : Int, IntKind.i64.wrap (b.s.sh - 1) = n ∧ IntKind.i64.wrap (a.s.sl + 1) = k ∧ min a.s.sh n = p ∧ max b.s.sl k = r ∧ Rg ⟨a.t, ⟨a.s.lo, a.s.hi, a.s.sl, p⟩⟩ ∧ Rg ⟨b.t, ⟨b.s.lo, b.s.hi, r, b.s.sh⟩⟩ ∧ lesT false a b = ofT ⟨a.t, ⟨a.s.lo, a.s.hi, a.s.sl, p⟩⟩ ∧ morT false b a = ofT ⟨b.t, ⟨b.s.lo, b.s.hi, r, b.s.sh⟩⟩ := by
  have k1 := wrapI_bd (b.s.sh - 1)
  have k2 := wrapI_bd (a.s.sl + 1)
  have q1 := ha.sh; have q2 := hb.sl
  refine ⟨_, _, _, _, rfl, rfl, rfl, rfl, ⟨ha.v, ha.m, ha.lo, ha.hi, ha.sl, by simp only; omega⟩, ⟨hb.v, hb.m, hb.lo, hb.hi, by simp only; omega, hb.sh⟩, ?_, ?_⟩
  · unfold lesT
    rw [if_pos (by simp [beIo]; omega)]
    rfl
  · unfold morT
    rw [if_pos (by simp [abIo]; omega)]
    rfl
theorem under_no {a b : Sc} (h : b.s.sh = -9223372036854775808 ∨ a.s.sl = 9223372036854775807) : pairO (lesT false a b) (morT false b a) = none := by
  rcases h with h | h
  · exact pairO_none1 (by unfold lesT; rw [if_neg (by simp [beIo, h])])
  · exact pairO_none2 (by unfold morT; rw [if_neg (by simp [abIo, h])])
end Go.Proofs.Ytmbmmcippglfoaa.M
