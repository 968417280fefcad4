/-
  A copy into a row that is known whole: nothing else turns.
-/
import Derived.Test.YtpoinhfkgnkedaaGA
import Derived.Laws.CopyOwn
namespace Go.Proofs.Ytpoinhfkgnkedaa.M
open Go.RowKit
set_option linter.unusedVariables false
set_option linter.unusedSectionVars false
set_option linter.unusedSimpArgs false
theorem But.setRow {L : List Nat} {a b : World} (h : But L a b) {g : Nat} (hp : g ∈ L ∨ a.heap.size ≤ g) (cs : Array Value) : But L a (b.setRow g cs) :=
  ⟨h.os, h.tape, h.output, Nat.le_trans h.size (by simp [World.setRow]), fun i hi hn => (setRow_other b g i cs (fun he => by rcases hp with h1 | h1; exact hn (he ▸ h1); omega)).trans (h.block i hi hn)⟩
theorem wpList_copy_but {P : Program} {w : World} {ops : Array Oper} {rest : List Oper} {o : Oper} {a : Act} {Q : Exit → Act → World → Prop} (hgd : o.guard = none) (d s : Operand) (dT sT : TypeId)
    (ho : o.op = .call { callee := .builtin .copy, args := #[d, s], argTypes := #[dT, sT] }) (elem : TypeId) (hu : P.underlying dT = some (.slice elem)) (hsz : (P.info? elem).map (·.size) = some 1)
    (dp sp : Option Addr) (dLen dCap sLen sCap : Nat) (hd : a.eval d = .slice dp dLen dCap) (hs : a.eval s = .slice sp sLen sCap)
    (g off : Nat) (cur : List Value) (t : TypeId) (hg : w.heap[g]? = some (.cells cur.toArray t (0, 0))) (cs : List Value) (hn : cs.length = Nat.min sLen dLen)
    (hpos : 0 < cs.length → dp = some ⟨g, off, none⟩ ∧ ∃ ad, sp = some ad ∧ ∀ j v, cs[j]? = some v → w.cell? (ad.add j) = some v)
    (hfit : off + cs.length ≤ cur.length) (h1 : ∀ v ∈ cs, v.oneCell' = true)
    (h : ∀ w', w'.heap[g]? = some (.cells (splice cur off cs).toArray t (0, 0)) → But [g] w w' → wpList P ops Q rest (a.put o.dst (goInt cs.length)) w') :
    wpList P ops Q (o :: rest) a w := by
  by_cases h0 : cs.length = 0
  · obtain rfl : cs = [] := List.eq_nil_of_length_eq_zero h0
    refine wpList_copy_nothing hgd d s dT sT ho elem hu hsz dp sp dLen dCap sLen sCap hd hs (by simpa using hn.symm) ?_
    exact h w (by simpa [splice] using hg) (But.refl _ _)
  · obtain ⟨rfl, ad, rfl, hsrc⟩ := hpos (by omega)
    refine wpList_copy_own hgd d s dT sT ho elem hu hsz g off dLen dCap ad sLen sCap hd hs cur.toArray t hg cs hn hsrc (by simpa using hfit) h1 ?_
    exact h _ (by simpa [splice] using setRow_heap w g _ _ t _ hg) ((But.refl _ _).setRow (.inl (by simp)) _)
theorem sees_src {w : World} {xa : Option Addr} {xc n : Nat} {xs : List Value} (h : Sees w (.slice xa n xc) xs) (h0 : 0 < xs.length) : ∃ ad, xa = some ad ∧ ∀ (j : Nat) (v : Value), xs[j]? = some v → w.cell? (ad.add j) = some v := by
  rcases h with ⟨h, rfl⟩ | ⟨ad, c, h, hc, hj⟩
  · simp at h0
  · simp only [Value.slice.injEq] at h
    exact ⟨ad, h.1, hj⟩
theorem splice_all {r cs : List Value} (h : cs.length = r.length) : splice r 0 cs = cs := by
  unfold splice
  rw [List.take_zero, List.nil_append, List.drop_of_length_le (by omega), List.append_nil]
end Go.Proofs.Ytpoinhfkgnkedaa.M
