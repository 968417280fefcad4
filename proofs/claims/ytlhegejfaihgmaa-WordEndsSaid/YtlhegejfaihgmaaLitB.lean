/-
  A look-up of an integer key in a literal's map, at the operation.
-/
import Derived.Test.YtlhegejfaihgmaaLit
namespace Go.Proofs.Ytlhegejfaihgmaa.Lit
open Go.Maps (Keyed)

theorem wpList_lk {P : Program} (w : World) {ops : Array Oper} {rest : List Oper} {o : Oper} {a : Act} {Q : Exit → Act → World → Prop}
    (hg : o.guard = none) (m x : Operand) (T : TypeId) (c : Bool) (hop : o.op = Op.lookup T m x c) (K E : TypeId) (KD : Keyed P K) (hT : P.underlying T = some (.map K E)) (z : Value) (hz : (zeroValue E).run P w = .ok z w)
    (b : Nat) (es : Array MapEntry) (clock : Nat) (hm : a.eval m = .map (some b)) (hb : w.heap[b]? = some (.map es clock)) (tab : List (Value × Value)) (hh : Has tab es)
    (kd : IntKind) (n : Int) (hB : lkB P K kd tab = true) (hx : a.eval x = .int kd n) (hkey : (keyOf P K (.int kd n)).isSome = true)
    (hK : wpList P ops Q rest (a.put o.dst (if c then .tuple #[(lk tab (.int kd n)).getD z, .bool (lk tab (.int kd n)).isSome] else (lk tab (.int kd n)).getD z)) w) : wpList P ops Q (o :: rest) a w := by
  refine wpList_plain hg fun K' hK' => ?_
  have := run_lk KD hT hz hb hh hB hkey c
  unfold Oper.wp
  simp only [execOp, hop, hm, hx, Sem.run_bind, this, Result.andThen]
  exact hK' _ _ hK
end Go.Proofs.Ytlhegejfaihgmaa.Lit
