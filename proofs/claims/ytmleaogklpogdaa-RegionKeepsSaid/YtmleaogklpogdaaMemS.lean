/-
  The methods of a memory, their arguments as they stand at a call; new slices of bytes.
-/
import Derived.Test.YtmleaogklpogdaaMemR
namespace Go.Proofs.Ytmleaogklpogdaa.M
open Go.RowKit
set_option linter.unusedVariables false
set_option linter.unusedSectionVars false
set_option linter.unusedSimpArgs false
section
variable {base B b : Nat} {last : Int} {l : List Part} {w : World} {p : Part}
theorem make_at (n' kind : Int) (a : Option Addr) (m cap : Nat) (xs : List Value) (h : Mem w base B b last l) (hn : n' = last + 1) (hlast : last < 9000) (hs : Sees w (.slice a m cap) xs) (hx : Bytes xs) (hm : m = xs.length) (hlen : xs.length ≤ 4096) (hk : 1 ≤ kind ∧ kind ≤ 5) (hbase : base ≤ w.heap.size) :
    Calls Try.prog 5 #[.pointer (some ⟨B, 0, none⟩), .int .u8 kind, .slice a m cap] w fun e w' => e = .returned (.tuple #[.int .i64 n', .int .i64 0]) ∧ But [B, b] w w' ∧ ∃ c sl, Mem w' base B b n' (l ++ [⟨n', c, kind, sl, xs⟩]) := by
  subst hn
  exact make_ok base B b last kind a m cap xs l w h hlast hs hx hm hlen hk hbase
theorem kind_at (n : Int) (h : Mem w base B b last l) (hp : p ∈ l) (hn : n = p.num) (kd : Int) (hk : kd = p.kind) :
    Calls Try.prog 9 #[.pointer (some ⟨B, 0, none⟩), .int .i64 n] w fun e w' => e = .returned (.int .u8 kd) ∧ But [] w w' := by
  subst hn; subst hk
  exact kind_ok base B b last l p w h hp
theorem size_at (n : Int) (h : Mem w base B b last l) (hp : p ∈ l) (hn : n = p.num) (z : Int) (hz : z = p.bs.length) :
    Calls Try.prog 10 #[.pointer (some ⟨B, 0, none⟩), .int .i64 n] w fun e w' => e = .returned (.int .i64 z) ∧ But [] w w' := by
  subst hn; subst hz
  exact size_ok base B b last l p w h hp
theorem free_at (n : Int) (h : Mem w base B b last l) (hp : p ∈ l) (hn : n = p.num) :
    Calls Try.prog 8 #[.pointer (some ⟨B, 0, none⟩), .int .i64 n] w fun e w' => e = .returned (.int .i64 0) ∧ But [b] w w' ∧ Mem w' base B b last (without l n) := by
  subst hn
  exact free_ok base B b last l p w h hp
theorem write_at (n off : Int) (o : Nat) (a : Option Addr) (m cap : Nat) (xs : List Value) (h : Mem w base B b last l) (hp : p ∈ l) (hn : n = p.num) (ho : off = o) (hs : Sees w (.slice a m cap) xs) (hx : Bytes xs) (hm : m = xs.length) (hfit : o + xs.length ≤ p.bs.length) :
    Calls Try.prog 7 #[.pointer (some ⟨B, 0, none⟩), .int .i64 n, .int .i64 off, .slice a m cap] w fun e w' => e = .returned (.int .i64 0) ∧ Mem w' base B b last (upd l n (splice p.bs o xs)) ∧ ∃ L, But L w w' ∧ ∀ x ∈ L, p.sl.ownBlock = some x := by
  subst hn; subst ho
  exact write_ok base B b o last a m cap xs l p w h hp hs hx hm hfit
theorem read_at (n off size : Int) (o m : Nat) (h : Mem w base B b last l) (hp : p ∈ l) (hn : n = p.num) (ho : off = o) (hm : size = m) (hfit : o + m ≤ p.bs.length) :
    Calls Try.prog 6 #[.pointer (some ⟨B, 0, none⟩), .int .i64 n, .int .i64 off, .int .i64 size] w fun e w' => ∃ v, e = .returned (.tuple #[v, .int .i64 0]) ∧ Own w' v ((p.bs.drop o).take m) ∧ (∀ k, v.ownBlock = some k → w.heap.size ≤ k) ∧ But [] w w' := by
  subst hn; subst ho; subst hm
  exact read_ok base B b o m last l p w h hp hfit
theorem read_out (n off size : Int) (h : Mem w base B b last l) (hp : p ∈ l) (hn : n = p.num) (ho : I64 off) (hz : I64 size) (hh : Has off size p.bs.length = false) :
    Calls Try.prog 6 #[.pointer (some ⟨B, 0, none⟩), .int .i64 n, .int .i64 off, .int .i64 size] w fun e w' => e = .returned (.tuple #[.slice none 0 0, .int .i64 32]) ∧ But [] w w' := by
  subst hn
  exact read_bounds base B b last off size l p w h hp ho hz hh
end
theorem sees_new (w : World) (cs : Array Value) (t : TypeId) (fr : Nat × Nat) (n c : Nat) (hn : n = cs.size) (hc : n ≤ c) : Sees (w.alloc (.cells cs t fr)) (.slice (some ⟨w.heap.size, 0, none⟩) n c) cs.toList := by
  subst hn
  have hb := alloc_at w (.cells cs t fr)
  exact .inr ⟨⟨w.heap.size, 0, none⟩, c, by simp, by simpa using hc, fun j u hu => by
    rw [add_at, Nat.zero_add]
    unfold World.cell?
    rw [hb]
    simpa using hu⟩
theorem calls_val {P : Program} {k : FuncId} {args : Array Value} {w : World} {e : Ending} {v v' : Value} {R : World → Prop} (h : Calls P k args w fun e w' => e = .returned v ∧ R w') (hv : v = v') : Calls P k args w fun e w' => e = .returned v' ∧ R w' := by
  subst hv; exact h
end Go.Proofs.Ytmleaogklpogdaa.M
