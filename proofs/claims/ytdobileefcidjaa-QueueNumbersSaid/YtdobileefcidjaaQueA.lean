/-
  A queue as it lies; known, Many, put, and what no queue tells.
-/
import Derived.Test.YtdobileefcidjaaDrop
import Derived.Test.YtdobileefcidjaaClone
import Derived.Test.YtdobileefcidjaaSpecAny
import Derived.Deep.RegionHeld3
import Derived.Deep.DrawnRows
namespace Go.Proofs.Ytdobileefcidjaa.M
open Go.RowKit Go.Shelf
set_option linter.unusedVariables false
set_option linter.unusedSectionVars false
set_option linter.unusedSimpArgs false
attribute [local go_sem ↓] Go.wp_at_zero Go.wp_at_succ
/-- No queue, or one that nobody made. -/
def OffQ (w : World) (v : Value) : Prop := v = .pointer none ∨ ∃ Q l, v = .pointer (some ⟨Q, 0, none⟩) ∧ w.heap[Q]? = some (.cells #[l, .int .u8 0, .int .i64 0, .int .i64 0, .int .i64 0, .nilFunc] 55)
theorem OffQ.but {w w' : World} {v : Value} (h : OffQ w v) (hb : But [] w w') : OffQ w' v := by
  rcases h with h | ⟨Q, l, h, hQ⟩
  · exact .inl h
  · exact .inr ⟨Q, l, h, hb.heap hQ (by simp)⟩
theorem known_off (v : Value) (w : World) (h : OffQ w v) : Calls Try.prog 31 #[v] w fun e w' => e = .returned (.bool false) ∧ w = w' := by
  rcases h with rfl | ⟨Q, l, rfl, hQ⟩
  · go_enter Try.func31, Try.ntmps31
    go_wp2
    go_ret
    exact ⟨rfl, rfl⟩
  · have c5 : w.cell? ⟨Q, 5, none⟩ = some .nilFunc := cl_of hQ 5
    have hq : ∀ (w : World), (binOp BinOp.neq 47 .nilFunc .nilFunc).run Try.prog w = .ok (.bool false) w := fun w => by kernel_rfl
    go_enter Try.func31, Try.ntmps31
    go_wp2
    go_ret
    exact ⟨rfl, rfl⟩
theorem many_off (v : Value) (w : World) (h : OffQ w v) : Calls Try.prog 22 #[v] w fun e w' => e = .returned (.int .i64 0) ∧ w = w' := by
  go_enter Try.func22, Try.ntmps22
  go_wp2_with (go_at_call 31; refine (known_off _ _ h).mono ?_; rintro e w1 ⟨rfl, rfl⟩)
  go_ret
  exact ⟨rfl, rfl⟩
theorem peek_off (v : Value) (w : World) (h : OffQ w v) : Calls Try.prog 16 #[v] w fun e w' => e = .returned (.tuple #[.slice none 0 0, .int .i64 1]) ∧ w = w' := by
  go_enter Try.func16, Try.ntmps16
  go_wp2_with (go_at_call 31; refine (known_off _ _ h).mono ?_; rintro e w1 ⟨rfl, rfl⟩)
  go_ret2
  exact ⟨rfl, rfl⟩
theorem pop_off (v : Value) (w : World) (h : OffQ w v) : Calls Try.prog 13 #[v] w fun e w' => e = .returned (.tuple #[.slice none 0 0, .int .i64 1]) ∧ w = w' := by
  go_enter Try.func13, Try.ntmps13
  go_wp2_with (go_at_call 16; refine (peek_off _ _ h).mono ?_; rintro e w1 ⟨rfl, rfl⟩)
  go_ret2
  exact ⟨rfl, rfl⟩
theorem push_off (v s : Value) (f : Int) (w : World) (h : OffQ w v) : Calls Try.prog 18 #[v, s, .int .u64 f] w fun e w' => e = .returned (.int .i64 1) ∧ w = w' := by
  go_enter Try.func18, Try.ntmps18
  go_wp2_with (go_at_call 31; refine (known_off _ _ h).mono ?_; rintro e w1 ⟨rfl, rfl⟩)
  go_ret
  exact ⟨rfl, rfl⟩
/-- The place of the next one. -/
def Next (w : World) (ok : Nat → Prop) (Q : Nat) (stack : Bool) (nx : Value) : Prop :=
  (stack = false ∧ nx = .func (.func 25) #[] #[]) ∨ (stack = true ∧ ∃ B, nx = .func (.func 26) #[] #[.pointer (some ⟨B, 0, none⟩)] ∧ w.heap[B]? = some (.cells #[.pointer (some ⟨Q, 0, none⟩)] 28) ∧ ok B)
structure QueueS (w : World) (ok : Nat → Prop) (Q : Nat) (stack : Bool) (val ent : Int) (rows : List (List Value)) : Prop where
  okQ : ok Q
  lies : ∃ (a : Option Addr) (c : Nat) (vals : List Value) (k : Int) (nx : Value), w.heap[Q]? = some (.cells #[.slice a vals.length c, .int .u8 k, .int .i64 0, .int .i64 val, .int .i64 ent, nx] 55) ∧ Next w ok Q stack nx ∧ OwnQ w 36 (.slice a vals.length c) vals ∧ vals.length = rows.length ∧
    (∀ b, (Value.slice a vals.length c).ownBlock = some b → ok b) ∧ ∀ (j : Nat) (v : Value) (r : List Value), vals[j]? = some v → rows[j]? = some r → OwnQ w 5 v r ∧ ∀ b, v.ownBlock = some b → ok b
theorem Next.keep {w w' : World} {ok : Nat → Prop} {Q : Nat} {stack : Bool} {nx : Value} {L : List Nat} (h : Next w ok Q stack nx) (hb : But L w w') (hL : ∀ x ∈ L, ¬ ok x) : Next w' ok Q stack nx := by
  rcases h with h | ⟨h1, B, h2, h3, h4⟩
  · exact .inl h
  · exact .inr ⟨h1, B, h2, hb.heap h3 (fun hm => hL _ hm h4), h4⟩
theorem QueueS.keep {w w' : World} {ok : Nat → Prop} {Q : Nat} {stack : Bool} {val ent : Int} {rows : List (List Value)} {L : List Nat} (h : QueueS w ok Q stack val ent rows) (hb : But L w w') (hL : ∀ x ∈ L, ¬ ok x) : QueueS w' ok Q stack val ent rows := by
  obtain ⟨hB, a, c, vals, k, nx, h1, hn, h2, h3, h4, h5⟩ := h
  exact ⟨hB, a, c, vals, k, nx, hb.heap h1 (fun hm => hL _ hm hB), hn.keep hb hL, h2.but hb (fun b hbl hm => hL _ hm (h4 b hbl)), h3, h4, fun j v r hv hr => ⟨(h5 j v r hv hr).1.but hb (fun b hbl hm => hL _ hm ((h5 j v r hv hr).2 b hbl)), (h5 j v r hv hr).2⟩⟩
/-- All its blocks lie there; those that do not are none of its. -/
theorem QueueS.also {w : World} {ok ok' : Nat → Prop} {Q : Nat} {stack : Bool} {val ent : Int} {rows : List (List Value)} (h : QueueS w ok Q stack val ent rows) (hk : ∀ b, b < w.heap.size → ok b → ok' b) : QueueS w ok' Q stack val ent rows := by
  obtain ⟨hB, a, c, vals, k, nx, h1, hn, h2, h3, h4, h5⟩ := h
  refine ⟨hk _ (lt_of h1) hB, a, c, vals, k, nx, h1, ?_, h2, h3, fun b hb => hk b (h2.lt hb) (h4 b hb), fun j v r hv hr => ⟨(h5 j v r hv hr).1, fun b hb => hk b ((h5 j v r hv hr).1.lt hb) ((h5 j v r hv hr).2 b hb)⟩⟩
  rcases hn with h | ⟨hs, B, h, hBB, hokB⟩
  · exact .inl h
  · exact .inr ⟨hs, B, h, hBB, hk _ (lt_of hBB) hokB⟩
theorem QueueS.known {w : World} {ok : Nat → Prop} {Q : Nat} {stack : Bool} {val ent : Int} {rows : List (List Value)} (h : QueueS w ok Q stack val ent rows) : Calls Try.prog 31 #[.pointer (some ⟨Q, 0, none⟩)] w fun e w' => e = .returned (.bool true) ∧ w = w' := by
  obtain ⟨hB, a, c, vals, k, nx, h1, hn, h2, h3, h4, h5⟩ := h
  rcases hn with ⟨_, rfl⟩ | ⟨_, B, rfl, _⟩
  · have c5 : w.cell? ⟨Q, 5, none⟩ = some (.func (.func 25) #[] #[]) := cl_of h1 5
    have hq : ∀ (w : World), (binOp BinOp.neq 47 (.func (.func 25) #[] #[]) .nilFunc).run Try.prog w = .ok (.bool true) w := fun w => by kernel_rfl
    clear h1 h2 h3 h4 h5
    go_enter Try.func31, Try.ntmps31
    go_wp2
    go_ret
    exact ⟨rfl, rfl⟩
  · have c5 : w.cell? ⟨Q, 5, none⟩ = some (.func (.func 26) #[] #[.pointer (some ⟨B, 0, none⟩)]) := cl_of h1 5
    have hq : ∀ (w : World), (binOp BinOp.neq 47 (.func (.func 26) #[] #[.pointer (some ⟨B, 0, none⟩)]) .nilFunc).run Try.prog w = .ok (.bool true) w := fun w => by kernel_rfl
    clear h1 h2 h3 h4 h5
    go_enter Try.func31, Try.ntmps31
    go_wp2
    go_ret
    exact ⟨rfl, rfl⟩
theorem QueueS.many {w : World} {ok : Nat → Prop} {Q : Nat} {stack : Bool} {val ent : Int} {rows : List (List Value)} (h : QueueS w ok Q stack val ent rows) : Calls Try.prog 22 #[.pointer (some ⟨Q, 0, none⟩)] w fun e w' => e = .returned (.int .i64 rows.length) ∧ w = w' := by
  have hk := Lib.hid h.known
  obtain ⟨hB, a, c, vals, k, nx, h1, hn, h2, h3, h4, h5⟩ := h
  have c0 : w.cell? ⟨Q, 0, none⟩ = some (.slice a vals.length c) := cl_of h1 0
  have H3 := Lib.hid h3
  clear h1 hn h2 h3 h4 h5
  go_enter Try.func22, Try.ntmps22
  go_wp2_with (go_at_call 31; refine hk.out.mono ?_; rintro e w1 ⟨rfl, rfl⟩)
  go_ret
  exact ⟨by rw [← H3.out]; rfl, rfl⟩
end Go.Proofs.Ytdobileefcidjaa.M
