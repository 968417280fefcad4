/-
  put, Push, at a queue that is one.
-/
import Derived.Test.YtdobileefcidjaaQueD
import Derived.Deep.RegionWith
import Derived.BigQuiet
namespace Go.Proofs.Ytdobileefcidjaa.M
open Go.RowKit Go.Shelf
set_option linter.unusedVariables false
set_option linter.unusedSectionVars false
set_option linter.unusedSimpArgs false
attribute [local go_sem ↓] Go.wp_at_zero Go.wp_at_succ
set_option maxHeartbeats 1000000 in
theorem QueueS.put {w : World} {ok : Nat → Prop} {Q : Nat} {stack : Bool} {val ent : Int} {rows : List (List Value)} (h : QueueS w ok Q stack val ent rows) (T : Nat) (ax : Option Addr) (cx : Nat) (r : List Value) (hT : w.cell? ⟨T, 0, none⟩ = some (.slice ax r.length cx)) (hv : OwnQ w 5 (.slice ax r.length cx) r) (hvo : ∀ b, (Value.slice ax r.length cx).ownBlock = some b → ok b) (hl : rows.length ≤ 1000000) (hok : ∀ b, w.heap.size ≤ b → ok b) :
    Calls Try.prog 33 #[.pointer (some ⟨Q, 0, none⟩), .slice (some ⟨T, 0, none⟩) 1 1] w fun e w' => e = nothing ∧ QueueS w' ok Q stack val ent (rows ++ [r]) ∧ ∃ L, (∀ x ∈ L, ok x) ∧ But L w w' := by
  obtain ⟨hB, a, c, vals, k, nx, h1, hn, h2, h3, h4, h5⟩ := h
  refine (put_raw Q T _ _ a c vals ax r.length cx w h1 (by decide) rfl h2 (by omega) hT).mono ?_
  rintro e w' ⟨rfl, a', c', h1', h2', h4', hb⟩
  have hL : ∀ x ∈ (Q :: (Value.slice a vals.length c).ownBlock.toList), ok x := fun x hx => by
    rcases List.mem_cons.1 hx with rfl | hx
    · exact hB
    · exact h4 x (by simpa using hx)
  have htag : ∀ {e : TypeId} {b : Nat} {cs : Array Value}, w.heap[b]? = some (.cells cs e) → e ≠ 55 → e ≠ 36 → b ∉ (Q :: (Value.slice a vals.length c).ownBlock.toList) := fun {e b cs} hcell he1 he2 hm => by
    rcases List.mem_cons.1 hm with rfl | hm
    · rw [h1] at hcell
      simp only [Option.some.injEq, Obj.cells.injEq] at hcell
      exact he1 hcell.2.1.symm
    · obtain ⟨cur, hg⟩ := h2.tag b (by simpa using hm)
      rw [hcell] at hg
      simp only [Option.some.injEq, Obj.cells.injEq] at hg
      exact he2 hg.2.1
  refine ⟨rfl, ⟨hB, a', c', vals ++ [.slice ax r.length cx], k, nx, ?_, ?_, ?_, ?_, ?_, ?_⟩, _, hL, hb⟩
  · rw [List.length_append]; exact h1'
  · rcases hn with h | ⟨hs, B, h, hBB, hokB⟩
    · exact .inl h
    · exact .inr ⟨hs, B, h, hb.heap hBB (htag hBB (by decide) (by decide)), hokB⟩
  · rw [List.length_append]; exact h2'
  · rw [List.length_append, List.length_append, h3]; rfl
  · intro b hb'
    rw [List.length_append] at hb'
    rcases h4' b hb' with h | h
    · exact h4 b h
    · exact hok b h
  · intro i v r' hv' hr'
    have hkeep : ∀ {v r}, OwnQ w 5 v r → OwnQ w' 5 v r := fun {v r} ho => ho.but hb fun b hbv hm => by
      obtain ⟨cur, hg⟩ := ho.tag b hbv
      exact htag hg (by decide) (by decide) hm
    by_cases hi : i < vals.length
    · rw [List.getElem?_append_left hi] at hv'
      rw [List.getElem?_append_left (by omega)] at hr'
      exact ⟨hkeep (h5 i v r' hv' hr').1, (h5 i v r' hv' hr').2⟩
    · have hi2 : i < (vals ++ [Value.slice ax r.length cx]).length := (List.getElem?_eq_some_iff.1 hv').1
      rw [List.length_append, List.length_singleton] at hi2
      obtain rfl : i = vals.length := by omega
      rw [List.getElem?_append_right (Nat.le_refl _), Nat.sub_self] at hv'
      rw [h3, List.getElem?_append_right (Nat.le_refl _), Nat.sub_self] at hr'
      simp only [List.getElem?_cons_zero, Option.some.injEq] at hv' hr'
      subst hv' hr'
      exact ⟨hkeep hv, hvo⟩
theorem QueueS.pushArg {w : World} {ok : Nat → Prop} {Q : Nat} {stack : Bool} {val ent : Int} {rows : List (List Value)} (h : QueueS w ok Q stack val ent rows) (a : Option Addr) (n c : Nat) (f : Int) (hf : (n : Int) ≠ val ∨ (f ≠ 0 ∧ f ≠ 2)) :
    Calls Try.prog 18 #[.pointer (some ⟨Q, 0, none⟩), .slice a n c, .int .u64 f] w fun e w' => e = .returned (.int .i64 2) ∧ w = w' := by
  have H := Lib.hid h.known
  obtain ⟨hB, a0, c0, vals, k, nx, h1, hn, h2, h3, h4, h5⟩ := h
  have g3 : w.cell? ⟨Q, 3, none⟩ = some (.int .i64 val) := cl_of h1 3
  clear h1 hn h2 h3 h4 h5 hB
  by_cases hl : (n : Int) = val
  · obtain ⟨hf0, hf2⟩ : f ≠ 0 ∧ f ≠ 2 := by rcases hf with h | h; exact absurd hl h; exact h
    have b1 : ((n : Int) != val) = false := by simp [hl]
    have b2 : (f != 0) = true := by simp [hf0]
    have b3 : (f != 2) = true := by simp [hf2]
    clear hf hl
    go_enter Try.func18, Try.ntmps18
    go_wp2_with (go_at_call 31; refine H.out.mono ?_; rintro e w1 ⟨rfl, rfl⟩)
    go_ret
    exact ⟨rfl, rfl⟩
  · have b1 : ((n : Int) != val) = true := by simp [hl]
    clear hf
    go_enter Try.func18, Try.ntmps18
    go_wp2_with (go_at_call 31; refine H.out.mono ?_; rintro e w1 ⟨rfl, rfl⟩)
    go_ret
    exact ⟨rfl, rfl⟩
theorem QueueS.pushFull {w : World} {ok : Nat → Prop} {Q : Nat} {stack : Bool} {val ent : Int} {rows : List (List Value)} (h : QueueS w ok Q stack val ent rows) (a : Option Addr) (n c : Nat) (hv : (n : Int) = val) (he : (rows.length : Int) = ent) :
    Calls Try.prog 18 #[.pointer (some ⟨Q, 0, none⟩), .slice a n c, .int .u64 0] w fun e w' => e = .returned (.int .i64 8) ∧ But [] w w' := by
  subst hv he
  have H := Lib.hid h.known
  obtain ⟨hB, a0, c0, vals, k, nx, h1, hn, h2, h3, h4, h5⟩ := h
  rw [← h3] at h1
  have g0 : w.cell? ⟨Q, 0, none⟩ = some (.slice a0 vals.length c0) := cl_of h1 0
  have g3 : w.cell? ⟨Q, 3, none⟩ = some (.int .i64 n) := cl_of h1 3
  have g4 : w.cell? ⟨Q, 4, none⟩ = some (.int .i64 vals.length) := cl_of h1 4
  clear h1 hn h2 h3 h4 h5 hB
  go_enter Try.func18, Try.ntmps18
  go_wp2_with (first | (go_at_call 31; refine H.out.mono ?_; rintro e w1 ⟨rfl, rfl⟩) | go_quiet (fail))
  all_goals go_wp2
  go_ret
  exact ⟨rfl, (But.refl [] _).drewN _⟩
theorem put_new {w w2 : World} {ok : Nat → Prop} {Q : Nat} {stack : Bool} {val ent : Int} {rows : List (List Value)} (h : QueueS w ok Q stack val ent rows) (hb : But [] w w2) {a : Option Addr} {c : Nat} {r : List Value} (hv : Own w2 (.slice a r.length c) r) (hn : ∀ b, (Value.slice a r.length c).ownBlock = some b → w.heap.size ≤ b) (hok : ∀ b, w.heap.size ≤ b → ok b) (hl : rows.length ≤ 1000000) :
    Calls Try.prog 33 #[.pointer (some ⟨Q, 0, none⟩), .slice (some ⟨w2.heap.size, 0, none⟩) 1 1] (w2.alloc (.cells #[.slice a r.length c] 36)) fun e w' => e = .returned (.tuple #[]) ∧ QueueS w' ok Q stack val ent (rows ++ [r]) ∧ ∃ L, (∀ x ∈ L, ok x) ∧ But L w w' := by
  have hb' := hb.alloc (.cells #[.slice a r.length c] 36)
  have hs := hb'.size
  refine ((h.keep hb' (by simp)).put w2.heap.size a c r (by unfold World.cell?; rw [show (w2.alloc (.cells #[.slice a r.length c] 36)).heap[w2.heap.size]? = some (.cells #[.slice a r.length c] 36) from Array.getElem?_push_size]; rfl) (hv.que.but ((But.refl [] w2).alloc _) (by simp)) (fun b hb => hok b (hn b hb)) hl (fun b hb => hok b (Nat.le_trans hs hb))).mono ?_
  rintro e w' ⟨rfl, h1, L, hL, h2⟩
  exact ⟨rfl, h1, L, hL, (hb'.mono (by simp)).trans h2 (fun x hx => .inl hx)⟩
set_option maxHeartbeats 2000000 in
theorem QueueS.pushMore {w : World} {ok : Nat → Prop} {Q : Nat} {stack : Bool} {val ent : Int} {rows : List (List Value)} (h : QueueS w ok Q stack val ent rows) (f : Int) {s : Value} {r : List Value} (hx : Sees w s r) (hb : ∀ u ∈ r, ∃ n : Int, u = .int .u8 n) (hrl : r.length ≤ 1000000) (hv : (r.length : Int) = val) (hf : f = 0 ∨ f = 2) (he : (rows.length : Int) ≠ ent) (hl : rows.length ≤ 1000000) (hok : ∀ b, w.heap.size ≤ b → ok b) :
    Calls Try.prog 18 #[.pointer (some ⟨Q, 0, none⟩), s, .int .u64 f] w fun e w' => e = .returned (.int .i64 0) ∧ QueueS w' ok Q stack val ent (rows ++ [r]) ∧ ∃ L, (∀ x ∈ L, ok x) ∧ But L w w' := by
  obtain ⟨a, c, rfl, _⟩ := sees_shape hx
  have H := Lib.hid h.known
  have HS := Lib.hid h
  have HX := Lib.hid hx
  have HO := Lib.hid (IsBytes_one hb)
  have HOK : Hid (∀ b, w.heap.size ≤ b → ok b) := Lib.hid hok
  obtain ⟨hB, a0, c0, vals, k, nx, h1, hn, h2, h3, h4, h5⟩ := h
  have g0 : w.cell? ⟨Q, 0, none⟩ = some (.slice a0 vals.length c0) := cl_of h1 0
  have g3 : w.cell? ⟨Q, 3, none⟩ = some (.int .i64 val) := cl_of h1 3
  have g4 : w.cell? ⟨Q, 4, none⟩ = some (.int .i64 ent) := cl_of h1 4
  have b1 : ((r.length : Int) != val) = false := by simp [hv]
  have b4 : ((vals.length : Int) == ent) = false := by rw [h3]; simpa using he
  clear h1 hn h2 h3 h4 h5 hB hx hb he hok hv
  rcases hf with rfl | rfl
  all_goals
    go_enter Try.func18, Try.ntmps18
    go_wp2_with (first | (go_at_call 31; refine H.out.mono ?_; rintro e w1 ⟨rfl, rfl⟩) | go_quiet (fail))
    go_wp2_with go_quiet (fail)
    go_region_with (first | (go_at_call 32; refine (clone _ r _ (HX.out.but ((But.refl [] w).drewN _) (by simp)) HO.out (by omega)).mono ?_; rintro e w2 ⟨v, rfl, hv, hvn, hb2⟩; replace hb2 : But [] w w2 := (((But.refl [] w).drewN _).trans hb2 (by simp)); obtain ⟨a2, c2, hf2⟩ := own_form2 hv; subst hf2; have HV := Lib.hid hv; replace hvn : ∀ k, (Value.slice a2 r.length c2).ownBlock = some k → w.heap.size ≤ k := hvn; have HVN := Lib.hid hvn; have HB2 := Lib.hid hb2; clear hv hvn hb2) | (go_at_call 33; refine (put_new HS.out HB2.out HV.out HVN.out HOK.out hl).mono ?_; rintro e w3 ⟨rfl, hS3, L, hL, hb3⟩))
  all_goals
    go_wp2
    go_ret
    exact ⟨rfl, hS3, L, hL, hb3⟩
set_option maxHeartbeats 2000000 in
theorem QueueS.pushThere {w : World} {ok : Nat → Prop} {Q : Nat} {stack : Bool} {val ent : Int} {rows : List (List Value)} (h : QueueS w ok Q stack val ent rows) {s : Value} {r : List Value} (hx : Sees w s r) (hxo : ∀ b, s.ownBlock = some b → b ≠ Q) (hb : ∀ u ∈ r, ∃ n : Int, u = .int .u8 n) (hrl : r.length ≤ 1000000) (hv : (r.length : Int) = val) (he : (rows.length : Int) = ent) (h0 : 0 < rows.length) (hl : rows.length ≤ 1000000) (hok : ∀ b, w.heap.size ≤ b → ok b) :
    Calls Try.prog 18 #[.pointer (some ⟨Q, 0, none⟩), s, .int .u64 2] w fun e w' => e = .returned (.int .i64 0) ∧ QueueS w' ok Q stack val ent (rows.eraseIdx 0 ++ [r]) ∧ ∃ L, (∀ x ∈ L, ok x) ∧ But L w w' := by
  obtain ⟨a, c, rfl, -⟩ := sees_shape hx
  have H := Lib.hid h.known
  have HS := Lib.hid h
  have HX := Lib.hid hx
  have HXO := Lib.hid hxo
  have HO := Lib.hid (IsBytes_one hb)
  have HOK : Hid (∀ b, w.heap.size ≤ b → ok b) := Lib.hid hok
  have hQok := h.okQ
  obtain ⟨hB, a0, c0, vals, k, nx, h1, hn, h2, h3, h4, h5⟩ := h
  have g0 : w.cell? ⟨Q, 0, none⟩ = some (.slice a0 vals.length c0) := cl_of h1 0
  have g3 : w.cell? ⟨Q, 3, none⟩ = some (.int .i64 val) := cl_of h1 3
  have g4 : w.cell? ⟨Q, 4, none⟩ = some (.int .i64 ent) := cl_of h1 4
  have b1 : ((r.length : Int) != val) = false := by simp [hv]
  have b4 : ((vals.length : Int) == ent) = true := by rw [h3]; simpa using he
  have hl2 : (rows.eraseIdx 0).length ≤ 1000000 := by rw [List.length_eraseIdx_of_lt h0]; omega
  have HQ := Lib.hid hB
  clear h1 hn h2 h3 h4 h5 hB hx hb he hok hv hxo hQok
  go_enter Try.func18, Try.ntmps18
  go_wp2_with (first | (go_at_call 31; refine H.out.mono ?_; rintro e w1 ⟨rfl, rfl⟩) | go_quiet (fail))
  go_wp2_with go_quiet (fail)
  go_wp2_with (go_at_call 29; refine ((HS.out.keep ((But.refl [] _).drewN _) (by simp)).drop0 h0 hl HOK.out).mono ?_; rintro e w1 ⟨he1, hS1, hb1⟩; dsimp only [nothing] at he1; subst he1; replace hb1 : But [Q] w w1 := ((But.refl [Q] w).drewN _).trans hb1 (fun x hx => .inl hx); have HS1 := Lib.hid hS1; have HB1 := Lib.hid hb1; clear hS1 hb1)
  have HX1 : Hid (Sees w1 (.slice a r.length c) r) := Lib.hid (HX.out.but HB1.out (fun b hb hm => HXO.out b hb (by simpa using hm)))
  have HOK1 : Hid (∀ b, w1.heap.size ≤ b → ok b) := Lib.hid fun b hb => HOK.out b (Nat.le_trans HB1.out.size hb)
  go_region_with (first | (go_at_call 32; refine (clone _ r _ (HX1.out.but ((But.refl [] w1).drewN _) (by simp)) HO.out (by omega)).mono ?_; rintro e w2 ⟨v, rfl, hv, hvn, hb2⟩; replace hb2 : But [] w1 w2 := (((But.refl [] w1).drewN _).trans hb2 (by simp)); obtain ⟨a2, c2, hf2⟩ := own_form2 hv; subst hf2; have HV := Lib.hid hv; replace hvn : ∀ k, (Value.slice a2 r.length c2).ownBlock = some k → w1.heap.size ≤ k := hvn; have HVN := Lib.hid hvn; have HB2 := Lib.hid hb2; clear hv hvn hb2) | (go_at_call 33; refine (put_new HS1.out HB2.out HV.out HVN.out HOK1.out hl2).mono ?_; rintro e w3 ⟨rfl, hS3, L, hL, hb3⟩))
  all_goals
    go_wp2
    go_ret
    exact ⟨rfl, hS3, Q :: L, fun x hx => by
      rcases List.mem_cons.1 hx with rfl | hx
      · exact HQ.out
      · exact hL x hx, (HB1.out.mono (by simp)).trans hb3 (fun x hx => .inl (List.mem_cons_of_mem _ hx))⟩
end Go.Proofs.Ytdobileefcidjaa.M
