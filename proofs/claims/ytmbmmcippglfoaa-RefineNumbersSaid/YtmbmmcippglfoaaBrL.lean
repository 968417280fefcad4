/-
  refine.Branch: the way that compares.
-/
import Derived.Test.YtmbmmcippglfoaaBrR
namespace Go.Proofs.Ytmbmmcippglfoaa.M
open Go.RowKit Go.Shelf
set_option linter.unusedVariables false
set_option linter.unusedSectionVars false
set_option linter.unusedSimpArgs false

attribute [local go_sem] Oper.semAt_some
theorem set1 {w : World} {k : Nat} {x a : Value} {t : TypeId} (h : w.heap[k]? = some (.cells #[x] t)) : (w.setCell ⟨k, 0, none⟩ a).heap[k]? = some (.cells #[a] t) := by
  simp [World.setCell, Array.getElem?_modify, h]
structure BI (W0 : World) (O R Qb Kb T op : Nat) (a b : Sc) (pre : List Nat) (W : World) : Prop where
  o : W.heap[O]? = some (.cells #[.int .u8 (op : Int)] 5)
  r : W.heap[R]? = some (.cells #[.int .u64 0, .int .u64 0, .int .u64 0, .int .u64 0, .int .i64 0, .int .i64 0] 28)
  q : W.heap[Qb]? = some (.cells #[.int .u64 0, .int .u64 0, .int .u64 0, .int .u64 0, .int .i64 0, .int .i64 0] 28)
  k : W.heap[Kb]? = some (.cells #[.bool false] 4)
  t : ∃ x y, W.heap[T]? = some (.cells (pcells x y) 54) ∧ (0 ∈ pre → ruleT op false a b = some x) ∧ (1 ∈ pre → ruleT op true b a = some y)
  but : But [T] W0 W
structure BX (W0 : World) (R Qb Kb T op : Nat) (a b : Sc) (c : Code) (pre : List Nat) (W : World) : Prop where
  c : c = .ret
  no : holdT op a b = none
  r : W.heap[R]? = some (.cells #[.int .u64 0, .int .u64 0, .int .u64 0, .int .u64 0, .int .i64 0, .int .i64 0] 28)
  q : W.heap[Qb]? = some (.cells #[.int .u64 0, .int .u64 0, .int .u64 0, .int .u64 0, .int .i64 0, .int .i64 0] 28)
  k : W.heap[Kb]? = some (.cells #[.bool false] 4)
  but : But [T, R, Qb, Kb] W0 W
theorem cells_out {V : World} {L : List Nat} (hL : ∀ x ∈ L, ∃ o, V.heap[x]? = some o ∧ o.isCells = false) {k : Nat} {cs : Array Value} {t : TypeId} (hk : V.heap[k]? = some (.cells cs t)) : k ∉ L := fun hx => by
  obtain ⟨o, ho, hi⟩ := hL k hx
  exact no_cells hk ho hi
theorem BI.abides (W0 : World) (O R Qb Kb T op : Nat) (a b : Sc) (N : Nat) (hN : W0.heap.size ≤ N) : Abides N (BI W0 O R Qb Kb T op a b) := Abides.of_but fun pre V X L h hb hL => by
  have hL' : ∀ x ∈ L, ∃ o, V.heap[x]? = some o ∧ o.isCells = false := fun x hx => (hL x hx).2
  obtain ⟨h1, h2, h3, h4, ⟨x, y, h5, h6, h7⟩, h8⟩ := h
  exact ⟨hb.heap h1 (cells_out hL' h1), hb.heap h2 (cells_out hL' h2), hb.heap h3 (cells_out hL' h3), hb.heap h4 (cells_out hL' h4), ⟨x, y, hb.heap h5 (cells_out hL' h5), h6, h7⟩, h8.trans hb (fun x hx => .inr (Nat.le_trans hN (hL x hx).1))⟩
theorem BX.abides (W0 : World) (R Qb Kb T op : Nat) (a b : Sc) (c : Code) (N : Nat) (hN : W0.heap.size ≤ N) : Abides N (BX W0 R Qb Kb T op a b c) := Abides.of_but fun pre V X L h hb hL => by
  have hL' : ∀ x ∈ L, ∃ o, V.heap[x]? = some o ∧ o.isCells = false := fun x hx => (hL x hx).2
  obtain ⟨h1, h2, h3, h4, h5, h8⟩ := h
  exact ⟨h1, h2, hb.heap h3 (cells_out hL' h3), hb.heap h4 (cells_out hL' h4), hb.heap h5 (cells_out hL' h5), h8.trans hb (fun x hx => .inr (Nat.le_trans hN (hL x hx).1))⟩
def pairOf (a b : Sc) (x : Nat) : Value := if x = 0 then pv a b else pv b a
theorem mem_ops {op : Nat} (h : opp op ≠ 0) (t : Bool) : (if t then op else opp op) ∈ allOps := by
  rcases opp_cases h with rfl | rfl | rfl | rfl | rfl | rfl | rfl | rfl | rfl | rfl | rfl <;> cases t <;> decide
def pairC (a b : Sc) (x : Nat) : Array Value := if x = 0 then pcells a b else pcells b a
def BAx (N O R Qb Kb T : Nat) (a b : Sc) (x : Nat) (a' : Act) (W : World) : Prop := ∃ pb, W.heap[pb]? = some (.cells (pairC a b x) 54) ∧ N ≤ pb ∧ ∃ u0 u1 u2 u3 u4 u6 u7 u8 u9 u13 u17 u18 u19 u20 u21 u22 u23 u24 u25 u26 u27 u28 u29 u30 u31 u32 u33 u34 u35 u36 u37 u38 u39 u40 u41 u42 u43 u44 u45 u46 u47 u48 u49 u50 u51 u52 u53 u54 u55 u56 u57 u58 u59 u60 u61 u62 u63 u64 u65 u66 u67 u68 u69 u70 u71 u72 u73 u74 u75 u76 u77 u78 u79 u80 u81 u82 u83, a' = { tmps := #[u0, u1, u2, u3, u4, .pointer (some ⟨O, 0, none⟩), u6, u7, u8, u9, .pointer (some ⟨R, 0, none⟩), .pointer (some ⟨Qb, 0, none⟩), .pointer (some ⟨Kb, 0, none⟩), u13, .pointer (some ⟨T, 0, none⟩), .int .i64 (x : Int), .pointer (some ⟨pb, 0, none⟩), u17, u18, u19, u20, u21, u22, u23, u24, u25, u26, u27, u28, u29, u30, u31, u32, u33, u34, u35, u36, u37, u38, u39, u40, u41, u42, u43, u44, u45, u46, u47, u48, u49, u50, u51, u52, u53, u54, u55, u56, u57, u58, u59, u60, u61, u62, u63, u64, u65, u66, u67, u68, u69, u70, u71, u72, u73, u74, u75, u76, u77, u78, u79, u80, u81, u82, u83], defers := [] }
theorem BAx.abides (N O R Qb Kb T : Nat) (a b : Sc) (a' : Act) (M : Nat) : Abides M (fun x W => BAx N O R Qb Kb T a b x a' W) := Abides.of_but fun x V X L h hb hL => by
  obtain ⟨pb, h1, h2, h3⟩ := h
  exact ⟨pb, hb.heap h1 (cells_out (fun x hx => (hL x hx).2) h1), h2, h3⟩
theorem set12a {w : World} {k : Nat} {c x y : Sc} {t : TypeId} (h : w.heap[k]? = some (.cells (pcells x y) t)) : ((((((w.setCell ⟨k, 0, none⟩ (.int .u64 c.t.v)).setCell ⟨k, 1, none⟩ (.int .u64 c.t.m)).setCell ⟨k, 2, none⟩ (.int .u64 c.s.lo)).setCell ⟨k, 3, none⟩ (.int .u64 c.s.hi)).setCell ⟨k, 4, none⟩ (.int .i64 c.s.sl)).setCell ⟨k, 5, none⟩ (.int .i64 c.s.sh)).heap[k]? = some (.cells (pcells c y) t) := by
  simp [World.setCell, Array.getElem?_modify, h, pcells]
theorem set12b {w : World} {k : Nat} {c x y : Sc} {t : TypeId} (h : w.heap[k]? = some (.cells (pcells x y) t)) : ((((((w.setCell ⟨k, 6, none⟩ (.int .u64 c.t.v)).setCell ⟨k, 7, none⟩ (.int .u64 c.t.m)).setCell ⟨k, 8, none⟩ (.int .u64 c.s.lo)).setCell ⟨k, 9, none⟩ (.int .u64 c.s.hi)).setCell ⟨k, 10, none⟩ (.int .i64 c.s.sl)).setCell ⟨k, 11, none⟩ (.int .i64 c.s.sh)).heap[k]? = some (.cells (pcells x c) t) := by
  simp [World.setCell, Array.getElem?_modify, h, pcells]
theorem ret13 {w : World} {R Q K : Nat} {r0 r1 r2 r3 r4 r5 q0 q1 q2 q3 q4 q5 k0 a0 a1 a2 a3 a4 a5 b0 b1 b2 b3 b4 b5 c0 : Value} (hr : w.heap[R]? = some (.cells #[a0, a1, a2, a3, a4, a5] 28)) (hq : w.heap[Q]? = some (.cells #[b0, b1, b2, b3, b4, b5] 28)) (hk : w.heap[K]? = some (.cells #[c0] 4)) (h1 : R ≠ Q) (h2 : R ≠ K) (h3 : Q ≠ K) :
    (((((((((((((w.setCell ⟨R, 0, none⟩ r0).setCell ⟨R, 1, none⟩ r1).setCell ⟨R, 2, none⟩ r2).setCell ⟨R, 3, none⟩ r3).setCell ⟨R, 4, none⟩ r4).setCell ⟨R, 5, none⟩ r5).setCell ⟨Q, 0, none⟩ q0).setCell ⟨Q, 1, none⟩ q1).setCell ⟨Q, 2, none⟩ q2).setCell ⟨Q, 3, none⟩ q3).setCell ⟨Q, 4, none⟩ q4).setCell ⟨Q, 5, none⟩ q5).setCell ⟨K, 0, none⟩ k0).heap[R]? = some (.cells #[r0, r1, r2, r3, r4, r5] 28) ∧ (((((((((((((w.setCell ⟨R, 0, none⟩ r0).setCell ⟨R, 1, none⟩ r1).setCell ⟨R, 2, none⟩ r2).setCell ⟨R, 3, none⟩ r3).setCell ⟨R, 4, none⟩ r4).setCell ⟨R, 5, none⟩ r5).setCell ⟨Q, 0, none⟩ q0).setCell ⟨Q, 1, none⟩ q1).setCell ⟨Q, 2, none⟩ q2).setCell ⟨Q, 3, none⟩ q3).setCell ⟨Q, 4, none⟩ q4).setCell ⟨Q, 5, none⟩ q5).setCell ⟨K, 0, none⟩ k0).heap[Q]? = some (.cells #[q0, q1, q2, q3, q4, q5] 28) ∧ (((((((((((((w.setCell ⟨R, 0, none⟩ r0).setCell ⟨R, 1, none⟩ r1).setCell ⟨R, 2, none⟩ r2).setCell ⟨R, 3, none⟩ r3).setCell ⟨R, 4, none⟩ r4).setCell ⟨R, 5, none⟩ r5).setCell ⟨Q, 0, none⟩ q0).setCell ⟨Q, 1, none⟩ q1).setCell ⟨Q, 2, none⟩ q2).setCell ⟨Q, 3, none⟩ q3).setCell ⟨Q, 4, none⟩ q4).setCell ⟨Q, 5, none⟩ q5).setCell ⟨K, 0, none⟩ k0).heap[K]? = some (.cells #[k0] 4) ∧ But [R, Q, K] w (((((((((((((w.setCell ⟨R, 0, none⟩ r0).setCell ⟨R, 1, none⟩ r1).setCell ⟨R, 2, none⟩ r2).setCell ⟨R, 3, none⟩ r3).setCell ⟨R, 4, none⟩ r4).setCell ⟨R, 5, none⟩ r5).setCell ⟨Q, 0, none⟩ q0).setCell ⟨Q, 1, none⟩ q1).setCell ⟨Q, 2, none⟩ q2).setCell ⟨Q, 3, none⟩ q3).setCell ⟨Q, 4, none⟩ q4).setCell ⟨Q, 5, none⟩ q5).setCell ⟨K, 0, none⟩ k0) := by
  refine ⟨?_, ?_, ?_, ?_⟩
  · refine sc_keep (sc_keep (sc_keep (sc_keep (sc_keep (sc_keep (sc_keep (set6 hr) ?_) ?_) ?_) ?_) ?_) ?_) ?_ <;> (simp only [ne_eq]; omega)
  · refine sc_keep (set6 (sc_keep (sc_keep (sc_keep (sc_keep (sc_keep (sc_keep hq ?_) ?_) ?_) ?_) ?_) ?_)) ?_ <;> (simp only [ne_eq]; omega)
  · refine set1 (sc_keep (sc_keep (sc_keep (sc_keep (sc_keep (sc_keep (sc_keep (sc_keep (sc_keep (sc_keep (sc_keep (sc_keep hk ?_) ?_) ?_) ?_) ?_) ?_) ?_) ?_) ?_) ?_) ?_) ?_) <;> (simp only [ne_eq]; omega)
  · repeat (first | with_reducible exact But.refl _ _ | with_reducible refine But.setCell ?_ (.inl (by simp)) _)
theorem hold_no0 {op : Nat} {a b : Sc} (h : ruleT op false a b = none) : holdT op a b = none := by unfold holdT; rw [h]; rfl
theorem hold_no1 {op : Nat} {a b : Sc} (h : ruleT op true b a = none) : holdT op a b = none := by unfold holdT; rw [h]; cases ruleT op false a b <;> rfl
theorem BI.stop {W0 W5 w6 w' : World} {O R Qb Kb T op : Nat} {a b : Sc} {pre pre' : List Nat} (h5 : BI W0 O R Qb Kb T op a b pre W5) (hb : But [] W5 w6) (hn : holdT op a b = none) (hr : w'.heap[R]? = some (.cells #[.int .u64 0, .int .u64 0, .int .u64 0, .int .u64 0, .int .i64 0, .int .i64 0] 28)) (hq : w'.heap[Qb]? = some (.cells #[.int .u64 0, .int .u64 0, .int .u64 0, .int .u64 0, .int .i64 0, .int .i64 0] 28)) (hk : w'.heap[Kb]? = some (.cells #[.bool false] 4)) (hb' : But [R, Qb, Kb] w6 w') : KeepsOthers W5 w' ∧ BX W0 R Qb Kb T op a b .ret pre' w' := by
  have hb2 : But [R, Qb, Kb] W5 w' := (hb.mono (by simp)).trans hb' (fun x hx => .inl hx)
  refine ⟨keepsOthers_of_but hb2 ?_, ⟨rfl, hn, hr, hq, hk, (h5.but.mono (by simp)).trans hb2 (fun x hx => .inl (List.mem_cons_of_mem _ hx))⟩⟩
  intro x hx
  simp only [List.mem_cons, List.not_mem_nil, or_false] at hx
  rcases hx with rfl | rfl | rfl
  · exact ⟨_, _, _, h5.r⟩
  · exact ⟨_, _, _, h5.q⟩
  · exact ⟨_, _, _, h5.k⟩
theorem BI.next {W0 W5 w6 w' : World} {O R Qb Kb T op : Nat} {a b : Sc} {pre pre' : List Nat} (h5 : BI W0 O R Qb Kb T op a b pre W5) (hb : But [] W5 w6) (hT : O ≠ T ∧ R ≠ T ∧ Qb ≠ T ∧ Kb ≠ T) (hb' : But [T] w6 w') (ht : ∃ x y, w'.heap[T]? = some (.cells (pcells x y) 54) ∧ (0 ∈ pre' → ruleT op false a b = some x) ∧ (1 ∈ pre' → ruleT op true b a = some y)) : KeepsOthers W5 w' ∧ KeepIn (fun b => b ≠ T ∧ b < W0.heap.size) W5 w' ∧ BI W0 O R Qb Kb T op a b pre' w' := by
  have hb2 : But [T] W5 w' := (hb.mono (by simp)).trans hb' (fun x hx => .inl hx)
  obtain ⟨n1, n2, n3, n4⟩ := hT
  refine ⟨keepsOthers_of_but hb2 ?_, KeepIn.of_but hb2 (by simp only [List.mem_singleton]; rintro x rfl h; exact h.1 rfl), ⟨hb2.heap h5.o (by simpa using n1), hb2.heap h5.r (by simpa using n2), hb2.heap h5.q (by simpa using n3), hb2.heap h5.k (by simpa using n4), ht, h5.but.trans hb2 (fun x hx => .inl hx)⟩⟩
  simp only [List.mem_singleton]
  rintro x rfl
  obtain ⟨x0, y0, h, _⟩ := h5.t
  exact ⟨_, _, _, h⟩
set_option maxRecDepth 100000 in
set_option maxHeartbeats 8000000 in
theorem br4 (op : Nat) (wide taken : Bool) (v m lo hi xv xm xlo xhi : Nat) (sl sh xsl xsh : Int) (w : World) (hop : op < 256) (hr : Rg ⟨⟨v, m⟩, ⟨lo, hi, sl, sh⟩⟩) (hx : Rg ⟨⟨xv, xm⟩, ⟨xlo, xhi, xsl, xsh⟩⟩) (h0 : rightB ⟨⟨v, m⟩, ⟨lo, hi, sl, sh⟩⟩ = true) (h1 : rightB ⟨⟨xv, xm⟩, ⟨xlo, xhi, xsl, xsh⟩⟩ = true) (h : opp op ≠ 0) (hw : wide = true ∨ max hi xhi < 2147483648) : Calls Try.prog 12 #[.int .u8 op, .bool wide, .agg #[.int .u64 v, .int .u64 m, .int .u64 lo, .int .u64 hi, .int .i64 sl, .int .i64 sh], .agg #[.int .u64 xv, .int .u64 xm, .int .u64 xlo, .int .u64 xhi, .int .i64 xsl, .int .i64 xsh], .bool taken] w (BrPost (branchT op wide ⟨⟨v, m⟩, ⟨lo, hi, sl, sh⟩⟩ ⟨⟨xv, xm⟩, ⟨xlo, xhi, xsl, xsh⟩⟩ taken) w) := by
  have G0 := Lib.hid (fun w => scRight0 v m lo hi sl sh w hr)
  have G1 := Lib.hid (fun w => scRight0 xv xm xlo xhi xsl xsh w hx)
  have G2 := Lib.hid (fun w => opposite_c op w hop)
  have FA := Lib.hid ((right_iff hr).1 h0)
  have FX := Lib.hid ((right_iff hx).1 h1)
  obtain ⟨op2, hop2⟩ : ∃ q, q = (if taken then op else opp op) := ⟨_, rfl⟩
  have hcond : ¬ (!wide && decide (2147483648 ≤ max hi xhi)) = true := by
    rcases hw with rfl | hw
    · simp
    · simp only [Bool.and_eq_true, decide_eq_true_eq, not_and]; intro _; omega
  have HE : Hid (branchT op wide ⟨⟨v, m⟩, ⟨lo, hi, sl, sh⟩⟩ ⟨⟨xv, xm⟩, ⟨xlo, xhi, xsl, xsh⟩⟩ taken = holdT op2 ⟨⟨v, m⟩, ⟨lo, hi, sl, sh⟩⟩ ⟨⟨xv, xm⟩, ⟨xlo, xhi, xsl, xsh⟩⟩) := Lib.hid (by unfold branchT; rw [if_pos (by simp [h0, h1, h]), if_neg hcond, hop2])
  clear hcond
  have HOP : Hid (op2 ∈ allOps) := Lib.hid (by rw [hop2]; exact mem_ops h taken)
  have EO2 := Lib.hid hop2
  clear hop2
  obtain ⟨p, hp⟩ : ∃ p, p = max hi xhi := ⟨_, rfl⟩
  have hpm : max (hi : Int) (xhi : Int) = (p : Int) := by rw [hp]; first | done | omega
  rw [← hp] at hw
  have HW := Lib.hid hw
  obtain ⟨q1, hq1⟩ : ∃ q, q = opp op := ⟨_, rfl⟩
  rw [← hq1] at G2 h
  have hqz : ((q1 : Int) == 0) = false := by rw [beq_eq_false_iff_ne]; omega
  have EQ1 := Lib.hid hq1
  rw [h0] at G0
  rw [h1] at G1
  clear h h0 h1 hp hw hr hx hop hq1
  refine callsIn_wide.1 (callsIn_of_wp_marks (n := 4) Try.func12 rfl trivial ?_ rfl)
  simp only [Try.ntmps12, List.size_toArray, List.length_cons, List.length_nil, Nat.reduceAdd, Nat.reduceSub, Array.replicate_succ, Array.replicate_zero, List.push_toArray, List.append_toArray, List.nil_append, List.cons_append]
  refine wpIn_wide.2 ?_
  go_wp2_with fail
  refine (G0.out _).mono ?_
  rintro e w8 ⟨rfl, hb8⟩
  have hO : w8.heap[w.heap.size]? = some (.cells #[.int .u8 op] 5) := hb8.heap (by repeat (first | (with_reducible refine al_eq _ _ _ ?_; (simp only [size_alloc]; done)) | with_reducible refine al_keep ?_ _ | with_reducible refine dr_keep ?_)) (by simp)
  have hA : w8.heap[w.heap.size + 1]? = some (.cells #[.int .u64 v, .int .u64 m, .int .u64 lo, .int .u64 hi, .int .i64 sl, .int .i64 sh] 28) := hb8.heap (by repeat (first | (with_reducible refine al_eq _ _ _ ?_; (simp only [size_alloc]; done)) | with_reducible refine al_keep ?_ _ | with_reducible refine dr_keep ?_)) (by simp)
  have hX : w8.heap[w.heap.size + 1 + 1]? = some (.cells #[.int .u64 xv, .int .u64 xm, .int .u64 xlo, .int .u64 xhi, .int .i64 xsl, .int .i64 xsh] 28) := hb8.heap (by repeat (first | (with_reducible refine al_eq _ _ _ ?_; (simp only [size_alloc]; done)) | with_reducible refine al_keep ?_ _ | with_reducible refine dr_keep ?_)) (by simp)
  have hR : w8.heap[w.heap.size + 1 + 1 + 1]? = some (.cells #[.int .u64 0, .int .u64 0, .int .u64 0, .int .u64 0, .int .i64 0, .int .i64 0] 28) := hb8.heap (by repeat (first | (with_reducible refine al_eq _ _ _ ?_; (simp only [size_alloc]; done)) | with_reducible refine al_keep ?_ _ | with_reducible refine dr_keep ?_)) (by simp)
  have hQ : w8.heap[w.heap.size + 1 + 1 + 1 + 1]? = some (.cells #[.int .u64 0, .int .u64 0, .int .u64 0, .int .u64 0, .int .i64 0, .int .i64 0] 28) := hb8.heap (by repeat (first | (with_reducible refine al_eq _ _ _ ?_; (simp only [size_alloc]; done)) | with_reducible refine al_keep ?_ _ | with_reducible refine dr_keep ?_)) (by simp)
  have hK : w8.heap[w.heap.size + 1 + 1 + 1 + 1 + 1]? = some (.cells #[.bool false] 4) := hb8.heap (by repeat (first | (with_reducible refine al_eq _ _ _ ?_; (simp only [size_alloc]; done)) | with_reducible refine al_keep ?_ _ | with_reducible refine dr_keep ?_)) (by simp)
  have cO0 : w8.cell? ⟨w.heap.size, 0, none⟩ = some (.int .u8 op) := cl_of hO 0
  have fO0 : w8.frozen? ⟨w.heap.size, 0, none⟩ = false := fz_of hO 0
  have zO := lt_of hO
  obtain ⟨cA0, cA1, cA2, cA3, cA4, cA5⟩ := c6_of hA
  have zA := lt_of hA
  obtain ⟨cX0, cX1, cX2, cX3, cX4, cX5⟩ := c6_of hX
  have zX := lt_of hX
  obtain ⟨cR0, cR1, cR2, cR3, cR4, cR5⟩ := c6_of hR
  obtain ⟨fR0, fR1, fR2, fR3, fR4, fR5⟩ := f6_of hR
  have zR := lt_of hR
  obtain ⟨cQ0, cQ1, cQ2, cQ3, cQ4, cQ5⟩ := c6_of hQ
  obtain ⟨fQ0, fQ1, fQ2, fQ3, fQ4, fQ5⟩ := f6_of hQ
  have zQ := lt_of hQ
  have cK0 : w8.cell? ⟨w.heap.size + 1 + 1 + 1 + 1 + 1, 0, none⟩ = some (.bool false) := cl_of hK 0
  have fK0 : w8.frozen? ⟨w.heap.size + 1 + 1 + 1 + 1 + 1, 0, none⟩ = false := fz_of hK 0
  have zK := lt_of hK
  have HB : Hid (But [] w w8) := Lib.hid ((by repeat (first | with_reducible exact But.refl _ _ | with_reducible refine But.drew ?_ | with_reducible refine But.alloc ?_ _) : But [] w _).trans hb8 (by simp))
  have HO := Lib.hid hO
  have HA := Lib.hid hA
  have HX := Lib.hid hX
  have HR := Lib.hid hR
  have HQ := Lib.hid hQ
  have HK := Lib.hid hK
  clear hO hA hX hR hQ hK hb8
  go_wp2_with fail
  refine (G1.out _).mono ?_
  rintro e w9 ⟨rfl, hb9⟩
  have hO : w9.heap[w.heap.size]? = some (.cells #[.int .u8 op] 5) := hb9.heap (HO.out) (by simp)
  have hA : w9.heap[w.heap.size + 1]? = some (.cells #[.int .u64 v, .int .u64 m, .int .u64 lo, .int .u64 hi, .int .i64 sl, .int .i64 sh] 28) := hb9.heap (HA.out) (by simp)
  have hX : w9.heap[w.heap.size + 1 + 1]? = some (.cells #[.int .u64 xv, .int .u64 xm, .int .u64 xlo, .int .u64 xhi, .int .i64 xsl, .int .i64 xsh] 28) := hb9.heap (HX.out) (by simp)
  have hR : w9.heap[w.heap.size + 1 + 1 + 1]? = some (.cells #[.int .u64 0, .int .u64 0, .int .u64 0, .int .u64 0, .int .i64 0, .int .i64 0] 28) := hb9.heap (HR.out) (by simp)
  have hQ : w9.heap[w.heap.size + 1 + 1 + 1 + 1]? = some (.cells #[.int .u64 0, .int .u64 0, .int .u64 0, .int .u64 0, .int .i64 0, .int .i64 0] 28) := hb9.heap (HQ.out) (by simp)
  have hK : w9.heap[w.heap.size + 1 + 1 + 1 + 1 + 1]? = some (.cells #[.bool false] 4) := hb9.heap (HK.out) (by simp)
  clear zO zA zX zR zQ zK
  clear cO0 cA0 cA1 cA2 cA3 cA4 cA5 cX0 cX1 cX2 cX3 cX4 cX5 cR0 cR1 cR2 cR3 cR4 cR5 cQ0 cQ1 cQ2 cQ3 cQ4 cQ5 cK0
  clear fO0 fR0 fR1 fR2 fR3 fR4 fR5 fQ0 fQ1 fQ2 fQ3 fQ4 fQ5 fK0
  have cO0 : w9.cell? ⟨w.heap.size, 0, none⟩ = some (.int .u8 op) := cl_of hO 0
  have fO0 : w9.frozen? ⟨w.heap.size, 0, none⟩ = false := fz_of hO 0
  have zO := lt_of hO
  obtain ⟨cA0, cA1, cA2, cA3, cA4, cA5⟩ := c6_of hA
  have zA := lt_of hA
  obtain ⟨cX0, cX1, cX2, cX3, cX4, cX5⟩ := c6_of hX
  have zX := lt_of hX
  obtain ⟨cR0, cR1, cR2, cR3, cR4, cR5⟩ := c6_of hR
  obtain ⟨fR0, fR1, fR2, fR3, fR4, fR5⟩ := f6_of hR
  have zR := lt_of hR
  obtain ⟨cQ0, cQ1, cQ2, cQ3, cQ4, cQ5⟩ := c6_of hQ
  obtain ⟨fQ0, fQ1, fQ2, fQ3, fQ4, fQ5⟩ := f6_of hQ
  have zQ := lt_of hQ
  have cK0 : w9.cell? ⟨w.heap.size + 1 + 1 + 1 + 1 + 1, 0, none⟩ = some (.bool false) := cl_of hK 0
  have fK0 : w9.frozen? ⟨w.heap.size + 1 + 1 + 1 + 1 + 1, 0, none⟩ = false := fz_of hK 0
  have zK := lt_of hK
  have HB : Hid (But [] w w9) := Lib.hid ((HB.out).trans hb9 (by simp))
  have HO := Lib.hid hO
  have HA := Lib.hid hA
  have HX := Lib.hid hX
  have HR := Lib.hid hR
  have HQ := Lib.hid hQ
  have HK := Lib.hid hK
  clear hO hA hX hR hQ hK hb9
  go_wp2_with fail
  refine (G2.out _).mono ?_
  rintro e w10 ⟨rfl, hb10⟩
  have hO : w10.heap[w.heap.size]? = some (.cells #[.int .u8 op] 5) := hb10.heap (HO.out) (by simp)
  have hA : w10.heap[w.heap.size + 1]? = some (.cells #[.int .u64 v, .int .u64 m, .int .u64 lo, .int .u64 hi, .int .i64 sl, .int .i64 sh] 28) := hb10.heap (HA.out) (by simp)
  have hX : w10.heap[w.heap.size + 1 + 1]? = some (.cells #[.int .u64 xv, .int .u64 xm, .int .u64 xlo, .int .u64 xhi, .int .i64 xsl, .int .i64 xsh] 28) := hb10.heap (HX.out) (by simp)
  have hR : w10.heap[w.heap.size + 1 + 1 + 1]? = some (.cells #[.int .u64 0, .int .u64 0, .int .u64 0, .int .u64 0, .int .i64 0, .int .i64 0] 28) := hb10.heap (HR.out) (by simp)
  have hQ : w10.heap[w.heap.size + 1 + 1 + 1 + 1]? = some (.cells #[.int .u64 0, .int .u64 0, .int .u64 0, .int .u64 0, .int .i64 0, .int .i64 0] 28) := hb10.heap (HQ.out) (by simp)
  have hK : w10.heap[w.heap.size + 1 + 1 + 1 + 1 + 1]? = some (.cells #[.bool false] 4) := hb10.heap (HK.out) (by simp)
  clear zO zA zX zR zQ zK
  clear cO0 cA0 cA1 cA2 cA3 cA4 cA5 cX0 cX1 cX2 cX3 cX4 cX5 cR0 cR1 cR2 cR3 cR4 cR5 cQ0 cQ1 cQ2 cQ3 cQ4 cQ5 cK0
  clear fO0 fR0 fR1 fR2 fR3 fR4 fR5 fQ0 fQ1 fQ2 fQ3 fQ4 fQ5 fK0
  have cO0 : w10.cell? ⟨w.heap.size, 0, none⟩ = some (.int .u8 op) := cl_of hO 0
  have fO0 : w10.frozen? ⟨w.heap.size, 0, none⟩ = false := fz_of hO 0
  have zO := lt_of hO
  obtain ⟨cA0, cA1, cA2, cA3, cA4, cA5⟩ := c6_of hA
  have zA := lt_of hA
  obtain ⟨cX0, cX1, cX2, cX3, cX4, cX5⟩ := c6_of hX
  have zX := lt_of hX
  obtain ⟨cR0, cR1, cR2, cR3, cR4, cR5⟩ := c6_of hR
  obtain ⟨fR0, fR1, fR2, fR3, fR4, fR5⟩ := f6_of hR
  have zR := lt_of hR
  obtain ⟨cQ0, cQ1, cQ2, cQ3, cQ4, cQ5⟩ := c6_of hQ
  obtain ⟨fQ0, fQ1, fQ2, fQ3, fQ4, fQ5⟩ := f6_of hQ
  have zQ := lt_of hQ
  have cK0 : w10.cell? ⟨w.heap.size + 1 + 1 + 1 + 1 + 1, 0, none⟩ = some (.bool false) := cl_of hK 0
  have fK0 : w10.frozen? ⟨w.heap.size + 1 + 1 + 1 + 1 + 1, 0, none⟩ = false := fz_of hK 0
  have zK := lt_of hK
  have HB : Hid (But [] w w10) := Lib.hid ((HB.out).trans hb10 (by simp))
  have HO := Lib.hid hO
  have HA := Lib.hid hA
  have HX := Lib.hid hX
  have HR := Lib.hid hR
  have HQ := Lib.hid hQ
  have HK := Lib.hid hK
  clear hO hA hX hR hQ hK hb10
  go_upto_region 4 with (fail)
  go_cut [46] from 41 to 46 (fun s wx => s = .bool false ∧ wx = w10)
  case first =>
    rcases HW.out with rfl | hw
    · go_wp2_with fail
      all_goals go_meet
      all_goals exact ⟨rfl, rfl⟩
    · have hge : ¬ (2147483648 : Int) ≤ (p : Int) := by omega
      cases wide
      · go_wp2_with fail
        all_goals go_meet
        all_goals exact ⟨rfl, rfl⟩
      · go_wp2_with fail
        all_goals go_meet
        all_goals exact ⟨rfl, rfl⟩
  case rest =>
    obtain ⟨rfl, rfl⟩ := hcut
    refine (by assumption : ∀ (a : Act) (w1 : World), Code.wp _ _ _ a w1 → _) _ _ ?_
    go_upto_if 50 with (fail)
    go_cut [] from 51 to 52 (fun wx => wx.heap[w.heap.size]? = some (.cells #[.int .u8 (op2 : Int)] 5) ∧ wx.heap[w.heap.size + 1]? = some (.cells #[.int .u64 v, .int .u64 m, .int .u64 lo, .int .u64 hi, .int .i64 sl, .int .i64 sh] 28) ∧ wx.heap[w.heap.size + 1 + 1]? = some (.cells #[.int .u64 xv, .int .u64 xm, .int .u64 xlo, .int .u64 xhi, .int .i64 xsl, .int .i64 xsh] 28) ∧ wx.heap[w.heap.size + 1 + 1 + 1]? = some (.cells #[.int .u64 0, .int .u64 0, .int .u64 0, .int .u64 0, .int .i64 0, .int .i64 0] 28) ∧ wx.heap[w.heap.size + 1 + 1 + 1 + 1]? = some (.cells #[.int .u64 0, .int .u64 0, .int .u64 0, .int .u64 0, .int .i64 0, .int .i64 0] 28) ∧ wx.heap[w.heap.size + 1 + 1 + 1 + 1 + 1]? = some (.cells #[.bool false] 4) ∧ But [] w wx)
    case first =>
      cases taken with
      | true =>
        go_wp2_with fail
        all_goals go_meet
        have ho2 : op2 = op := EO2.out
        exact ⟨by rw [ho2]; exact HO.out, HA.out, HX.out, HR.out, HQ.out, HK.out, HB.out⟩
      | false =>
        go_wp2_with fail
        refine (G2.out _).mono ?_
        rintro e w11 ⟨rfl, hb11⟩
        have hO : w11.heap[w.heap.size]? = some (.cells #[.int .u8 op] 5) := hb11.heap (HO.out) (by simp)
        have hA : w11.heap[w.heap.size + 1]? = some (.cells #[.int .u64 v, .int .u64 m, .int .u64 lo, .int .u64 hi, .int .i64 sl, .int .i64 sh] 28) := hb11.heap (HA.out) (by simp)
        have hX : w11.heap[w.heap.size + 1 + 1]? = some (.cells #[.int .u64 xv, .int .u64 xm, .int .u64 xlo, .int .u64 xhi, .int .i64 xsl, .int .i64 xsh] 28) := hb11.heap (HX.out) (by simp)
        have hR : w11.heap[w.heap.size + 1 + 1 + 1]? = some (.cells #[.int .u64 0, .int .u64 0, .int .u64 0, .int .u64 0, .int .i64 0, .int .i64 0] 28) := hb11.heap (HR.out) (by simp)
        have hQ : w11.heap[w.heap.size + 1 + 1 + 1 + 1]? = some (.cells #[.int .u64 0, .int .u64 0, .int .u64 0, .int .u64 0, .int .i64 0, .int .i64 0] 28) := hb11.heap (HQ.out) (by simp)
        have hK : w11.heap[w.heap.size + 1 + 1 + 1 + 1 + 1]? = some (.cells #[.bool false] 4) := hb11.heap (HK.out) (by simp)
        clear zO zA zX zR zQ zK
        clear cO0 cA0 cA1 cA2 cA3 cA4 cA5 cX0 cX1 cX2 cX3 cX4 cX5 cR0 cR1 cR2 cR3 cR4 cR5 cQ0 cQ1 cQ2 cQ3 cQ4 cQ5 cK0
        clear fO0 fR0 fR1 fR2 fR3 fR4 fR5 fQ0 fQ1 fQ2 fQ3 fQ4 fQ5 fK0
        have cO0 : w11.cell? ⟨w.heap.size, 0, none⟩ = some (.int .u8 op) := cl_of hO 0
        have fO0 : w11.frozen? ⟨w.heap.size, 0, none⟩ = false := fz_of hO 0
        have zO := lt_of hO
        obtain ⟨cA0, cA1, cA2, cA3, cA4, cA5⟩ := c6_of hA
        have zA := lt_of hA
        obtain ⟨cX0, cX1, cX2, cX3, cX4, cX5⟩ := c6_of hX
        have zX := lt_of hX
        obtain ⟨cR0, cR1, cR2, cR3, cR4, cR5⟩ := c6_of hR
        obtain ⟨fR0, fR1, fR2, fR3, fR4, fR5⟩ := f6_of hR
        have zR := lt_of hR
        obtain ⟨cQ0, cQ1, cQ2, cQ3, cQ4, cQ5⟩ := c6_of hQ
        obtain ⟨fQ0, fQ1, fQ2, fQ3, fQ4, fQ5⟩ := f6_of hQ
        have zQ := lt_of hQ
        have cK0 : w11.cell? ⟨w.heap.size + 1 + 1 + 1 + 1 + 1, 0, none⟩ = some (.bool false) := cl_of hK 0
        have fK0 : w11.frozen? ⟨w.heap.size + 1 + 1 + 1 + 1 + 1, 0, none⟩ = false := fz_of hK 0
        have zK := lt_of hK
        have HB : Hid (But [] w w11) := Lib.hid ((HB.out).trans hb11 (by simp))
        have HO := Lib.hid hO
        have HA := Lib.hid hA
        have HX := Lib.hid hX
        have HR := Lib.hid hR
        have HQ := Lib.hid hQ
        have HK := Lib.hid hK
        clear hO hA hX hR hQ hK hb11
        go_wp2_with fail
        all_goals go_meet
        have ho2 : op2 = q1 := by rw [EQ1.out]; exact EO2.out
        exact ⟨by rw [ho2]; exact set1 HO.out, sc_keep HA.out (by simp only [ne_eq]; omega), sc_keep HX.out (by simp only [ne_eq]; omega), sc_keep HR.out (by simp only [ne_eq]; omega), sc_keep HQ.out (by simp only [ne_eq]; omega), sc_keep HK.out (by simp only [ne_eq]; omega), HB.out.setCell (.inr (by simp)) _⟩
    case rest =>
      clear HO HB HA HX HR HQ HK zO zA zX zR zQ zK cO0 cA0 cA1 cA2 cA3 cA4 cA5 cX0 cX1 cX2 cX3 cX4 cX5 cR0 cR1 cR2 cR3 cR4 cR5 cQ0 cQ1 cQ2 cQ3 cQ4 cQ5 cK0 fO0 fR0 fR1 fR2 fR3 fR4 fR5 fQ0 fQ1 fQ2 fQ3 fQ4 fQ5 fK0 hqz hpm G0 G1 G2
      obtain ⟨hO, hA, hX, hR, hQ, hK, hb⟩ := hcut
      refine (by assumption : ∀ (a : Act) (w1 : World), Code.wp _ _ _ a w1 → _) _ _ ?_
      obtain ⟨cA0, cA1, cA2, cA3, cA4, cA5⟩ := c6_of hA
      have zA := lt_of hA
      obtain ⟨cX0, cX1, cX2, cX3, cX4, cX5⟩ := c6_of hX
      have zX := lt_of hX
      have HO := Lib.hid hO
      have HR := Lib.hid hR
      have HQ := Lib.hid hQ
      have HK := Lib.hid hK
      have HB := Lib.hid hb
      have zK := Lib.hid (lt_of hK)
      clear hO hA hX hR hQ hK hb
      go_wp2_with fail
      refine (sides_c _ _ _ _ _ _ _ _ _ _ _ _ _).mono ?_
      rintro e wS ⟨qb, rfl, hqb, hqn0, hbS⟩
      have hcS : But [] wc wS := ((But.refl [] wc).alloc _).trans hbS (by simp)
      have hT : wS.heap[wc.heap.size]? = some (.cells (pcells zeroSc zeroSc) 54) := hbS.heap (al_at wc _) (by simp)
      have hqn : wc.heap.size < qb := by simp only [size_alloc] at hqn0; omega
      have hql : qb < wS.heap.size := lt_of hqb
      have hTl : wc.heap.size < wS.heap.size := lt_of hT
      have HBI : Hid (BI wS w.heap.size (w.heap.size + 1 + 1 + 1) (w.heap.size + 1 + 1 + 1 + 1) (w.heap.size + 1 + 1 + 1 + 1 + 1) wc.heap.size op2 ⟨⟨v, m⟩, ⟨lo, hi, sl, sh⟩⟩ ⟨⟨xv, xm⟩, ⟨xlo, xhi, xsl, xsh⟩⟩ [] wS) := Lib.hid ⟨hcS.heap HO.out (by simp), hcS.heap HR.out (by simp), hcS.heap HQ.out (by simp), hcS.heap HK.out (by simp), ⟨_, _, hT, by simp, by simp⟩, But.refl _ _⟩
      have HQB := Lib.hid hqb
      have HBS := Lib.hid hcS
      clear hqb hbS hcS hT cA0 cX0 cA1 cX1 cA2 cX2 cA3 cX3 cA4 cX4 cA5 cX5 zA zX
      clear hqn0
      go_wp2_with fail
      obtain ⟨O, hOe⟩ : ∃ n, n = w.heap.size := ⟨_, rfl⟩
      obtain ⟨T, hTe⟩ : ∃ n, n = wc.heap.size := ⟨_, rfl⟩
      have zK0 := zK.out
      rw [← hOe] at zK0
      rw [← hOe, ← hTe] at HBI
      rw [← hTe] at hqn hTl zK0
      rw [← hOe, ← hTe]
      have HOE := Lib.hid hOe
      clear hOe hTe
      obtain ⟨R, hRe⟩ : ∃ n, n = O + 1 + 1 + 1 := ⟨_, rfl⟩
      obtain ⟨Qb, hQe⟩ : ∃ n, n = O + 1 + 1 + 1 + 1 := ⟨_, rfl⟩
      obtain ⟨Kb, hKe⟩ : ∃ n, n = O + 1 + 1 + 1 + 1 + 1 := ⟨_, rfl⟩
      rw [← hKe] at zK0 HBI
      rw [← hQe] at HBI
      rw [← hRe] at HBI
      rw [← hKe, ← hQe, ← hRe]
      have HN : Hid (O < R ∧ R < Qb ∧ Qb < Kb ∧ Kb < T ∧ w.heap.size ≤ O ∧ T < wS.heap.size) := Lib.hid ⟨by omega, by omega, by omega, by omega, Nat.le_of_eq HOE.out.symm, hTl⟩
      have HSQ := Lib.hid (sides1_seq 3 (by omega) qb v m lo hi xv xm xlo xhi sl sh xsl xsh (fun b => b ≠ T ∧ b < wS.heap.size) wS HQB.out ⟨by omega, hql⟩)
      clear zK0 hRe hQe hKe hqn hTl hql
      refine (wpIn_wide (n := 4)).1 ?_
      refine wpIn_rangeFunc_but rfl (by omega) (gf := 46) (lb := #[.pointer (some ⟨qb, 0, none⟩)]) rfl trivial (enters_of Try.func46 (by kernel_rfl) rfl) HSQ.out (fun h k => h.trans k) (fun hz hb => KeepIn.of_but hb (by simp)) (fun V l o o' hl hV ho => KeepIn.of_but (but_putObj o' hV) (by simp only [List.mem_singleton]; rintro x rfl ⟨h1, h2⟩; omega)) ⟨fun _ _ _ h _ => h, fun _ _ _ _ _ h _ _ _ => h⟩ (But.refl _ _) (fun x => by cases x <;> rfl) (BI wS O R Qb Kb T op2 ⟨⟨v, m⟩, ⟨lo, hi, sl, sh⟩⟩ ⟨⟨xv, xm⟩, ⟨xlo, xhi, xsl, xsh⟩⟩) (BX wS R Qb Kb T op2 ⟨⟨v, m⟩, ⟨lo, hi, sl, sh⟩⟩ ⟨⟨xv, xm⟩, ⟨xlo, xhi, xsl, xsh⟩⟩) (BI.abides _ _ _ _ _ _ _ _ _ _ (Nat.le_refl _)) (fun c => BX.abides _ _ _ _ _ _ _ _ c _ (Nat.le_refl _)) HBI.out (BAx wS.heap.size O R Qb Kb T ⟨⟨v, m⟩, ⟨lo, hi, sl, sh⟩⟩ ⟨⟨xv, xm⟩, ⟨xlo, xhi, xsl, xsh⟩⟩) (fun a' => BAx.abides _ _ _ _ _ _ _ _ a' _) ?assign ?body ?done ?stop ?throw
      case assign =>
        intro l pre x W5 K hI hA hlt hK
        have hx2 : x = 0 ∨ x = 1 := by unfold Any2 at hA; omega
        have HK9 := Lib.hid hK
        have hz5 : wS.heap.size ≤ W5.heap.size := hI.but.size
        clear hI hA hlt hK
        rcases hx2 with rfl | rfl <;> simp only [encS, pv]
        · gi_wp2
          exact HK9.out _ _ ((But.refl _ _).alloc _) ⟨W5.heap.size, al_at _ _, hz5, _, _, _, _, _, _, _, _, _, _, _, _, _, _, _, _, _, _, _, _, _, _, _, _, _, _, _, _, _, _, _, _, _, _, _, _, _, _, _, _, _, _, _, _, _, _, _, _, _, _, _, _, _, _, _, _, _, _, _, _, _, _, _, _, _, _, _, _, _, _, _, _, _, _, _, _, _, rfl⟩
        · gi_wp2
          exact HK9.out _ _ ((But.refl _ _).alloc _) ⟨W5.heap.size, al_at _ _, hz5, _, _, _, _, _, _, _, _, _, _, _, _, _, _, _, _, _, _, _, _, _, _, _, _, _, _, _, _, _, _, _, _, _, _, _, _, _, _, _, _, _, _, _, _, _, _, _, _, _, _, _, _, _, _, _, _, _, _, _, _, _, _, _, _, _, _, _, _, _, _, _, _, _, _, _, _, _, rfl⟩
      case throw =>
        rintro D pre chain W5 _ h _ _
        exact h.elim
      case body =>
        rintro l pre x a9 W5 ⟨pb, hp, hpn, u0, u1, u2, u3, u4, u6, u7, u8, u9, u13, u17, u18, u19, u20, u21, u22, u23, u24, u25, u26, u27, u28, u29, u30, u31, u32, u33, u34, u35, u36, u37, u38, u39, u40, u41, u42, u43, u44, u45, u46, u47, u48, u49, u50, u51, u52, u53, u54, u55, u56, u57, u58, u59, u60, u61, u62, u63, u64, u65, u66, u67, u68, u69, u70, u71, u72, u73, u74, u75, u76, u77, u78, u79, u80, u81, u82, u83, rfl⟩ hI hA _ hlen
        have hx2 : x = 0 ∨ x = 1 := by unfold Any2 at hA; omega
        have HI := Lib.hid hI
        have HO5 := Lib.hid hI.o
        have hN := HN.out
        have hz5 : wS.heap.size ≤ W5.heap.size := hI.but.size
        clear hI hA hlen
        rcases hx2 with rfl | rfl
        · have HP5 : Hid (W5.heap[pb]? = some (.cells #[.int .u64 v, .int .u64 m, .int .u64 lo, .int .u64 hi, .int .i64 sl, .int .i64 sh, .int .u64 xv, .int .u64 xm, .int .u64 xlo, .int .u64 xhi, .int .i64 xsl, .int .i64 xsh] 54)) := Lib.hid hp
          clear hp
          gi_wp2
          refine br12 _ _ _ FA.out FX.out HOP.out (.inl ⟨rfl, rfl⟩) HO5 HP5 ?_
          intro z59 z60 z61 z62 z63 z64 z65 z66 z67 z68 z69 z70 z71 z72 w6 k c hb6 hk hkc hc
          have HI6 : Hid (BI wS O R Qb Kb T op2 ⟨⟨v, m⟩, ⟨lo, hi, sl, sh⟩⟩ ⟨⟨xv, xm⟩, ⟨xlo, xhi, xsl, xsh⟩⟩ pre w6) := Lib.hid ⟨hb6.heap HI.out.o (by simp), hb6.heap HI.out.r (by simp), hb6.heap HI.out.q (by simp), hb6.heap HI.out.k (by simp), (by obtain ⟨x0, y0, h1, h2, h3⟩ := HI.out.t; exact ⟨x0, y0, hb6.heap h1 (by simp), h2, h3⟩), HI.out.but.trans hb6 (by simp)⟩
          have HB6 := Lib.hid hb6
          have HC := Lib.hid hc
          have HKC := Lib.hid hkc
          have hkT : T < k := by omega
          clear hb6 hc hkc
          cases hrr : ruleT op2 false ⟨⟨v, m⟩, ⟨lo, hi, sl, sh⟩⟩ ⟨⟨xv, xm⟩, ⟨xlo, xhi, xsl, xsh⟩⟩ with
          | none =>
            have HRR := Lib.hid hrr
            clear hrr
            simp only [Option.isSome]
            have hr6 := HI6.out.r
            have hq6 := HI6.out.q
            have hk6 := HI6.out.k
            obtain ⟨cR0, cR1, cR2, cR3, cR4, cR5⟩ := c6_of hr6
            obtain ⟨fR0, fR1, fR2, fR3, fR4, fR5⟩ := f6_of hr6
            have zR := lt_of hr6
            obtain ⟨cQ0, cQ1, cQ2, cQ3, cQ4, cQ5⟩ := c6_of hq6
            obtain ⟨fQ0, fQ1, fQ2, fQ3, fQ4, fQ5⟩ := f6_of hq6
            have zQ := lt_of hq6
            have cK0 : w6.cell? ⟨Kb, 0, none⟩ = some (.bool false) := cl_of hk6 0
            have fK0 : w6.frozen? ⟨Kb, 0, none⟩ = false := fz_of hk6 0
            have zK := lt_of hk6
            clear hr6 hq6 hk6
            have HNN := Lib.hid hN
            obtain ⟨n1, n2, n3, n4, n5, n6⟩ := hN
            have m1 : R ≠ Qb := by omega
            have m2 : Qb ≠ R := by omega
            have m3 : R ≠ Kb := by omega
            have m4 : Kb ≠ R := by omega
            have m5 : Qb ≠ Kb := by omega
            have m6 : Kb ≠ Qb := by omega
            gi_wp2
            gi_region
            all_goals gi_wp2
            all_goals exact BI.stop HI.out HB6.out (hold_no0 HRR.out) (dr_keep (ret13 HI6.out.r HI6.out.q HI6.out.k m1 m3 m5).1) (dr_keep (ret13 HI6.out.r HI6.out.q HI6.out.k m1 m3 m5).2.1) (dr_keep (ret13 HI6.out.r HI6.out.q HI6.out.k m1 m3 m5).2.2.1) (ret13 HI6.out.r HI6.out.q HI6.out.k m1 m3 m5).2.2.2.drew
          | some d =>
            obtain rfl : c = d := HC.out d hrr
            have HRR := Lib.hid hrr
            clear hrr
            simp only [Option.isSome]
            obtain ⟨⟨cv, cm⟩, ⟨cl, ch, ci, cj⟩⟩ := c
            obtain ⟨x0, y0, ht6, ht0, ht1⟩ := HI6.out.t
            obtain ⟨⟨av, am⟩, ⟨al, ah, ai, aj⟩⟩ := x0
            obtain ⟨⟨bv, bm⟩, ⟨bl, bh, bi, bj⟩⟩ := y0
            have hkc := HKC.out
            obtain ⟨cC0, cC1, cC2, cC3, cC4, cC5⟩ := c6_of hkc
            have zC := lt_of hkc
            have cT0 : w6.cell? ⟨T, 0, none⟩ = some (.int .u64 av) := cl_of ht6 0
            have cT1 : w6.cell? ⟨T, 1, none⟩ = some (.int .u64 am) := cl_of ht6 1
            have cT2 : w6.cell? ⟨T, 2, none⟩ = some (.int .u64 al) := cl_of ht6 2
            have cT3 : w6.cell? ⟨T, 3, none⟩ = some (.int .u64 ah) := cl_of ht6 3
            have cT4 : w6.cell? ⟨T, 4, none⟩ = some (.int .i64 ai) := cl_of ht6 4
            have cT5 : w6.cell? ⟨T, 5, none⟩ = some (.int .i64 aj) := cl_of ht6 5
            have cT6 : w6.cell? ⟨T, 6, none⟩ = some (.int .u64 bv) := cl_of ht6 6
            have cT7 : w6.cell? ⟨T, 7, none⟩ = some (.int .u64 bm) := cl_of ht6 7
            have cT8 : w6.cell? ⟨T, 8, none⟩ = some (.int .u64 bl) := cl_of ht6 8
            have cT9 : w6.cell? ⟨T, 9, none⟩ = some (.int .u64 bh) := cl_of ht6 9
            have cT10 : w6.cell? ⟨T, 10, none⟩ = some (.int .i64 bi) := cl_of ht6 10
            have cT11 : w6.cell? ⟨T, 11, none⟩ = some (.int .i64 bj) := cl_of ht6 11
            have fT0 : w6.frozen? ⟨T, 0, none⟩ = false := fz_of ht6 0
            have fT1 : w6.frozen? ⟨T, 1, none⟩ = false := fz_of ht6 1
            have fT2 : w6.frozen? ⟨T, 2, none⟩ = false := fz_of ht6 2
            have fT3 : w6.frozen? ⟨T, 3, none⟩ = false := fz_of ht6 3
            have fT4 : w6.frozen? ⟨T, 4, none⟩ = false := fz_of ht6 4
            have fT5 : w6.frozen? ⟨T, 5, none⟩ = false := fz_of ht6 5
            have fT6 : w6.frozen? ⟨T, 6, none⟩ = false := fz_of ht6 6
            have fT7 : w6.frozen? ⟨T, 7, none⟩ = false := fz_of ht6 7
            have fT8 : w6.frozen? ⟨T, 8, none⟩ = false := fz_of ht6 8
            have fT9 : w6.frozen? ⟨T, 9, none⟩ = false := fz_of ht6 9
            have fT10 : w6.frozen? ⟨T, 10, none⟩ = false := fz_of ht6 10
            have fT11 : w6.frozen? ⟨T, 11, none⟩ = false := fz_of ht6 11
            have zT := lt_of ht6
            have HT6 := Lib.hid ht6
            have HT0 := Lib.hid ht0
            have HT1 := Lib.hid ht1
            have HNN := Lib.hid hN
            clear hkc ht6 ht0 ht1 hN
            gi_wp2
            have hN := HNN.out
            exact BI.next HI.out HB6.out ⟨by omega, by omega, by omega, by omega⟩ (by repeat (first | with_reducible exact But.refl _ _ | with_reducible refine But.setCell ?_ (.inl (by simp)) _)) ⟨⟨⟨cv, cm⟩, ⟨cl, ch, ci, cj⟩⟩, ⟨⟨bv, bm⟩, ⟨bl, bh, bi, bj⟩⟩, set12a (c := ⟨⟨cv, cm⟩, ⟨cl, ch, ci, cj⟩⟩) HT6.out, fun _ => HRR.out, fun h => HT1.out (by simpa using h)⟩
        · have HP5 : Hid (W5.heap[pb]? = some (.cells #[.int .u64 xv, .int .u64 xm, .int .u64 xlo, .int .u64 xhi, .int .i64 xsl, .int .i64 xsh, .int .u64 v, .int .u64 m, .int .u64 lo, .int .u64 hi, .int .i64 sl, .int .i64 sh] 54)) := Lib.hid hp
          clear hp
          gi_wp2
          refine br12 _ _ _ FX.out FA.out HOP.out (.inr ⟨rfl, rfl⟩) HO5 HP5 ?_
          intro z59 z60 z61 z62 z63 z64 z65 z66 z67 z68 z69 z70 z71 z72 w6 k c hb6 hk hkc hc
          have HI6 : Hid (BI wS O R Qb Kb T op2 ⟨⟨v, m⟩, ⟨lo, hi, sl, sh⟩⟩ ⟨⟨xv, xm⟩, ⟨xlo, xhi, xsl, xsh⟩⟩ pre w6) := Lib.hid ⟨hb6.heap HI.out.o (by simp), hb6.heap HI.out.r (by simp), hb6.heap HI.out.q (by simp), hb6.heap HI.out.k (by simp), (by obtain ⟨x0, y0, h1, h2, h3⟩ := HI.out.t; exact ⟨x0, y0, hb6.heap h1 (by simp), h2, h3⟩), HI.out.but.trans hb6 (by simp)⟩
          have HB6 := Lib.hid hb6
          have HC := Lib.hid hc
          have HKC := Lib.hid hkc
          have hkT : T < k := by omega
          clear hb6 hc hkc
          cases hrr : ruleT op2 true ⟨⟨xv, xm⟩, ⟨xlo, xhi, xsl, xsh⟩⟩ ⟨⟨v, m⟩, ⟨lo, hi, sl, sh⟩⟩ with
          | none =>
            have HRR := Lib.hid hrr
            clear hrr
            simp only [Option.isSome]
            have hr6 := HI6.out.r
            have hq6 := HI6.out.q
            have hk6 := HI6.out.k
            obtain ⟨cR0, cR1, cR2, cR3, cR4, cR5⟩ := c6_of hr6
            obtain ⟨fR0, fR1, fR2, fR3, fR4, fR5⟩ := f6_of hr6
            have zR := lt_of hr6
            obtain ⟨cQ0, cQ1, cQ2, cQ3, cQ4, cQ5⟩ := c6_of hq6
            obtain ⟨fQ0, fQ1, fQ2, fQ3, fQ4, fQ5⟩ := f6_of hq6
            have zQ := lt_of hq6
            have cK0 : w6.cell? ⟨Kb, 0, none⟩ = some (.bool false) := cl_of hk6 0
            have fK0 : w6.frozen? ⟨Kb, 0, none⟩ = false := fz_of hk6 0
            have zK := lt_of hk6
            clear hr6 hq6 hk6
            have HNN := Lib.hid hN
            obtain ⟨n1, n2, n3, n4, n5, n6⟩ := hN
            have m1 : R ≠ Qb := by omega
            have m2 : Qb ≠ R := by omega
            have m3 : R ≠ Kb := by omega
            have m4 : Kb ≠ R := by omega
            have m5 : Qb ≠ Kb := by omega
            have m6 : Kb ≠ Qb := by omega
            gi_wp2
            gi_region
            all_goals gi_wp2
            all_goals exact BI.stop HI.out HB6.out (hold_no1 HRR.out) (dr_keep (ret13 HI6.out.r HI6.out.q HI6.out.k m1 m3 m5).1) (dr_keep (ret13 HI6.out.r HI6.out.q HI6.out.k m1 m3 m5).2.1) (dr_keep (ret13 HI6.out.r HI6.out.q HI6.out.k m1 m3 m5).2.2.1) (ret13 HI6.out.r HI6.out.q HI6.out.k m1 m3 m5).2.2.2.drew
          | some d =>
            obtain rfl : c = d := HC.out d hrr
            have HRR := Lib.hid hrr
            clear hrr
            simp only [Option.isSome]
            obtain ⟨⟨cv, cm⟩, ⟨cl, ch, ci, cj⟩⟩ := c
            obtain ⟨x0, y0, ht6, ht0, ht1⟩ := HI6.out.t
            obtain ⟨⟨av, am⟩, ⟨al, ah, ai, aj⟩⟩ := x0
            obtain ⟨⟨bv, bm⟩, ⟨bl, bh, bi, bj⟩⟩ := y0
            have hkc := HKC.out
            obtain ⟨cC0, cC1, cC2, cC3, cC4, cC5⟩ := c6_of hkc
            have zC := lt_of hkc
            have cT0 : w6.cell? ⟨T, 0, none⟩ = some (.int .u64 av) := cl_of ht6 0
            have cT1 : w6.cell? ⟨T, 1, none⟩ = some (.int .u64 am) := cl_of ht6 1
            have cT2 : w6.cell? ⟨T, 2, none⟩ = some (.int .u64 al) := cl_of ht6 2
            have cT3 : w6.cell? ⟨T, 3, none⟩ = some (.int .u64 ah) := cl_of ht6 3
            have cT4 : w6.cell? ⟨T, 4, none⟩ = some (.int .i64 ai) := cl_of ht6 4
            have cT5 : w6.cell? ⟨T, 5, none⟩ = some (.int .i64 aj) := cl_of ht6 5
            have cT6 : w6.cell? ⟨T, 6, none⟩ = some (.int .u64 bv) := cl_of ht6 6
            have cT7 : w6.cell? ⟨T, 7, none⟩ = some (.int .u64 bm) := cl_of ht6 7
            have cT8 : w6.cell? ⟨T, 8, none⟩ = some (.int .u64 bl) := cl_of ht6 8
            have cT9 : w6.cell? ⟨T, 9, none⟩ = some (.int .u64 bh) := cl_of ht6 9
            have cT10 : w6.cell? ⟨T, 10, none⟩ = some (.int .i64 bi) := cl_of ht6 10
            have cT11 : w6.cell? ⟨T, 11, none⟩ = some (.int .i64 bj) := cl_of ht6 11
            have fT0 : w6.frozen? ⟨T, 0, none⟩ = false := fz_of ht6 0
            have fT1 : w6.frozen? ⟨T, 1, none⟩ = false := fz_of ht6 1
            have fT2 : w6.frozen? ⟨T, 2, none⟩ = false := fz_of ht6 2
            have fT3 : w6.frozen? ⟨T, 3, none⟩ = false := fz_of ht6 3
            have fT4 : w6.frozen? ⟨T, 4, none⟩ = false := fz_of ht6 4
            have fT5 : w6.frozen? ⟨T, 5, none⟩ = false := fz_of ht6 5
            have fT6 : w6.frozen? ⟨T, 6, none⟩ = false := fz_of ht6 6
            have fT7 : w6.frozen? ⟨T, 7, none⟩ = false := fz_of ht6 7
            have fT8 : w6.frozen? ⟨T, 8, none⟩ = false := fz_of ht6 8
            have fT9 : w6.frozen? ⟨T, 9, none⟩ = false := fz_of ht6 9
            have fT10 : w6.frozen? ⟨T, 10, none⟩ = false := fz_of ht6 10
            have fT11 : w6.frozen? ⟨T, 11, none⟩ = false := fz_of ht6 11
            have zT := lt_of ht6
            have HT6 := Lib.hid ht6
            have HT0 := Lib.hid ht0
            have HT1 := Lib.hid ht1
            have HNN := Lib.hid hN
            clear hkc ht6 ht0 ht1 hN
            gi_wp2
            have hN := HNN.out
            exact BI.next HI.out HB6.out ⟨by omega, by omega, by omega, by omega⟩ (by repeat (first | with_reducible exact But.refl _ _ | with_reducible refine But.setCell ?_ (.inl (by simp)) _)) ⟨⟨⟨av, am⟩, ⟨al, ah, ai, aj⟩⟩, ⟨⟨cv, cm⟩, ⟨cl, ch, ci, cj⟩⟩, set12b (c := ⟨⟨cv, cm⟩, ⟨cl, ch, ci, cj⟩⟩) HT6.out, fun h => HT0.out (by simpa using h), fun _ => HRR.out⟩
      case done =>
        rintro D xs W5 hD hS hI hK
        obtain rfl : xs = List.range 2 := hS
        obtain ⟨⟨⟨av, am⟩, ⟨al, ah, ai, aj⟩⟩, ⟨⟨bv, bm⟩, ⟨bl, bh, bi, bj⟩⟩, ht, hx0, hy0⟩ := hI.t
        have hx1 := hx0 (by decide)
        have hy1 := hy0 (by decide)
        have HH : Hid (holdT op2 ⟨⟨v, m⟩, ⟨lo, hi, sl, sh⟩⟩ ⟨⟨xv, xm⟩, ⟨xlo, xhi, xsl, xsh⟩⟩ = some (⟨⟨av, am⟩, ⟨al, ah, ai, aj⟩⟩, ⟨⟨bv, bm⟩, ⟨bl, bh, bi, bj⟩⟩)) := Lib.hid (by unfold holdT; rw [hx1, Option.bind_some, hy1]; rfl)
        have hr5 := hI.r
        have hq5 := hI.q
        have hk5 := hI.k
        obtain ⟨cR0, cR1, cR2, cR3, cR4, cR5⟩ := c6_of hr5
        obtain ⟨fR0, fR1, fR2, fR3, fR4, fR5⟩ := f6_of hr5
        have zR := lt_of hr5
        obtain ⟨cQ0, cQ1, cQ2, cQ3, cQ4, cQ5⟩ := c6_of hq5
        obtain ⟨fQ0, fQ1, fQ2, fQ3, fQ4, fQ5⟩ := f6_of hq5
        have zQ := lt_of hq5
        have cK0 : W5.cell? ⟨Kb, 0, none⟩ = some (.bool false) := cl_of hk5 0
        have fK0 : W5.frozen? ⟨Kb, 0, none⟩ = false := fz_of hk5 0
        have zK := lt_of hk5
        have cT0 : W5.cell? ⟨T, 0, none⟩ = some (.int .u64 av) := cl_of ht 0
        have cT1 : W5.cell? ⟨T, 1, none⟩ = some (.int .u64 am) := cl_of ht 1
        have cT2 : W5.cell? ⟨T, 2, none⟩ = some (.int .u64 al) := cl_of ht 2
        have cT3 : W5.cell? ⟨T, 3, none⟩ = some (.int .u64 ah) := cl_of ht 3
        have cT4 : W5.cell? ⟨T, 4, none⟩ = some (.int .i64 ai) := cl_of ht 4
        have cT5 : W5.cell? ⟨T, 5, none⟩ = some (.int .i64 aj) := cl_of ht 5
        have cT6 : W5.cell? ⟨T, 6, none⟩ = some (.int .u64 bv) := cl_of ht 6
        have cT7 : W5.cell? ⟨T, 7, none⟩ = some (.int .u64 bm) := cl_of ht 7
        have cT8 : W5.cell? ⟨T, 8, none⟩ = some (.int .u64 bl) := cl_of ht 8
        have cT9 : W5.cell? ⟨T, 9, none⟩ = some (.int .u64 bh) := cl_of ht 9
        have cT10 : W5.cell? ⟨T, 10, none⟩ = some (.int .i64 bi) := cl_of ht 10
        have cT11 : W5.cell? ⟨T, 11, none⟩ = some (.int .i64 bj) := cl_of ht 11
        have zT := lt_of ht
        have HI := Lib.hid hI
        have HKD := Lib.hid hK
        have HD := Lib.hid hD
        clear hI hK hx0 hy0 hx1 hy1 ht hr5 hq5 hk5 hD
        obtain ⟨n1, n2, n3, n4, n5, n6⟩ := HN.out
        have m1 : R ≠ Qb := by omega
        have m2 : Qb ≠ R := by omega
        have m3 : R ≠ Kb := by omega
        have m4 : Kb ≠ R := by omega
        have m5 : Qb ≠ Kb := by omega
        have m6 : Kb ≠ Qb := by omega
        have m7 : R ≠ T := by omega
        have m8 : Qb ≠ T := by omega
        have m9 : Kb ≠ T := by omega
        go_wp2_with fail
        go_region
        all_goals (go_wp2_with fail)
        all_goals (
          have hfin := ret13 (r0 := .int .u64 av) (r1 := .int .u64 am) (r2 := .int .u64 al) (r3 := .int .u64 ah) (r4 := .int .i64 ai) (r5 := .int .i64 aj) (q0 := .int .u64 bv) (q1 := .int .u64 bm) (q2 := .int .u64 bl) (q3 := .int .u64 bh) (q4 := .int .i64 bi) (q5 := .int .i64 bj) (k0 := .bool true) HI.out.r HI.out.q HI.out.k m1 m3 m5
          have hDn : D ≠ R ∧ D ≠ Qb ∧ D ≠ Kb := by have := HD.out; omega
          refine leaves_marks [D] _ (by simp) (fun E hE => ?_) (fun W' hb' => ?_)
          · simp only [List.mem_singleton] at hE; subst hE; exact dr_keep (hfin.2.2.2.heap HKD.out (by simp [hDn]))
          · have hR' := hb'.heap (dr_keep hfin.1) (by simp [Ne.symm hDn.1])
            have hQ' := hb'.heap (dr_keep hfin.2.1) (by simp [Ne.symm hDn.2.1])
            have hK' := hb'.heap (dr_keep hfin.2.2.1) (by simp [Ne.symm hDn.2.2])
            have HFB := Lib.hid hfin.2.2.2
            clear hfin cR0 cR1 cR2 cR3 cR4 cR5 cQ0 cQ1 cQ2 cQ3 cQ4 cQ5 cK0 cT0 cT1 cT2 cT3 cT4 cT5 cT6 cT7 cT8 cT9 cT10 cT11
            obtain ⟨gR0, gR1, gR2, gR3, gR4, gR5⟩ := c6_of hR'
            obtain ⟨gQ0, gQ1, gQ2, gQ3, gQ4, gQ5⟩ := c6_of hQ'
            have gK0 : W'.cell? ⟨Kb, 0, none⟩ = some (.bool true) := cl_of hK' 0
            refine ⟨.tuple #[.agg #[.int .u64 av, .int .u64 am, .int .u64 al, .int .u64 ah, .int .i64 ai, .int .i64 aj], .agg #[.int .u64 bv, .int .u64 bm, .int .u64 bl, .int .u64 bh, .int .i64 bi, .int .i64 bj], .bool true], by simp [results, Try.results12, go_sem, gR0, gR1, gR2, gR3, gR4, gR5, gQ0, gQ1, gQ2, gQ3, gQ4, gQ5, gK0], ?_⟩
            have hbb : But [] w W' := by
              have h1 : But [] w wS := HB.out.trans HBS.out (by simp)
              have h2 : But [] w W5 := h1.trans HI.out.but (fun x hx => .inr (by simp at hx; omega))
              have h3 := h2.trans HFB.out (fun x hx => .inr (by simp at hx; omega))
              have hDs := HD.out
              have hws := h1.size
              exact h3.drew.trans hb' (fun x hx => .inr (by simp at hx; omega))
            exact ⟨by rw [HE.out, HH.out]; rfl, hbb⟩)
      case stop =>
        rintro D c pre W5 hD _ hX hK
        obtain rfl := hX.c
        have hr5 := hX.r
        have hq5 := hX.q
        have hk5 := hX.k
        have HXX := Lib.hid hX
        have HKD := Lib.hid hK
        have HD := Lib.hid hD
        clear hX hK hD
        gi_wp2
        obtain ⟨n1, n2, n3, n4, n5, n6⟩ := HN.out
        have hDs := HD.out
        have h1 : But [] w wS := HB.out.trans HBS.out (by simp)
        have hws := h1.size
        refine leaves_marks [D] _ (by simp) (fun E hE => by simp only [List.mem_singleton] at hE; subst hE; exact HKD.out) (fun W' hb' => ?_)
        have hR' := hb'.heap hr5 (by simp; omega)
        have hQ' := hb'.heap hq5 (by simp; omega)
        have hK' := hb'.heap hk5 (by simp; omega)
        obtain ⟨gR0, gR1, gR2, gR3, gR4, gR5⟩ := c6_of hR'
        obtain ⟨gQ0, gQ1, gQ2, gQ3, gQ4, gQ5⟩ := c6_of hQ'
        have gK0 : W'.cell? ⟨Kb, 0, none⟩ = some (.bool false) := cl_of hK' 0
        refine ⟨.tuple #[.agg #[.int .u64 0, .int .u64 0, .int .u64 0, .int .u64 0, .int .i64 0, .int .i64 0], .agg #[.int .u64 0, .int .u64 0, .int .u64 0, .int .u64 0, .int .i64 0, .int .i64 0], .bool false], by simp [results, Try.results12, go_sem, gR0, gR1, gR2, gR3, gR4, gR5, gQ0, gQ1, gQ2, gQ3, gQ4, gQ5, gK0], ?_⟩
        have hbb : But [] w W' := by
          have h2 : But [] w W5 := h1.trans HXX.out.but (fun x hx => .inr (by simp at hx; omega))
          exact h2.trans hb' (fun x hx => .inr (by simp at hx; omega))
        exact ⟨by rw [HE.out, HXX.out.no]; rfl, hbb⟩
theorem branch_c (op : Nat) (wide taken : Bool) (a b : Sc) (w : World) (hop : op < 256) (hr : Rg a) (hx : Rg b) : Calls Try.prog 12 #[.int .u8 op, .bool wide, a.val, b.val, .bool taken] w (BrPost (branchT op wide a b taken) w) := by
  obtain ⟨⟨v, m⟩, ⟨lo, hi, sl, sh⟩⟩ := a
  obtain ⟨⟨xv, xm⟩, ⟨xlo, xhi, xsl, xsh⟩⟩ := b
  cases h0 : rightB ⟨⟨v, m⟩, ⟨lo, hi, sl, sh⟩⟩ with
  | false => exact br0 op wide taken v m lo hi xv xm xlo xhi sl sh xsl xsh w hop hr hx h0
  | true =>
    cases h1 : rightB ⟨⟨xv, xm⟩, ⟨xlo, xhi, xsl, xsh⟩⟩ with
    | false => exact br1 op wide taken v m lo hi xv xm xlo xhi sl sh xsl xsh w hop hr hx h0 h1
    | true =>
      by_cases h : opp op = 0
      · exact br2 op wide taken v m lo hi xv xm xlo xhi sl sh xsl xsh w hop hr hx h0 h1 h
      · cases hw : wide with
        | true => exact br4 op true taken v m lo hi xv xm xlo xhi sl sh xsl xsh w hop hr hx h0 h1 h (.inl rfl)
        | false =>
          by_cases hm : 2147483648 ≤ max hi xhi
          · exact br3 op false taken v m lo hi xv xm xlo xhi sl sh xsl xsh w hop hr hx h0 h1 h rfl hm
          · exact br4 op false taken v m lo hi xv xm xlo xhi sl sh xsl xsh w hop hr hx h0 h1 h (.inr (by omega))
end Go.Proofs.Ytmbmmcippglfoaa.M
