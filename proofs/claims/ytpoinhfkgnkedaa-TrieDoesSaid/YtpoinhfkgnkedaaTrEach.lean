/-
  trie.node.each, all: a recursive iterator over the entries.
-/
import Derived.Test.YtpoinhfkgnkedaaTrBeg
namespace Go.Proofs.Ytpoinhfkgnkedaa.M
open Go.RowKit Go.Shelf
set_option linter.unusedVariables false
set_option linter.unusedSectionVars false
set_option linter.unusedSimpArgs false
attribute [local go_sem] Oper.semAt_some
theorem round_any {m m' : Nat} {P : Program} {l : Nat} {f : FuncId} {tmps : Array Value} {assign body : Code} {w : World} {R : Ending → World → Prop}
    (h : RoundIn Fence.wide m P l f tmps assign body w R) : RoundIn Fence.wide m' P l f tmps assign body w R := ⟨h.1, fun c cs _ => h.2 c cs (by simp [Fence.room, Fence.wide])⟩
theorem yield_any {m : Nat} (m' : Nat) {P : Program} {l : Nat} {args : Array Value} {W : World} {R : Ending → World → Prop} (h : YieldAt Fence.wide m P l args W R) : YieldAt Fence.wide m' P l args W R := by
  obtain ⟨fn, tmps, assign, body, hy, hR⟩ := h
  exact ⟨fn, tmps, assign, body, hy, round_any hR⟩
/-- The paths that have entries, from one down, as each goes. -/
def dfs (nd xs : Path → Option Nat) : Nat → Path → List Nat
  | 0, _ => []
  | f + 1, π => match nd π with
    | none => []
    | some _ => (xs π).toList ++ (dfs nd xs f (π ++ [0]) ++ dfs nd xs f (π ++ [1]))
def EntAt (W : World) (kb pl : Nat → Nat) (K e : Nat) : Prop := W.heap[e]? = some (.cells #[.slice (some ⟨kb e, 0, none⟩) K K, .int .i64 (pl e : Nat)] 70)
def encE (kb pl : Nat → Nat) (K e : Nat) : Array Value := #[.agg #[.slice (some ⟨kb e, 0, none⟩) K K, .int .i64 (pl e : Nat)]]
def EntsAt (W : World) (xs : Path → Option Nat) (kb pl : Nat → Nat) (K : Nat) : Prop := ∀ π e, xs π = some e → EntAt W kb pl K e
theorem EntsAt.keepIn {V W : World} {xs : Path → Option Nat} {kb pl : Nat → Nat} {K : Nat} {ok : Nat → Prop} (h : EntsAt V xs kb pl K) (hk : KeepIn ok V W) (hok : ∀ π e, xs π = some e → ok e) : EntsAt W xs kb pl K := fun π e he => hk.heap (hok π e he) (h π e he)
theorem each_none (l n : Nat) (W : World) : CallsIn Fence.wide n Try.prog 56 #[.pointer none, .func (.yield l) #[] #[]] W fun e W' => e = .returned (.bool true) ∧ W = W' := by
  refine callsIn_of_wp Try.func56 rfl trivial ?_ rfl
  simp only [Try.ntmps56, List.size_toArray, List.length_cons, List.length_nil, Nat.reduceAdd, Nat.reduceSub, Array.replicate_succ, Array.replicate_zero, List.push_toArray, List.append_toArray, List.nil_append, List.cons_append]
  gi_wp2
  go_ret
  exact ⟨rfl, rfl⟩
section
variable (l : Nat) (ok : Nat → Prop) (nd xs : Path → Option Nat) (kb pl : Nat → Nat) (K M : Nat) (J Jx : List Nat → World → Prop)
def EachPost (L pre : List Nat) (W : World) (e : Ending) (W' : World) : Prop := (e = .returned (.bool true) ∧ J (pre ++ L) W' ∧ KeepIn ok W W') ∨ (e = .returned (.bool false) ∧ ∃ q, q <+: L ∧ Jx (pre ++ q) W')
set_option maxRecDepth 100000 in
set_option maxHeartbeats 4000000 in
theorem each_in (hY : ∀ m pre x W, J pre W → (∃ π, xs π = some x) → pre.length < M → YieldAt Fence.wide m Try.prog l (encE kb pl K x) W fun e W' =>
      (e = .returned (.bool true) ∧ J (pre ++ [x]) W' ∧ KeepIn ok W W') ∨ (e = .returned (.bool false) ∧ Jx (pre ++ [x]) W'))
    (hon : ∀ π b, nd π = some b → ok b) (hoe : ∀ π e, xs π = some e → ok e) :
    ∀ (f n : Nat) (π : Path) (pre : List Nat) (W : World), (∀ σ b, nd (π ++ σ) = some b → σ.length < f) → Tree W nd xs → EntsAt W xs kb pl K → J pre W → pre.length + (dfs nd xs f π).length ≤ M →
      CallsIn Fence.wide n Try.prog 56 #[pv (nd π), .func (.yield l) #[] #[]] W (EachPost ok J Jx (dfs nd xs f π) pre W) := by
  intro f
  induction f with
  | zero =>
    intro n π pre W hf hT hE hJ hM
    have hn : nd π = none := by
      cases h : nd π with
      | none => rfl
      | some b => have := hf [] b (by simpa using h); simp at this
    rw [hn]
    refine (each_none l n W).mono ?_
    rintro e W' ⟨rfl, rfl⟩
    exact .inl ⟨rfl, by simpa [dfs] using hJ, KeepIn.refl _ _⟩
  | succ f ih =>
    intro n π pre W hf hT hE hJ hM
    cases hn : nd π with
    | none =>
      refine (each_none l n W).mono ?_
      rintro e W' ⟨rfl, rfl⟩
      exact .inl ⟨rfl, by simpa [dfs, hn] using hJ, KeepIn.refl _ _⟩
    | some b =>
      have hd : dfs nd xs (f + 1) π = (xs π).toList ++ (dfs nd xs f (π ++ [0]) ++ dfs nd xs f (π ++ [1])) := by simp only [dfs, hn]
      rw [hd] at hM ⊢
      simp only [List.length_append] at hM
      have hf0 : ∀ σ c, nd (π ++ [0] ++ σ) = some c → σ.length < f := fun σ c hc => by
        have := hf (0 :: σ) c (by simpa using hc)
        simp at this; omega
      have hf1 : ∀ σ c, nd (π ++ [1] ++ σ) = some c → σ.length < f := fun σ c hc => by
        have := hf (1 :: σ) c (by simpa using hc)
        simp at this; omega
      have hcell := hT.cell π b hn
      have hob := hon π b hn
      have c2 : W.cell? ⟨b, 2, none⟩ = some (pv (xs π)) := cl_of hcell 2
      -- the second half
      have H1 : Hid (∀ m pre1 W1, KeepIn ok W W1 → J pre1 W1 → pre1.length + (dfs nd xs f (π ++ [1])).length ≤ M → CallsIn Fence.wide m Try.prog 56 #[pv (nd (π ++ [1])), .func (.yield l) #[] #[]] W1 (EachPost ok J Jx (dfs nd xs f (π ++ [1])) pre1 W1)) := Lib.hid fun m pre1 W1 hk hj hl => ih m (π ++ [1]) pre1 W1 hf1 (hT.keepIn hk hon) (hE.keepIn hk hoe) hj hl
      have H0 : Hid (∀ m pre1 W1, KeepIn ok W W1 → J pre1 W1 → pre1.length + (dfs nd xs f (π ++ [0])).length ≤ M → CallsIn Fence.wide m Try.prog 56 #[pv (nd (π ++ [0])), .func (.yield l) #[] #[]] W1 (EachPost ok J Jx (dfs nd xs f (π ++ [0])) pre1 W1)) := Lib.hid fun m pre1 W1 hk hj hl => ih m (π ++ [0]) pre1 W1 hf0 (hT.keepIn hk hon) (hE.keepIn hk hoe) hj hl
      have HC : Hid (∀ W1, KeepIn ok W W1 → W1.cell? ⟨b, 0, none⟩ = some (pv (nd (π ++ [0]))) ∧ W1.cell? ⟨b, 1, none⟩ = some (pv (nd (π ++ [1])))) := Lib.hid fun W1 hk => ⟨cl_of (hk.heap hob hcell) 0, cl_of (hk.heap hob hcell) 1⟩
      have HJ := Lib.hid hJ
      have HEE := Lib.hid hE
      have HY := Lib.hid hY
      obtain ⟨D0, hD0⟩ : ∃ D, D = dfs nd xs f (π ++ [0]) := ⟨_, rfl⟩
      obtain ⟨D1, hD1⟩ : ∃ D, D = dfs nd xs f (π ++ [1]) := ⟨_, rfl⟩
      rw [← hD0] at H0 hM ⊢
      rw [← hD1] at H1 hM ⊢
      obtain ⟨p0, hp0⟩ : ∃ p, p = pv (nd (π ++ [0])) := ⟨_, rfl⟩
      obtain ⟨p1, hp1⟩ : ∃ p, p = pv (nd (π ++ [1])) := ⟨_, rfl⟩
      rw [← hp0] at H0 HC
      rw [← hp1] at H1 HC
      cases hx : xs π with
      | none =>
        rw [hx] at c2
        unfold pv at c2 ⊢
        simp only [Option.map_none, Option.map_some] at c2 ⊢
        obtain ⟨d0, d1⟩ := HC.out W (KeepIn.refl _ _)
        have HM : Hid (pre.length + (D0.length + D1.length) ≤ M) := Lib.hid (by rw [hx] at hM; simpa using hM)
        clear hf hT hE hJ hM hd hf0 hf1 hcell hob hn ih hY hx hD0 hD1 hp0 hp1
        have h0 : pre.length + D0.length ≤ M := by have := HM.out; omega
        have H0' := Lib.hid (H0.out (n - 1) pre W (KeepIn.refl _ _) HJ.out h0)
        clear h0
        refine callsIn_of_wp Try.func56 rfl trivial ?_ rfl
        simp only [Try.ntmps56, List.size_toArray, List.length_cons, List.length_nil, Nat.reduceAdd, Nat.reduceSub, Array.replicate_succ, Array.replicate_zero, List.push_toArray, List.append_toArray, List.nil_append, List.cons_append]
        gi_wp2
        refine ⟨fun _ h => (by cases h), ?_⟩
        gi_wp2
        refine ⟨trivial, fun h => (by simp [Fence.wide] at h), ?_⟩
        refine H0'.out.mono ?_
        rintro e W1 (⟨rfl, hj1, hk1⟩ | ⟨rfl, q, hq, hx1⟩)
        all_goals dsimp only
        · obtain ⟨-, d1'⟩ := HC.out W1 hk1
          have h1 : (pre ++ D0).length + D1.length ≤ M := by have := HM.out; simp only [List.length_append, List.length_singleton]; omega
          have H1' := Lib.hid (H1.out (n - 1) (pre ++ D0) W1 hk1 hj1 h1)
          have HKW := Lib.hid hk1
          clear h1 hj1 hk1 d0 d1
          gi_wp2
          refine ⟨trivial, fun h => (by simp [Fence.wide] at h), ?_⟩
          refine H1'.out.mono ?_
          rintro e W2 (⟨rfl, hj2, hk2⟩ | ⟨rfl, q, hq, hx2⟩)
          all_goals dsimp only
          · have HE2 := Lib.hid hj2
            have HK2 := Lib.hid hk2
            clear hj2 hk2 d1'
            gi_wp2
            go_ret
            exact .inl ⟨rfl, by simpa [List.append_assoc] using HE2.out, HKW.out.trans HK2.out⟩
          · have HX2 := Lib.hid hx2
            have HQ := Lib.hid hq
            clear hx2 hq d1'
            gi_wp2
            go_ret
            exact .inr ⟨rfl,  (D0 ++ q), by simpa using (List.prefix_append_right_inj D0).2 HQ.out, by simpa [List.append_assoc] using HX2.out⟩
        · have HX1 := Lib.hid hx1
          have HQ := Lib.hid hq
          clear hx1 hq d0 d1
          gi_wp2
          repeat (refine ⟨trivial, ?_⟩; gi_wp2)
          go_ret
          exact .inr ⟨rfl,  q, by simpa using HQ.out.trans (List.prefix_append _ _), by simpa [List.append_assoc] using HX1.out⟩
      | some e =>
        rw [hx] at c2
        unfold pv at c2 ⊢
        simp only [Option.map_some] at c2 ⊢
        have hent := hE π e hx
        unfold EntAt at hent
        have e0 : W.cell? ⟨e, 0, none⟩ = some (.slice (some ⟨kb e, 0, none⟩) K K) := cl_of hent 0
        have e1 : W.cell? ⟨e, 1, none⟩ = some (.int .i64 (pl e : Nat)) := cl_of hent 1
        have HM : Hid (pre.length + (1 + (D0.length + D1.length)) ≤ M) := Lib.hid (by rw [hx] at hM; simpa using hM)
        have HYE := Lib.hid (hY (n - 1) pre e W hJ ⟨π, hx⟩ (by have := HM.out; omega))
        clear hf hT hE hJ hM hd hf0 hf1 hcell hob hn ih hY hx hD0 hD1 hp0 hp1 hent
        obtain ⟨fn, tmps, assign, body, hy, hR⟩ := HYE.out
        have HRR := Lib.hid hR
        clear hR HYE
        unfold encE at hy
        refine callsIn_of_wp Try.func56 rfl trivial ?_ rfl
        simp only [Try.ntmps56, List.size_toArray, List.length_cons, List.length_nil, Nat.reduceAdd, Nat.reduceSub, Array.replicate_succ, Array.replicate_zero, List.push_toArray, List.append_toArray, List.nil_append, List.cons_append]
        gi_wp2
        refine ⟨fun h => (by simp [Fence.wide] at h), ?_⟩
        refine HRR.out.mono ?_
        rintro e2 Wy (⟨rfl, hjy, hky⟩ | ⟨rfl, hxy⟩)
        all_goals dsimp only
        · obtain ⟨d0', -⟩ := HC.out Wy hky
          have h0 : (pre ++ [e]).length + D0.length ≤ M := by have := HM.out; simp only [List.length_append, List.length_singleton]; omega
          have H0' := Lib.hid (H0.out (n - 1) (pre ++ [e]) Wy hky hjy h0)
          have HKY := Lib.hid hky
          clear h0 hjy hky e0 e1 c2 hy HRR
          gi_wp2
          refine ⟨trivial, fun h => (by simp [Fence.wide] at h), ?_⟩
          refine H0'.out.mono ?_
          rintro e W1 (⟨rfl, hj1, hk1⟩ | ⟨rfl, q, hq, hx1⟩)
          all_goals dsimp only
          · obtain ⟨-, d1'⟩ := HC.out W1 (HKY.out.trans hk1)
            have h1 : (pre ++ [e] ++ D0).length + D1.length ≤ M := by have := HM.out; simp only [List.length_append, List.length_singleton]; omega
            have H1' := Lib.hid (H1.out (n - 1) (pre ++ [e] ++ D0) W1 (HKY.out.trans hk1) hj1 h1)
            have HKW := Lib.hid (HKY.out.trans hk1)
            clear h1 hj1 hk1 d0'
            gi_wp2
            refine ⟨trivial, fun h => (by simp [Fence.wide] at h), ?_⟩
            refine H1'.out.mono ?_
            rintro e W2 (⟨rfl, hj2, hk2⟩ | ⟨rfl, q, hq, hx2⟩)
            all_goals dsimp only
            · have HE2 := Lib.hid hj2
              have HK2 := Lib.hid hk2
              clear hj2 hk2 d1'
              gi_wp2
              go_ret
              exact .inl ⟨rfl, by simpa [List.append_assoc] using HE2.out, HKW.out.trans HK2.out⟩
            · have HX2 := Lib.hid hx2
              have HQ := Lib.hid hq
              clear hx2 hq d1'
              gi_wp2
              go_ret
              exact .inr ⟨rfl, e :: (D0 ++ q), by simpa using (List.prefix_append_right_inj D0).2 HQ.out, by simpa [List.append_assoc] using HX2.out⟩
          · have HX1 := Lib.hid hx1
            have HQ := Lib.hid hq
            clear hx1 hq d0'
            gi_wp2
            repeat (refine ⟨trivial, ?_⟩; gi_wp2)
            go_ret
            exact .inr ⟨rfl, e :: q, by simpa using HQ.out.trans (List.prefix_append _ _), by simpa [List.append_assoc] using HX1.out⟩
        · have HXY := Lib.hid hxy
          clear hxy hy HRR e0 e1 c2
          gi_wp2
          repeat (refine ⟨trivial, ?_⟩; gi_wp2)
          go_ret
          exact .inr ⟨rfl, [e], by simp, HXY.out⟩
end
theorem alls_c (v : Option Addr) (w : World) : Calls Try.prog 39 #[.pointer v] w fun e w' => e = .returned (.func (.func 55) #[] #[.pointer (some ⟨w.heap.size, 0, none⟩)]) ∧ w' = w.alloc (.cells #[.pointer v] 57) := by
  have hmf : ∀ (fn : Fn) (first cap : Array Value) (w : World), (Instr.makeFunc fn first cap).run Try.prog w = .ok (.func fn first cap) w := fun _ _ _ _ => rfl
  go_enter Try.func39, Try.ntmps39
  go_wp2_with fail
  go_ret
  exact ⟨rfl, rfl⟩
def AnyE (xs : Path → Option Nat) (e : Nat) (W : World) : Prop := ∃ π, xs π = some e
theorem anyE_abides (xs : Path → Option Nat) (B : Nat) : Abides B (AnyE xs) := ⟨fun _ _ _ h _ => h, fun _ _ _ _ _ h _ _ _ => h⟩
set_option maxRecDepth 100000 in
/-- The iterator's contract. -/
theorem alls_seq (n q : Nat) (ok : Nat → Prop) (nd xs : Path → Option Nat) (kb pl : Nat → Nat) (K f : Nat) (w : World) (hq : w.heap[q]? = some (.cells #[pv (nd [])] 57)) (hT : Tree w nd xs) (hE : EntsAt w xs kb pl K) (hf : ∀ σ b, nd σ = some b → σ.length < f)
    (hon : ∀ π b, nd π = some b → ok b) (hoe : ∀ π e, xs π = some e → ok e) :
    SeqB Fence.wide n Try.prog 55 #[.pointer (some ⟨q, 0, none⟩)] (encE kb pl K) (AnyE xs) (KeepIn ok) (fun ys => ys = dfs nd xs f []) (fun pre => pre <+: dfs nd xs f []) NoT (dfs nd xs f []).length w := fun l J Jx W hW hJ hJx hY h0 => by
  have hp := each_in l ok nd xs kb pl K (dfs nd xs f []).length J Jx (fun m pre x W1 hj hx hl => yield_any m (hY pre x W1 hj hx hl)) hon hoe f (n - 1) [] [] W (fun σ b hb => hf σ b (by simpa using hb)) (hT.but hW (by simp)) (fun π e he => hW.heap (hE π e he) (by simp)) h0 (by simp)
  have c0 : W.cell? ⟨q, 0, none⟩ = some (pv (nd [])) := cl_of (hW.heap hq (by simp)) 0
  have HP := Lib.hid hp
  clear hp hq hT hE hf hon hoe hW hJ hJx hY h0
  generalize pv (nd []) = v at *
  refine callsIn_of_wp Try.func55 rfl trivial ?_ rfl
  simp only [Try.ntmps55, List.size_toArray, List.length_cons, List.length_nil, Nat.reduceAdd, Nat.reduceSub, Array.replicate_succ, Array.replicate_zero, List.push_toArray, List.append_toArray, List.nil_append, List.cons_append]
  gi_wp2
  refine ⟨trivial, fun h => (by simp [Fence.wide] at h), ?_⟩
  refine HP.out.mono ?_
  rintro e W1 (⟨rfl, hJ1, _⟩ | ⟨rfl, q, hq, hx⟩)
  all_goals dsimp only
  · have H1 := Lib.hid hJ1
    clear hJ1
    gi_wp2
    refine bodyPost_ret (results_none rfl _ _ _) rfl ?_
    exact .inl ⟨⟨_, rfl⟩, .inl ⟨_, rfl, by simpa using H1.out⟩⟩
  · have H1 := Lib.hid hx
    have HQ := Lib.hid hq
    clear hx hq
    gi_wp2
    refine bodyPost_ret (results_none rfl _ _ _) rfl ?_
    exact .inl ⟨⟨_, rfl⟩, .inr ⟨_, HQ.out, by simpa using H1.out⟩⟩
end Go.Proofs.Ytpoinhfkgnkedaa.M
