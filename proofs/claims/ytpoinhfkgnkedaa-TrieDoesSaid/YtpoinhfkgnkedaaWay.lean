/-
  trie.node.way: all nodes down a path, as an iterator.
-/
import Derived.Test.YtpoinhfkgnkedaaGA
import Derived.Test.YtpoinhfkgnkedaaGB
namespace Go.Proofs.Ytpoinhfkgnkedaa.M
open Go.RowKit Go.Shelf
set_option linter.unusedVariables false
set_option linter.unusedSectionVars false
set_option linter.unusedSimpArgs false
attribute [local go_sem] Oper.semAt_some
theorem round_round {l2 n n' : Nat} {P : Program} {l : Nat} {fn : FuncId} {tmps : Array Value} {assign body : Code} {w : World} {R : Ending → World → Prop} (h : RoundIn Fence.wide n P l fn tmps assign body w R) : RoundIn (Fence.wide.inRound l2) n' P l fn tmps assign body w R :=
  show RoundIn Fence.wide n' P l fn tmps assign body w R from ⟨h.1, fun c cs _ => h.2 c cs (by simp [Fence.room, Fence.wide])⟩
def upto (π : Path) : List Path := (List.range (π.length + 1)).map (π.take ·)
theorem upto_len (π : Path) : (upto π).length = π.length + 1 := by simp [upto]
theorem upto_snoc (π : Path) (x : Int) : upto (π ++ [x]) = upto π ++ [π ++ [x]] := by
  unfold upto
  rw [List.length_append, List.length_singleton, List.range_succ (n := π.length + 1), List.map_append]
  congr 1
  · refine List.map_congr_left (fun i hi => ?_)
    rw [List.mem_range] at hi
    rw [List.take_append_of_le_length (by omega)]
  · simp [List.take_of_length_le]
theorem upto_nil : upto [] = [[]] := by simp [upto]
def encN (nd : Path → Option Nat) (ρ : Path) : Array Value := #[pv (nd ρ)]
def AnyN (nd : Path → Option Nat) (ρ : Path) (w : World) : Prop := ∃ b, nd ρ = some b
/-- All nodes down a path have come. -/
def DownS (nd : Path → Option Nat) (π : Path) (ρs : List Path) : Prop := (ρs = upto π ∧ ∃ b, nd π = some b) ∨ ∃ ρ x, ρs = upto ρ ∧ ρ ++ [x] <+: π ∧ nd (ρ ++ [x]) = none ∧ ∃ b, nd ρ = some b
/-- What stands between two rounds of the inner loop. -/
structure WyI (nd xs : Path → Option Nat) (qn q3 l : Nat) (J : List Path → World → Prop) (pre : Path) (W : World) : Prop where
  here : ∃ b, nd pre = some b ∧ W.heap[qn]? = some (.cells #[pv (some b)] 57)
  yb : W.heap[q3]? = some (.cells #[.func (.yield l) #[] #[]] 110)
  j : J (upto pre) W
  tree : Tree W nd xs
structure WyX (nd : Path → Option Nat) (J Jx : List Path → World → Prop) (c : Code) (pre : Path) (W : World) : Prop where
  c : c = .ret
  or' : (∃ ρ x, pre = ρ ++ [x] ∧ nd pre = none ∧ (∃ b, nd ρ = some b) ∧ J (upto ρ) W) ∨ Jx (upto pre) W
theorem Tree.far {w w' : World} {nd xs : Path → Option Nat} {L : List Nat} {B : Nat} (h : Tree w nd xs) (hb : But L w w') (hL : ∀ x ∈ L, B ≤ x ∧ ∃ o, w.heap[x]? = some o ∧ o.isCells = false) : Tree w' nd xs :=
  h.but hb (fun π b hp hm => by
    obtain ⟨_, o, ho, hc⟩ := hL b hm
    have := h.cell π b hp
    unfold NodeAt at this
    rw [ho] at this
    cases this
    cases hc)
theorem abides_both {β γ : Type} {B : Nat} {I : β → World → Prop} {K : γ → World → Prop} (f : γ → β) (h : Abides B I) {G : γ → World → Prop} (hG : Abides B G) (hK : ∀ s V, K s V ↔ (I (f s) V ∧ G s V)) : Abides B K :=
  ⟨fun s V W hs hb => (hK s W).2 ⟨h.new _ _ _ ((hK s V).1 hs).1 hb, hG.new _ _ _ ((hK s V).1 hs).2 hb⟩, fun s V r o o' hs hr ho hc => (hK s _).2 ⟨h.put _ _ _ _ _ ((hK s V).1 hs).1 hr ho hc, hG.put _ _ _ _ _ ((hK s V).1 hs).2 hr ho hc⟩⟩
theorem WyI.abides {nd xs : Path → Option Nat} {qn q3 l B C : Nat} {J : List Path → World → Prop} (hJ : Abides B J) (hBC : B ≤ C) : Abides C (WyI nd xs qn q3 l J) :=
  abides_both (I := J) (G := fun pre W => (∃ b, nd pre = some b ∧ W.heap[qn]? = some (.cells #[pv (some b)] 57)) ∧ W.heap[q3]? = some (.cells #[.func (.yield l) #[] #[]] 110) ∧ Tree W nd xs) upto (hJ.mono hBC)
    (Abides.of_but fun pre V W L ⟨⟨b, h1, h2⟩, h3, h4⟩ hb hL => ⟨⟨b, h1, heap_far h2 hb hL⟩, heap_far h3 hb hL, h4.far hb hL⟩)
    (fun s V => ⟨fun h => ⟨h.j, h.here, h.yb, h.tree⟩, fun h => ⟨h.2.1, h.2.2.1, h.1, h.2.2.2⟩⟩)
theorem WyX.abides {nd : Path → Option Nat} {B C : Nat} {J Jx : List Path → World → Prop} (hJ : Abides B J) (hJx : Abides B Jx) (hBC : B ≤ C) (c : Code) : Abides C (WyX nd J Jx c) :=
  ⟨fun s V W h hb => ⟨h.c, h.or'.imp (fun ⟨ρ, x, h1, h2, h3, h4⟩ => ⟨ρ, x, h1, h2, h3, hJ.new _ _ _ h4 hb⟩) (fun h => hJx.new _ _ _ h hb)⟩,
   fun s V r o o' h hr ho hc => ⟨h.c, h.or'.imp (fun ⟨ρ, x, h1, h2, h3, h4⟩ => ⟨ρ, x, h1, h2, h3, hJ.put _ _ _ _ _ h4 (Nat.le_trans hBC hr) ho hc⟩) (fun h => hJx.put _ _ _ _ _ h (Nat.le_trans hBC hr) ho hc)⟩⟩
theorem cell_set {V : World} {q : Nat} {c : Value} {t : TypeId} (h : V.heap[q]? = some (.cells #[c] t)) (v : Value) : (V.setCell ⟨q, 0, none⟩ v).cell? ⟨q, 0, none⟩ = some v := by
  refine cl_of (cs := #[v]) (t := t) ?_ 0
  simp [World.setCell, Array.getElem?_modify, h]
theorem Tree.keepIn {V W : World} {nd xs : Path → Option Nat} {ok : Nat → Prop} (h : Tree V nd xs) (hk : KeepIn ok V W) (hok : ∀ π b, nd π = some b → ok b) : Tree W nd xs :=
  ⟨h.root, h.closed, h.inj, fun π b hp => by
    have h1 := hk.same b (hok π b hp) (h.lt hp)
    unfold NodeAt
    rw [h1]
    exact h.cell π b hp, h.ent⟩
theorem KeepIn.heap {ok : Nat → Prop} {V W : World} (h : KeepIn ok V W) {b : Nat} {o : Obj} (hb : ok b) (ho : V.heap[b]? = some o) : W.heap[b]? = some o := (h.same b hb (lt_of ho)).trans ho
theorem way_c (b0 P : Nat) (w : World) : Calls Try.prog 47 #[.pointer (some ⟨b0, 0, none⟩), .func (.func 54) #[] #[.pointer (some ⟨P, 0, none⟩)]] w fun e w' => e = .returned (.func (.func 62) #[] #[.pointer (some ⟨w.heap.size, 0, none⟩), .pointer (some ⟨w.heap.size + 1, 0, none⟩)]) ∧ w' = (w.alloc (.cells #[.pointer (some ⟨b0, 0, none⟩)] 57)).alloc (.cells #[.func (.func 54) #[] #[.pointer (some ⟨P, 0, none⟩)]] 72) := by
  have hmf : ∀ (fn : Fn) (first cap : Array Value) (w : World), (Instr.makeFunc fn first cap).run Try.prog w = .ok (.func fn first cap) w := fun _ _ _ _ => rfl
  go_enter Try.func47, Try.ntmps47
  go_wp2_with fail
  go_ret
  exact ⟨rfl, rfl⟩
set_option maxRecDepth 100000 in
set_option maxHeartbeats 4000000 in
theorem way1_in (n : Nat) (hn : 5 ≤ n) (l qn qb P : Nat) (ok : Nat → Prop) (ad : Addr) (cp : Nat) (ks : List Int) (nd xs : Path → Option Nat) (J Jx : List Path → World → Prop) (W : World)
    (hY : ∀ pre x W1, J pre W1 → AnyN nd x W1 → pre.length < (kbits ks).length + 1 → YieldAt Fence.wide (n - 1) Try.prog l (encN nd x) W1 fun e W' =>
      (e = .returned (.bool true) ∧ J (pre ++ [x]) W' ∧ KeepIn ok W1 W') ∨ (e = .returned (.bool false) ∧ Jx (pre ++ [x]) W' ∧ KeepIn ok W1 W'))
    (hJ : Abides W.heap.size J) (hJx : Abides W.heap.size Jx) (hJt : Bides (fun b => b = qn) J) (hJxt : Bides (fun b => b = qn) Jx)
    (hT : Tree W nd xs) (b0 : Nat) (hroot : nd [] = some b0)
    (hqn : W.heap[qn]? = some (.cells #[.pointer (some ⟨b0, 0, none⟩)] 57)) (hqb : W.heap[qb]? = some (.cells #[.func (.func 54) #[] #[.pointer (some ⟨P, 0, none⟩)]] 72))
    (hP : W.heap[P]? = some (.cells #[.slice (some ad) ks.length cp] 26)) (hs : Sees W (.slice (some ad) ks.length cp) (u8s ks)) (hk : KeyOk ks)
    (hok : ok qn ∧ ok qb ∧ ok P ∧ ok ad.block ∧ (∀ π b, nd π = some b → ok b) ∧ ∀ b, W.heap.size ≤ b → ok b)
    (hne : qn ≠ P ∧ qn ≠ ad.block ∧ ∀ π, nd π ≠ some qn) (h0 : J [] W) :
    CallsIn Fence.wide n Try.prog 62 #[.func (.yield l) #[] #[], .pointer (some ⟨qn, 0, none⟩), .pointer (some ⟨qb, 0, none⟩)] W (SeqPost (DownS nd (kbits ks)) (fun _ => True) NoT J Jx) := by
  have h1 : 1 ≤ n := by omega
  obtain ⟨V0, hV0⟩ : ∃ V0, V0 = W.alloc (.cells #[.func (.yield l) #[] #[]] 110) := ⟨_, rfl⟩
  have hb0 : But [] W V0 := by rw [hV0]; exact (But.refl [] W).alloc _
  have g3 : V0.heap[W.heap.size]? = some (.cells #[.func (.yield l) #[] #[]] 110) := by rw [hV0]; exact al_at _ _
  have cn : V0.cell? ⟨qn, 0, none⟩ = some (.pointer (some ⟨b0, 0, none⟩)) := cl_of (hb0.heap hqn (by simp)) 0
  have c3 : V0.cell? ⟨W.heap.size, 0, none⟩ = some (.func (.yield l) #[] #[]) := cl_of g3 0
  have hz0 : V0.heap.size = W.heap.size + 1 := by rw [hV0, size_alloc]
  have hy0 := hY [] [] V0 (hJ.new _ _ _ h0 hb0) ⟨b0, hroot⟩ (by simp)
  have HK0 := Lib.hid hb0
  have HG3 := Lib.hid g3
  have HV0 := Lib.hid hV0
  have HY := Lib.hid hY
  have HJ := Lib.hid hJ
  have HJX := Lib.hid hJx
  have HJT := Lib.hid hJt
  have HJXT := Lib.hid hJxt
  have HT := Lib.hid hT
  have HQN := Lib.hid hqn
  have HQB := Lib.hid hqb
  have HP := Lib.hid hP
  have HS := Lib.hid hs
  have HK := Lib.hid hk
  have HOK := Lib.hid hok
  have HNE := Lib.hid hne
  have HR := Lib.hid hroot
  obtain ⟨fn, tmps, assign, body, hy, hR⟩ := hy0
  have HRR := Lib.hid hR
  unfold encN at hy
  rw [hroot] at hy
  unfold pv at hy
  simp only [Option.map_some] at hy
  rw [hV0] at hy cn c3
  clear hY hJ hJx hJt hJxt hT hqn hqb hP hs hk hok hne h0 hb0 g3 hR hV0
  refine callsIn_of_wp_marks Try.func62 rfl trivial ?_ rfl
  simp only [Try.ntmps62, List.size_toArray, List.length_cons, List.length_nil, Nat.reduceAdd, Nat.reduceSub, Array.replicate_succ, Array.replicate_zero, List.push_toArray, List.append_toArray, List.nil_append, List.cons_append]
  gi_wp2
  rw [← HV0.out]
  refine HRR.out.mono ?_
  rintro e W1 (⟨rfl, hJ1, hk1⟩ | ⟨rfl, hJx1, _⟩)
  · have hsz1 := hk1.size
    have hqn1 := hk1.heap HOK.out.1 (HK0.out.heap HQN.out (by simp))
    have hqb1 := hk1.heap HOK.out.2.1 (HK0.out.heap HQB.out (by simp))
    have hP1 := hk1.heap HOK.out.2.2.1 (HK0.out.heap HP.out (by simp))
    have hg31 := hk1.heap (HOK.out.2.2.2.2.2 _ (Nat.le_refl _)) HG3.out
    have hT1 : Tree W1 nd xs := (HT.out.but HK0.out (by simp)).keepIn hk1 HOK.out.2.2.2.2.1
    have hS1 : Sees W1 (.slice (some ad) ks.length cp) (u8s ks) := by
      rcases HS.out.but HK0.out (by simp) with ⟨h, _⟩ | ⟨ad', c, h, hc, hx⟩
      · cases h
      · refine .inr ⟨ad', c, h, hc, fun j u hj => ?_⟩
        simp only [Value.slice.injEq, Option.some.injEq] at h
        refine hk1.cell (by rw [block_of_add, ← h.1]; exact HOK.out.2.2.2.1) (hx j u hj)
    have cqb : W1.cell? ⟨qb, 0, none⟩ = some (.func (.func 54) #[] #[.pointer (some ⟨P, 0, none⟩)]) := cl_of hqb1 0
    have hqnl : qn < W1.heap.size := lt_of hqn1
    have hPl : P < W1.heap.size := lt_of hP1
    have hadl := hS1.low (by rw [u8s_len]; have := HK.out.four; omega) ad.block rfl
    have hq3l : W.heap.size < W1.heap.size := lt_of hg31
    have HSQ := Lib.hid (bits_seq (n - 1) (by omega) P (fun b => b = P ∨ b = ad.block) ad cp ks W1 hP1 hS1 HK.out (.inl rfl) (.inr rfl))
    have HI0 : Hid (WyI nd xs qn W.heap.size l J [] W1) := Lib.hid ⟨⟨b0, HR.out, hqn1⟩, hg31, by rw [upto_nil]; exact hJ1, hT1⟩
    have hqnq : qn ≠ W.heap.size := by have := lt_of HQN.out; omega
    clear hJ1 hk1 hqn1 hqb1 hP1 hg31 hT1 hS1 cn c3 hy
    gi_wp2
    refine wpIn_rangeFunc_d rfl h1 (gf := 54) (lb := #[.pointer (some ⟨P, 0, none⟩)]) rfl trivial (enters_of Try.func54 (by kernel_rfl) rfl) HSQ.out
      (fun h k => h.trans k) (fun hz hb => KeepIn.of_but hb (by simp)) (fun V l o o' hl hV ho => KeepIn.of_but (but_putObj o' hV) (by simp only [List.mem_singleton]; rintro x rfl h; omega)) (any01_abides _) (But.refl _ _) (fun _ => rfl)
      (WyI nd xs qn W.heap.size l J) (WyX nd J Jx) (WyI.abides HJ.out (by omega)) (fun c => WyX.abides HJ.out HJX.out (by omega) c) HI0.out
      (fun x a' _ => a' = { tmps := #[.func (.yield l) #[] #[], .pointer (some ⟨qn, 0, none⟩), .pointer (some ⟨qb, 0, none⟩), .pointer (some ⟨W.heap.size, 0, none⟩), .int .i64 x, .func (.yield l) #[] #[], .pointer (some ⟨b0, 0, none⟩), .bool true, .bool false, .func (.func 54) #[] #[.pointer (some ⟨P, 0, none⟩)], .int .i64 x, undef, undef, undef, undef, undef, undef, undef, undef, undef, undef, undef, undef, undef, undef], defers := [] })
      (fun a' => ⟨fun _ _ _ h _ => h, fun _ _ _ _ _ h _ _ _ => h⟩) ?assign ?body ?done ?stop ?throw
    case assign =>
      intro l pre x W K _ _ _ hK
      simp only [encI]
      gi_wp2
      exact hK _ _ (But.refl _ _) rfl
    case body =>
      rintro l2 pre x a' V hx0 hI hx hlt1 hlt
      subst hx0
      obtain ⟨b, hb, hbox⟩ := hI.here
      have hc : V.cell? ⟨qn, 0, none⟩ = some (pv (some b)) := cl_of hbox 0
      have hf : V.frozen? ⟨qn, 0, none⟩ = false := fz_of hbox 0
      have hc3 : V.cell? ⟨W.heap.size, 0, none⟩ = some (.func (.yield l) #[] #[]) := cl_of hI.yb 0
      have hn2 := hI.tree.cell pre b hb
      have n0 : V.cell? ⟨b, 0, none⟩ = some (pv (nd (pre ++ [0]))) := cl_of hn2 0
      have n1 : V.cell? ⟨b, 1, none⟩ = some (pv (nd (pre ++ [1]))) := cl_of hn2 1
      have hbox' := hbox
      have HI := Lib.hid hI
      clear hI hbox hn2
      rcases hx with rfl | rfl
      · cases hq : nd (pre ++ [0]) with
        | none =>
          have hX : KeepsD W1.heap.size V (V.setCell ⟨qn, 0, none⟩ (.pointer none)) ∧ WyX nd J Jx .ret (pre ++ [0]) (V.setCell ⟨qn, 0, none⟩ (.pointer none)) := ⟨KeepsD.of_but ((But.refl _ _).setCell (L := [qn]) (.inl (by simp)) _) hlt1 (by simp only [List.mem_singleton]; rintro x rfl; omega), rfl, .inl ⟨pre, _, rfl, hq, ⟨b, hb⟩, HJT.out _ _ _ _ HI.out.j rfl⟩⟩
          have hcv : (V.setCell ⟨qn, 0, none⟩ (.pointer none)).cell? ⟨qn, 0, none⟩ = some (.pointer none) := cell_set hbox' _
          have HX := Lib.hid hX
          rw [hq] at n0
          unfold pv at hc n0 n1
          simp only [Option.map_some, Option.map_none] at hc n0 n1
          clear hq n1 hX
          gi_wp2
          refine ⟨fun _ h => (by cases h), ?_⟩
          gi_wp2
          exact HX.out
        | some a =>
          obtain ⟨V2, hV2⟩ : ∃ V2, V2 = V.setCell ⟨qn, 0, none⟩ (.pointer (some ⟨a, 0, none⟩)) := ⟨_, rfl⟩
          have hb2 : But [qn] V V2 := by rw [hV2]; exact (But.refl _ _).setCell (.inl (by simp)) _
          have hyy := HY.out (upto pre) (pre ++ [0]) V2 (by rw [hV2]; exact HJT.out _ _ _ _ HI.out.j rfl) ⟨a, hq⟩ (by rw [upto_len]; omega)
          rw [← upto_snoc] at hyy
          obtain ⟨fn, tmps, assign, body, hy, hR⟩ := hyy
          unfold encN at hy
          rw [hq] at hy
          unfold pv at hy
          simp only [Option.map_some] at hy
          have hcv : V2.cell? ⟨qn, 0, none⟩ = some (.pointer (some ⟨a, 0, none⟩)) := by rw [hV2]; exact cell_set hbox' _
          have hcv3 : V2.cell? ⟨W.heap.size, 0, none⟩ = some (.func (.yield l) #[] #[]) := cell_but hb2 hc3 (by simp; omega)
          have hqn2 : V2.heap[qn]? = some (.cells #[pv (some a)] 57) := by rw [hV2]; simp [World.setCell, Array.getElem?_modify, hbox', pv]
          have HKD : Hid (∀ W', KeepIn ok V2 W' → KeepsD W1.heap.size V W') := Lib.hid (fun W' hk' k hk => (hk'.same k (HOK.out.2.2.2.2.2 _ (by omega)) (by have := hb2.size; omega)).trans (hb2.block k (by omega) (by simp; omega)))
          have HRES : Hid (∀ W', J (upto (pre ++ [0])) W' → KeepIn ok V2 W' → KeepsD W1.heap.size V W' ∧ KeepIn (fun b => b = P ∨ b = ad.block) V W' ∧ WyI nd xs qn W.heap.size l J (pre ++ [0]) W') := Lib.hid (fun W' hJ' hk' => by
            refine ⟨HKD.out W' hk', (KeepIn.of_but hb2 (fun y hy => ?_)).trans ⟨hk'.size, fun b hb hl => hk'.same b ?_ hl⟩, ⟨a, hq, hk'.heap HOK.out.1 hqn2⟩, hk'.heap (HOK.out.2.2.2.2.2 _ (Nat.le_refl _)) (hb2.heap HI.out.yb (by simp; omega)), hJ', (HI.out.tree.but hb2 (fun π c hp => ?_)).keepIn hk' HOK.out.2.2.2.2.1⟩
            · simp only [List.mem_singleton] at hy
              subst hy
              rintro (h | h)
              · exact HNE.out.1 h
              · exact HNE.out.2.1 h
            · rcases hb with rfl | rfl
              · exact HOK.out.2.2.1
              · exact HOK.out.2.2.2.1
            · simp only [List.mem_singleton]
              rintro rfl
              exact HNE.out.2.2 π hp)
          have HRR2 := Lib.hid hR
          have HV2 := Lib.hid hV2
          rw [hq] at n0
          unfold pv at hc n0 n1
          simp only [Option.map_some, Option.map_none] at hc n0 n1
          rw [hV2] at hy hcv hcv3
          clear hq n1 hV2 hb2 hR hqn2
          gi_wp2
          rw [← HV2.out]
          refine ⟨fun h => by simp [Fence.wide] at h, (round_round HRR2.out).mono ?_⟩
          rintro e W8 (⟨rfl, hJ8, hk8⟩ | ⟨rfl, hJ8, hk8⟩)
          · have HEND := Lib.hid (HRES.out W8 hJ8 hk8)
            gi_wp2
            exact HEND.out
          · have HEND := Lib.hid (HKD.out W8 hk8)
            gi_wp2
            exact ⟨HEND.out, rfl, .inr hJ8⟩
      · cases hq : nd (pre ++ [1]) with
        | none =>
          have hX : KeepsD W1.heap.size V (V.setCell ⟨qn, 0, none⟩ (.pointer none)) ∧ WyX nd J Jx .ret (pre ++ [1]) (V.setCell ⟨qn, 0, none⟩ (.pointer none)) := ⟨KeepsD.of_but ((But.refl _ _).setCell (L := [qn]) (.inl (by simp)) _) hlt1 (by simp only [List.mem_singleton]; rintro x rfl; omega), rfl, .inl ⟨pre, _, rfl, hq, ⟨b, hb⟩, HJT.out _ _ _ _ HI.out.j rfl⟩⟩
          have hcv : (V.setCell ⟨qn, 0, none⟩ (.pointer none)).cell? ⟨qn, 0, none⟩ = some (.pointer none) := cell_set hbox' _
          have HX := Lib.hid hX
          rw [hq] at n1
          unfold pv at hc n0 n1
          simp only [Option.map_some, Option.map_none] at hc n0 n1
          clear hq n0 hX
          gi_wp2
          refine ⟨fun _ h => (by cases h), ?_⟩
          gi_wp2
          exact HX.out
        | some a =>
          obtain ⟨V2, hV2⟩ : ∃ V2, V2 = V.setCell ⟨qn, 0, none⟩ (.pointer (some ⟨a, 0, none⟩)) := ⟨_, rfl⟩
          have hb2 : But [qn] V V2 := by rw [hV2]; exact (But.refl _ _).setCell (.inl (by simp)) _
          have hyy := HY.out (upto pre) (pre ++ [1]) V2 (by rw [hV2]; exact HJT.out _ _ _ _ HI.out.j rfl) ⟨a, hq⟩ (by rw [upto_len]; omega)
          rw [← upto_snoc] at hyy
          obtain ⟨fn, tmps, assign, body, hy, hR⟩ := hyy
          unfold encN at hy
          rw [hq] at hy
          unfold pv at hy
          simp only [Option.map_some] at hy
          have hcv : V2.cell? ⟨qn, 0, none⟩ = some (.pointer (some ⟨a, 0, none⟩)) := by rw [hV2]; exact cell_set hbox' _
          have hcv3 : V2.cell? ⟨W.heap.size, 0, none⟩ = some (.func (.yield l) #[] #[]) := cell_but hb2 hc3 (by simp; omega)
          have hqn2 : V2.heap[qn]? = some (.cells #[pv (some a)] 57) := by rw [hV2]; simp [World.setCell, Array.getElem?_modify, hbox', pv]
          have HKD : Hid (∀ W', KeepIn ok V2 W' → KeepsD W1.heap.size V W') := Lib.hid (fun W' hk' k hk => (hk'.same k (HOK.out.2.2.2.2.2 _ (by omega)) (by have := hb2.size; omega)).trans (hb2.block k (by omega) (by simp; omega)))
          have HRES : Hid (∀ W', J (upto (pre ++ [1])) W' → KeepIn ok V2 W' → KeepsD W1.heap.size V W' ∧ KeepIn (fun b => b = P ∨ b = ad.block) V W' ∧ WyI nd xs qn W.heap.size l J (pre ++ [1]) W') := Lib.hid (fun W' hJ' hk' => by
            refine ⟨HKD.out W' hk', (KeepIn.of_but hb2 (fun y hy => ?_)).trans ⟨hk'.size, fun b hb hl => hk'.same b ?_ hl⟩, ⟨a, hq, hk'.heap HOK.out.1 hqn2⟩, hk'.heap (HOK.out.2.2.2.2.2 _ (Nat.le_refl _)) (hb2.heap HI.out.yb (by simp; omega)), hJ', (HI.out.tree.but hb2 (fun π c hp => ?_)).keepIn hk' HOK.out.2.2.2.2.1⟩
            · simp only [List.mem_singleton] at hy
              subst hy
              rintro (h | h)
              · exact HNE.out.1 h
              · exact HNE.out.2.1 h
            · rcases hb with rfl | rfl
              · exact HOK.out.2.2.1
              · exact HOK.out.2.2.2.1
            · simp only [List.mem_singleton]
              rintro rfl
              exact HNE.out.2.2 π hp)
          have HRR2 := Lib.hid hR
          have HV2 := Lib.hid hV2
          rw [hq] at n1
          unfold pv at hc n0 n1
          simp only [Option.map_some, Option.map_none] at hc n0 n1
          rw [hV2] at hy hcv hcv3
          clear hq n0 hV2 hb2 hR hqn2
          gi_wp2
          rw [← HV2.out]
          refine ⟨fun h => by simp [Fence.wide] at h, (round_round HRR2.out).mono ?_⟩
          rintro e W8 (⟨rfl, hJ8, hk8⟩ | ⟨rfl, hJ8, hk8⟩)
          · have HEND := Lib.hid (HRES.out W8 hJ8 hk8)
            gi_wp2
            exact HEND.out
          · have HEND := Lib.hid (HKD.out W8 hk8)
            gi_wp2
            exact ⟨HEND.out, rfl, .inr hJ8⟩
    case done =>
      rintro D ys V rfl rfl hI hK
      have hend : SeqPost (DownS nd (kbits ks)) (fun _ => True) NoT J Jx (.returned (.tuple #[])) (V.putObj W1.heap.size (.deferred none)) := by
        obtain ⟨b, hb, _⟩ := hI.here
        exact .inl ⟨⟨_, rfl⟩, .inl ⟨_, .inl ⟨rfl, b, hb⟩, HJ.out.put _ _ _ _ _ hI.j (by omega) hK rfl⟩⟩
      have HEND := Lib.hid hend
      clear hI hend
      gi_wp2
      refine ⟨by simp, .inl ⟨_, _, rfl, run_takeDeferred hK, ?_⟩⟩
      exact ⟨_, results_none rfl _ _ _, HEND.out⟩
    case stop =>
      rintro D c pre V rfl hpre hX hK
      obtain rfl := hX.c
      have hend : SeqPost (DownS nd (kbits ks)) (fun _ => True) NoT J Jx (.returned (.tuple #[])) (V.putObj W1.heap.size (.deferred none)) := by
        rcases hX.or' with ⟨ρ, x, rfl, hn, hb, hj⟩ | hj
        · exact .inl ⟨⟨_, rfl⟩, .inl ⟨_, .inr ⟨ρ, x, rfl, hpre, hn, hb⟩, HJ.out.put _ _ _ _ _ hj (by omega) hK rfl⟩⟩
        · exact .inl ⟨⟨_, rfl⟩, .inr ⟨_, trivial, HJX.out.put _ _ _ _ _ hj (by omega) hK rfl⟩⟩
      have HEND := Lib.hid hend
      clear hX hend
      gi_wp2
      refine ⟨by simp, .inl ⟨_, _, rfl, run_takeDeferred hK, ?_⟩⟩
      exact ⟨_, results_none rfl _ _ _, HEND.out⟩
    case throw =>
      rintro D pre chain V _ h _ _
      exact h.elim
  · gi_wp2
    exact ⟨_, results_none rfl _ _ _, .inl ⟨⟨_, rfl⟩, .inr ⟨_, trivial, hJx1⟩⟩⟩
/-- The iterator's contract. -/
theorem way_seq (n : Nat) (hn : 5 ≤ n) (qn qb P : Nat) (ok : Nat → Prop) (ad : Addr) (cp : Nat) (ks : List Int) (nd xs : Path → Option Nat) (w : World)
    (hT : Tree w nd xs) (b0 : Nat) (hroot : nd [] = some b0)
    (hqn : w.heap[qn]? = some (.cells #[.pointer (some ⟨b0, 0, none⟩)] 57)) (hqb : w.heap[qb]? = some (.cells #[.func (.func 54) #[] #[.pointer (some ⟨P, 0, none⟩)]] 72))
    (hP : w.heap[P]? = some (.cells #[.slice (some ad) ks.length cp] 26)) (hs : Sees w (.slice (some ad) ks.length cp) (u8s ks)) (hk : KeyOk ks)
    (hok : ok qn ∧ ok qb ∧ ok P ∧ ok ad.block ∧ (∀ π b, nd π = some b → ok b) ∧ ∀ b, w.heap.size + 2 ≤ b → ok b)
    (hne : qn ≠ P ∧ qn ≠ ad.block ∧ ∀ π, nd π ≠ some qn) :
    SeqT Fence.wide n Try.prog 62 #[.pointer (some ⟨qn, 0, none⟩), .pointer (some ⟨qb, 0, none⟩)] (encN nd) (AnyN nd) (KeepIn ok) (DownS nd (kbits ks)) (fun _ => True) NoT ((kbits ks).length + 1) (fun b => b = qn) w := fun l J Jx W hW hWs hJ hJx hJt hJxt hY h0 =>
  way1_in n hn l qn qb P ok ad cp ks nd xs J Jx W hY hJ hJx hJt hJxt (hT.but hW (by simp)) b0 hroot (hW.heap hqn (by simp)) (hW.heap hqb (by simp)) (hW.heap hP (by simp)) (hs.but hW (by simp)) hk
    ⟨hok.1, hok.2.1, hok.2.2.1, hok.2.2.2.1, hok.2.2.2.2.1, fun b hb => hok.2.2.2.2.2 b (by omega)⟩ hne h0
end Go.Proofs.Ytpoinhfkgnkedaa.M
