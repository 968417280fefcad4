/-
  trie: one whose blocks are told by S, beside other blocks; what it holds, as plain maps.
-/
import Derived.Test.YtpoinhfkgnkedaaTrBad
namespace Go.Proofs.Ytpoinhfkgnkedaa.M
open Go.RowKit Go.Shelf
set_option linter.unusedVariables false
set_option linter.unusedSectionVars false
set_option linter.unusedSimpArgs false
abbrev EMap := Path → Option Nat
/-- The place of the longest beginning that has one. -/
def lookE (E : EMap) (π : Path) : Option Nat := ((upto π).filterMap E).getLast?
noncomputable def usedE (E : EMap) (p : Nat) : Bool := @decide (∃ π, E π = some p) (Classical.propDecidable _)
theorem usedE_iff (E : EMap) (p : Nat) : usedE E p = true ↔ ∃ π, E π = some p := by
  unfold usedE
  exact @decide_eq_true_iff _ (Classical.propDecidable _)
def placeO : Option Nat → Int | some p => (p : Nat) | none => 0
def errO : Option Nat → Int | some _ => 0 | none => 6
def putE (E : EMap) (π : Path) (v : Option Nat) : EMap := fun ρ => if ρ = π then v else E ρ
theorem putE_at (E : EMap) (π : Path) (v : Option Nat) : putE E π v π = v := by simp [putE]
theorem putE_ne (E : EMap) {π ρ : Path} (v : Option Nat) (h : ρ ≠ π) : putE E π v ρ = E ρ := by simp [putE, h]
def lookT (K : Nat) (E : EMap) (ks : List Int) : Int × Int := if KeyBad K ks then (0, 2) else (placeO (lookE E (kbits ks)), errO (lookE E (kbits ks)))
def delT (K : Nat) (E : EMap) (ks : List Int) : Int × EMap := if KeyBad K ks then (2, E) else if E (kbits ks) = none then (6, E) else (0, putE E (kbits ks) none)
noncomputable def updT (K V N : Nat) (E : EMap) (rows : List (List Int)) (ks vs : List Int) (fl : Int) : Int × EMap × List (List Int) :=
  if KeyBad K ks ∨ vs.length ≠ V ∨ 2 < fl then (2, E, rows)
  else match E (kbits ks) with
    | some p => if fl = 1 then (7, E, rows) else (0, E, rows.set p vs)
    | none => if fl = 2 then (6, E, rows) else match freeI (usedE E) N with
      | none => (8, E, rows)
      | some p => (0, putE E (kbits ks) (some p), rows.set p vs)
structure TO (w W : World) (S : Nat → Prop) (P K V N : Nat) (E : EMap) (rows : List (List Int)) : Prop where
  ex : ∃ root U Rm nd xs pl kb f g, TrieS W P root U Rm K V N nd xs pl kb f g rows ∧ (∀ π, E π = (xs π).map pl) ∧ ∀ b, Mine P U Rm N nd xs kb g b → S b
  low : ∀ b, S b → w.heap.size ≤ b ∧ b < W.heap.size
  but : But [] w W
/-- What an operation turns. -/
def TurnsO (S S' : Nat → Prop) (W w' : World) : Prop := (∀ b, b < W.heap.size → S' b → S b) ∧ ∃ L, (∀ x ∈ L, S x ∨ W.heap.size ≤ x) ∧ But L W w'
theorem TurnsO.refl {S : Nat → Prop} {W w' : World} (h : But [] W w') : TurnsO S S W w' := ⟨fun _ _ h => h, [], by simp, h⟩
section
variable {w W : World} {S : Nat → Prop} {P K V N : Nat} {E : EMap} {rows : List (List Int)}
theorem TO.keep {W' : World} (h : TO w W S P K V N E rows) {L : List Nat} (hb : But L W W') (hL : ∀ x ∈ L, ¬ S x ∧ w.heap.size ≤ x) : TO w W' S P K V N E rows := by
  obtain ⟨root, U, Rm, nd, xs, pl, kb, f, g, h1, h2, h3⟩ := h.ex
  exact ⟨⟨root, U, Rm, nd, xs, pl, kb, f, g, h1.but hb (fun x hx hm => (hL x hx).1 (h3 x hm)), h2, h3⟩, fun b hs => ⟨(h.low b hs).1, Nat.lt_of_lt_of_le (h.low b hs).2 hb.size⟩, h.but.trans hb (fun x hx => .inr (hL x hx).2)⟩
theorem TO.new {W' : World} (h : TO w W S P K V N E rows) (hb : But [] W W') : TO w W' S P K V N E rows := h.keep hb (by simp)
theorem TO.num (h : TO w W S P K V N E rows) : (5 ≤ K ∧ K ≤ 36) ∧ (1 ≤ V ∧ V ≤ 1024) ∧ (1 ≤ N ∧ N ≤ 1024) := by
  obtain ⟨root, U, Rm, nd, xs, pl, kb, f, g, h1, h2, h3⟩ := h.ex
  exact h1.num
theorem TO.rowsLen (h : TO w W S P K V N E rows) : rows.length = N ∧ ∀ (i : Nat) (r : List Int), rows[i]? = some r → r.length = V ∧ ByteL r := by
  obtain ⟨root, U, Rm, nd, xs, pl, kb, f, g, h1, h2, h3⟩ := h.ex
  exact ⟨h1.rows.1, fun i r hi => (h1.rows.2 i r hi).2⟩
theorem TO.plt (h : TO w W S P K V N E rows) {π : Path} {p : Nat} (hp : E π = some p) : p < N := by
  obtain ⟨root, U, Rm, nd, xs, pl, kb, f, g, h1, h2, h3⟩ := h.ex
  rw [h2] at hp
  obtain ⟨e, he, rfl⟩ := Option.map_eq_some_iff.1 hp
  exact h1.plt _ _ he
theorem TO.pinj (h : TO w W S P K V N E rows) {π ρ : Path} {p : Nat} (hp : E π = some p) (hr : E ρ = some p) : π = ρ := by
  obtain ⟨root, U, Rm, nd, xs, pl, kb, f, g, h1, h2, h3⟩ := h.ex
  rw [h2] at hp hr
  obtain ⟨e, he, rfl⟩ := Option.map_eq_some_iff.1 hp
  obtain ⟨e', he', hpp⟩ := Option.map_eq_some_iff.1 hr
  exact h1.pinj _ _ _ _ he he' hpp.symm
/-- The key of a path that has a place. -/
theorem TO.key (h : TO w W S P K V N E rows) {π : Path} {p : Nat} (hp : E π = some p) : ∃ ks, KeyOk ks ∧ ks.length = K ∧ kbits ks = π := by
  obtain ⟨root, U, Rm, nd, xs, pl, kb, f, g, h1, h2, h3⟩ := h.ex
  rw [h2] at hp
  obtain ⟨e, he, rfl⟩ := Option.map_eq_some_iff.1 hp
  obtain ⟨ks, a, b, c, d⟩ := h1.key _ _ he
  exact ⟨ks, a, b, c⟩
theorem keyOk_of {K : Nat} {ks : List Int} (hK : 5 ≤ K ∧ K ≤ 36) (hb : ByteL ks) (hn : ¬ KeyBad K ks) : KeyOk ks ∧ ks.length = K := by
  unfold KeyBad at hn
  rw [not_or] at hn
  obtain ⟨h1, h2⟩ := hn
  have h1 : ks.length = K := Classical.not_not.1 h1
  exact ⟨⟨hb, by omega, by omega, by omega⟩, h1⟩
theorem sees_some {w : World} {a : Option Addr} {c : Nat} {ks : List Int} (hs : Sees w (.slice a ks.length c) (u8s ks)) (h0 : 0 < ks.length) : ∃ ad, a = some ad := by
  rcases id hs with ⟨h1, h2⟩ | ⟨ad, c', h1, _, _⟩
  · have := congrArg List.length h2
    rw [u8s_len] at this
    simp only [List.length_nil] at this
    omega
  · simp only [Value.slice.injEq] at h1
    exact ⟨ad, h1.1⟩
theorem upto_prefix : ∀ (τ ρ : Path), ∃ R, upto (ρ ++ τ) = upto ρ ++ R ∧ ∀ σ ∈ R, ∃ x, τ.head? = some x ∧ ρ ++ [x] <+: σ
  | [], ρ => ⟨[], by simp, by simp⟩
  | x :: τ, ρ => by
    obtain ⟨R, h1, h2⟩ := upto_prefix τ (ρ ++ [x])
    rw [List.append_assoc, List.singleton_append] at h1
    refine ⟨[ρ ++ [x]] ++ R, by rw [h1, upto_snoc, List.append_assoc], fun σ hσ => ⟨x, rfl, ?_⟩⟩
    rcases List.mem_append.1 hσ with hσ | hσ
    · rw [List.mem_singleton] at hσ
      subst hσ
      exact List.prefix_refl _
    · obtain ⟨y, _, h3⟩ := h2 σ hσ
      exact (List.prefix_append _ _).trans h3
theorem look_down {w : World} {nd xs : Path → Option Nat} {pl : Nat → Nat} {E : EMap} (hT : Tree w nd xs) (hE : ∀ π, E π = (xs π).map pl) {π : Path} {ρs : List Path} (h : DownS nd π ρs) : lookE E π = (lastE xs ρs).map pl := by
  have hm : ∀ l : List Path, l.filterMap E = (l.filterMap xs).map pl := fun l => by
    rw [List.map_filterMap]
    congr 1
    funext π
    exact hE π
  unfold lookE lastE
  rw [hm, List.getLast?_map]
  rcases h with ⟨rfl, _⟩ | ⟨ρ, x, rfl, ⟨τ, hτ⟩, hn, _⟩
  · rfl
  · obtain ⟨R, h1, h2⟩ := upto_prefix (x :: τ) ρ
    have e : ρ ++ x :: τ = π := by rw [← hτ]; simp
    rw [e] at h1
    have hR : R.filterMap xs = [] := by
      rw [List.filterMap_eq_nil_iff]
      intro σ hσ
      obtain ⟨y, hy, hp⟩ := h2 σ hσ
      simp only [List.head?_cons, Option.some.injEq] at hy
      subst hy
      have := hT.none_down hn hp
      cases hx : xs σ with
      | none => rfl
      | some e => obtain ⟨b, hb⟩ := hT.ent _ _ hx; rw [this] at hb; cases hb
    rw [h1, List.filterMap_append, hR, List.append_nil]
theorem find_congr {α : Type} {l : List α} {p q : α → Bool} (h : ∀ x ∈ l, p x = q x) : l.find? p = l.find? q := by
  induction l with
  | nil => rfl
  | cons x l ih => rw [List.find?_cons, List.find?_cons, h x List.mem_cons_self, ih (fun y hy => h y (List.mem_cons_of_mem _ hy))]
theorem free_eq {w : World} {P root U Rm K V N : Nat} {nd xs : Path → Option Nat} {pl kb : Nat → Nat} {f : Nat → Bool} {g : Nat → Nat} {rows : List (List Int)} (h : TrieS w P root U Rm K V N nd xs pl kb f g rows) {E : EMap} (hE : ∀ π, E π = (xs π).map pl) : freeI (usedE E) N = freeI f N := by
  unfold freeI
  refine find_congr (fun i hi => ?_)
  rw [List.mem_range] at hi
  have h1 := h.full i hi
  have h2 := usedE_iff E i
  have h3 : (∃ π, E π = some i) ↔ ∃ π e, xs π = some e ∧ pl e = i := by
    constructor
    · rintro ⟨π, hp⟩
      rw [hE] at hp
      obtain ⟨e, he, hpe⟩ := Option.map_eq_some_iff.1 hp
      exact ⟨π, e, he, hpe⟩
    · rintro ⟨π, e, he, hpe⟩
      exact ⟨π, by rw [hE, he, ← hpe]; rfl⟩
  have : usedE E i = f i := by
    rw [Bool.eq_iff_iff, h2, h3, h1]
  rw [this]
theorem mine_lt {w : World} {P root U Rm K V N : Nat} {nd xs : Path → Option Nat} {pl kb : Nat → Nat} {f : Nat → Bool} {g : Nat → Nat} {rows : List (List Int)} (h : TrieS w P root U Rm K V N nd xs pl kb f g rows) {b : Nat} (hb : Mine P U Rm N nd xs kb g b) : b < w.heap.size := by
  rcases hb with rfl | rfl | rfl | ⟨π, hp⟩ | ⟨π, e, he, rfl | rfl⟩ | ⟨i, hi, rfl⟩
  · exact lt_of h.head
  · obtain ⟨C, hC, _⟩ := h.used; exact lt_of hC
  · obtain ⟨C, hC, _⟩ := h.room; exact lt_of hC
  · exact h.tree.lt hp
  · exact (h.elt he).1
  · exact (h.elt he).2
  · exact lt_of (h.rows.2 i _ (List.getElem?_eq_getElem (by rw [h.rows.1]; exact hi))).1
/-- A trie behind an operation: its blocks are of the old ones, or new. -/
theorem TO.turn (h : TO w W S P K V N E rows) {W' : World} {root U Rm : Nat} {nd xs : Path → Option Nat} {pl kb : Nat → Nat} {f : Nat → Bool} {g : Nat → Nat} {E' : EMap} {rows' : List (List Int)} (h1 : TrieS W' P root U Rm K V N nd xs pl kb f g rows') (h2 : ∀ π, E' π = (xs π).map pl)
    (h3 : ∀ b, Mine P U Rm N nd xs kb g b → S b ∨ W.heap.size ≤ b) (h4 : ∃ L, (∀ x ∈ L, S x ∨ W.heap.size ≤ x) ∧ But L W W') : ∃ S', TO w W' S' P K V N E' rows' ∧ TurnsO S S' W W' := by
  obtain ⟨L, hL, hb⟩ := h4
  have hs := h.but.size
  refine ⟨fun b => (S b ∨ W.heap.size ≤ b) ∧ b < W'.heap.size, ⟨⟨root, U, Rm, nd, xs, pl, kb, f, g, h1, h2, fun b hm => ⟨h3 b hm, mine_lt h1 hm⟩⟩, fun b hb => ⟨?_, hb.2⟩, h.but.trans hb (fun x hx => .inr ?_)⟩, fun b hb hk => ?_, L, hL, hb⟩
  · rcases hb.1 with h3 | h3
    · exact (h.low b h3).1
    · omega
  · rcases hL x hx with h3 | h3
    · exact (h.low x h3).1
    · omega
  · rcases hk.1 with h3 | h3
    · exact h3
    · omega
theorem TO.lookup (h : TO w W S P K V N E rows) (a : Option Addr) (c : Nat) {ks : List Int} (hs : Sees W (.slice a ks.length c) (u8s ks)) (hk : ByteL ks) :
    Calls Try.prog 14 #[.pointer (some ⟨P, 0, none⟩), .slice a ks.length c] W fun r w' => r = .returned (.tuple #[.int .i64 (lookT K E ks).1, .int .i64 (lookT K E ks).2]) ∧ But [] W w' := by
  obtain ⟨root, U, Rm, nd, xs, pl, kb, f, g, h1, h2, h3⟩ := h.ex
  unfold lookT
  by_cases hbad : KeyBad K ks
  · rw [if_pos hbad]
    exact lookup_bad h1.head h1.num.1 a c ks hs hk hbad
  · rw [if_neg hbad]
    obtain ⟨hok, hl⟩ := keyOk_of h1.num.1 hk hbad
    obtain ⟨ad, rfl⟩ := sees_some hs (by have := hok.four; omega)
    refine (callsIn_wide.1 (lookup_w h1.head h1.tree h1.rt h1.ents ad c ks hl hok hs)).mono ?_
    rintro r w' ⟨ρs, hd, rfl, hb⟩
    rw [look_down h1.tree h2 hd]
    refine ⟨?_, hb⟩
    cases lastE xs ρs <;> rfl
theorem TO.delete (h : TO w W S P K V N E rows) (a : Option Addr) (c : Nat) {ks : List Int} (hs : Sees W (.slice a ks.length c) (u8s ks)) (hk : ByteL ks) :
    Calls Try.prog 11 #[.pointer (some ⟨P, 0, none⟩), .slice a ks.length c] W fun r w' => r = .returned (.int .i64 (delT K E ks).1) ∧ ∃ S', TO w w' S' P K V N (delT K E ks).2 rows ∧ TurnsO S S' W w' := by
  obtain ⟨root, U, Rm, nd, xs, pl, kb, f, g, h1, h2, h3⟩ := h.ex
  unfold delT
  by_cases hbad : KeyBad K ks
  · rw [if_pos hbad]
    refine (delete_bad h1.head h1.num.1 a c ks hs hk hbad).mono ?_
    rintro r w' ⟨rfl, hb⟩
    exact ⟨rfl, S, h.new hb, .refl hb⟩
  · rw [if_neg hbad]
    obtain ⟨hok, hl⟩ := keyOk_of h1.num.1 hk hbad
    obtain ⟨ad, rfl⟩ := sees_some hs (by have := hok.four; omega)
    rw [h2]
    cases hx : xs (kbits ks) with
    | none =>
      rw [Option.map_none, if_pos rfl]
      refine (delete_none h1 ad c ks hl hok hs hx).mono ?_
      rintro r w' ⟨rfl, hb⟩
      exact ⟨rfl, S, h.new hb, .refl hb⟩
    | some e0 =>
      rw [if_neg (by simp)]
      refine (delete_hit h1 ad c ks hl hok hs hx).mono ?_
      rintro r w' ⟨rfl, h4, h5⟩
      refine ⟨rfl, h.turn h4 (fun ρ => ?_) (fun b hm => .inl ?_) ?_⟩
      · dsimp only
        by_cases e : ρ = kbits ks
        · subst e; rw [putE_at, minus_at]; rfl
        · rw [putE_ne _ _ e, minus_ne _ e, h2]
      · refine h3 b ?_
        rcases hm with hm | hm | hm | hm | ⟨π, e, he, hm⟩ | hm
        · exact .inl hm
        · exact .inr (.inl hm)
        · exact .inr (.inr (.inl hm))
        · exact .inr (.inr (.inr (.inl hm)))
        · exact .inr (.inr (.inr (.inr (.inl ⟨π, e, (minus_some he).2, hm⟩))))
        · exact .inr (.inr (.inr (.inr (.inr hm))))
      · obtain ⟨L, hL, hb⟩ := h5
        exact ⟨L, fun x hx => .inl (h3 x (by rcases hL x hx with h | h; exact .inr (.inr (.inr (.inl h))); exact .inr (.inl h))), hb⟩
theorem putE_plus {xs : Path → Option Nat} {pl : Nat → Nat} {E : EMap} (h2 : ∀ π, E π = (xs π).map pl) {π : Path} {e1 p : Nat} (hne : ∀ ρ e, xs ρ = some e → e ≠ e1) : ∀ ρ, putE E π (some p) ρ = (plus xs π e1 ρ).map (upd pl e1 p) := fun ρ => by
  by_cases e : ρ = π
  · subst e; rw [putE_at, plus_at, Option.map_some, upd_at]
  · rw [putE_ne _ _ e, plus_off _ _ e, h2]
    cases hx : xs ρ with
    | none => rfl
    | some e' => rw [Option.map_some, Option.map_some, upd_ne _ _ (hne _ _ hx)]
theorem TO.update (h : TO w W S P K V N E rows) (a : Option Addr) (c : Nat) {ks : List Int} (hs : Sees W (.slice a ks.length c) (u8s ks)) (hk : ByteL ks) (va : Option Addr) (vc : Nat) {vs : List Int} (hsv : Sees W (.slice va vs.length vc) (u8s vs)) (hv : ByteL vs) (fl : Int)
    (hka : 0 < ks.length → ∀ b, (Value.slice a ks.length c).ownBlock = some b → ¬ S b) (hva : 0 < vs.length → ∀ b, (Value.slice va vs.length vc).ownBlock = some b → ¬ S b) :
    Calls Try.prog 12 #[.pointer (some ⟨P, 0, none⟩), .slice a ks.length c, .slice va vs.length vc, .int .u64 fl] W fun r w' => r = .returned (.int .i64 (updT K V N E rows ks vs fl).1) ∧ ∃ S', TO w w' S' P K V N (updT K V N E rows ks vs fl).2.1 (updT K V N E rows ks vs fl).2.2 ∧ TurnsO S S' W w' := by
  obtain ⟨root, U, Rm, nd, xs, pl, kb, f, g, h1, h2, h3⟩ := h.ex
  unfold updT
  by_cases hbad : KeyBad K ks
  · rw [if_pos (.inl hbad)]
    refine (update_bad h1.head h1.num.1 a c ks hs hk hbad _ fl).mono ?_
    rintro r w' ⟨rfl, hb⟩
    exact ⟨rfl, S, h.new hb, .refl hb⟩
  obtain ⟨hok, hl⟩ := keyOk_of h1.num.1 hk hbad
  have hk0 : 0 < ks.length := by have := hok.four; omega
  obtain ⟨ad, rfl⟩ := sees_some hs hk0
  by_cases hvl : vs.length = V
  rotate_left
  · rw [if_pos (.inr (.inl hvl))]
    have hv' : ((vs.length : Int) == (V : Int)) = false := by rw [beq_eq_false_iff_ne]; omega
    have hc : Calls Try.prog 12 #[.pointer (some ⟨P, 0, none⟩), .slice (some ad) ks.length c, .slice va vs.length vc, .int .u64 fl] W fun e w' => e = .returned (.int .i64 2) ∧ But [] W w' := by
      cases hx : xs (kbits ks) with
      | none => exact upd_len_miss h1 ad c ks hl hok hs va vs.length vc fl hx hv'
      | some e0 => exact upd_len_hit h1 ad c ks hl hok hs va vs.length vc fl hx hv'
    refine hc.mono ?_
    rintro r w' ⟨rfl, hb⟩
    exact ⟨rfl, S, h.new hb, .refl hb⟩
  have hv' : ((vs.length : Int) == (V : Int)) = true := by rw [beq_iff_eq]; omega
  by_cases hf : 2 < fl
  · rw [if_pos (.inr (.inr hf))]
    have hf' : decide ((2 : Int) < fl) = true := decide_eq_true hf
    have hc : Calls Try.prog 12 #[.pointer (some ⟨P, 0, none⟩), .slice (some ad) ks.length c, .slice va vs.length vc, .int .u64 fl] W fun e w' => e = .returned (.int .i64 2) ∧ But [] W w' := by
      cases hx : xs (kbits ks) with
      | none => exact upd_flag_miss h1 ad c ks hl hok hs va vs.length vc fl hx hv' hf'
      | some e0 => exact upd_flag_hit h1 ad c ks hl hok hs va vs.length vc fl hx hv' hf'
    refine hc.mono ?_
    rintro r w' ⟨rfl, hb⟩
    exact ⟨rfl, S, h.new hb, .refl hb⟩
  have hf' : decide ((2 : Int) < fl) = false := decide_eq_false hf
  rw [if_neg (by rintro (h | h | h); exact hbad h; exact h hvl; exact hf h), h2]
  cases hx : xs (kbits ks) with
  | some e0 =>
    rw [Option.map_some]
    dsimp only
    by_cases h11 : fl = 1
    · subst h11
      rw [if_pos rfl]
      refine (upd_there h1 ad c ks hl hok hs va vs.length vc 1 hx hv' hf').mono ?_
      rintro r w' ⟨rfl, hb⟩
      exact ⟨rfl, S, h.new hb, .refl hb⟩
    · rw [if_neg h11]
      have h11' : (fl == 1) = false := by rw [beq_eq_false_iff_ne]; exact h11
      refine (upd_hit h1 ad c ks hl hok hs va vs.length vc fl hx vs hvl hv hsv hf' h11').mono ?_
      rintro r w' ⟨rfl, h4, h5⟩
      refine ⟨rfl, h.turn h4 h2 (fun b hm => .inl (h3 b hm)) ⟨_, fun x hx' => .inl (h3 x ?_), h5⟩⟩
      rw [List.mem_singleton] at hx'
      exact .inr (.inr (.inr (.inr (.inr ⟨_, h1.plt _ _ hx, hx'⟩))))
  | none =>
    rw [Option.map_none]
    dsimp only
    by_cases h11 : fl = 2
    · subst h11
      rw [if_pos rfl]
      refine (upd_none h1 ad c ks hl hok hs va vs.length vc 2 hx hv' hf').mono ?_
      rintro r w' ⟨rfl, hb⟩
      exact ⟨rfl, S, h.new hb, .refl hb⟩
    · rw [if_neg h11, free_eq h1 h2]
      have h11' : (fl == 2) = false := by rw [beq_eq_false_iff_ne]; exact h11
      cases hfr : freeI f N with
      | none =>
        dsimp only
        refine (upd_full h1 ad c ks hl hok hs va vs.length vc fl hx hv' hf' h11' hfr).mono ?_
        rintro r w' ⟨rfl, hb⟩
        exact ⟨rfl, S, h.new hb, .refl hb⟩
      | some p =>
        dsimp only
        have had : ∀ π b, nd π = some b → b ≠ ad.block := fun π b hb he => hka hk0 _ rfl (h3 _ (.inr (.inr (.inr (.inl ⟨π, by rw [← he]; exact hb⟩)))))
        have hav : ∀ b, Value.ownBlock (.slice va vs.length vc) = some b → ¬ ((∃ ρ, nd ρ = some b) ∨ b = U) := fun b hb hh => hva (by have := h1.num; omega) b hb (h3 _ (by
          rcases hh with hh | hh
          · exact .inr (.inr (.inr (.inl hh)))
          · exact .inr (.inl hh)))
        have hc : Calls Try.prog 12 #[.pointer (some ⟨P, 0, none⟩), .slice (some ad) ks.length c, .slice va vs.length vc, .int .u64 fl] W fun e w' => e = .returned (.int .i64 0) ∧ ∃ nd' e1 q1, TrieS w' P root U Rm K V N nd' (plus xs (kbits ks) e1) (upd pl e1 p) (upd kb e1 q1) (upd f p true) g (rows.set p vs) ∧ (∀ π c, nd' π = some c → nd π = some c ∨ W.heap.size ≤ c) ∧ W.heap.size ≤ e1 ∧ W.heap.size ≤ q1 ∧ ∃ L, (∀ x ∈ L, ((∃ ρ, nd ρ = some x) ∨ x = U) ∨ x = g p) ∧ But L W w' := by
          cases hq : nd (kbits ks) with
          | none => exact upd_new_a h1 ad c ks hl hok hs va vs.length vc fl had hav hq hx vs hvl hv hsv hf' h11' hfr
          | some b => exact upd_new_b h1 ad c ks hl hok hs va vs.length vc fl had hav hq hx vs hvl hv hsv hf' h11' hfr
        refine hc.mono ?_
        rintro r w' ⟨rfl, nd', e1, q1, h4, hnd, he1, hq1, L, hL, hb⟩
        refine ⟨rfl, h.turn h4 (putE_plus h2 (fun ρ e he => by have := (h1.elt he).1; omega)) (fun b hm => ?_) ⟨L, fun x hx' => .inl (h3 x ?_), hb⟩⟩
        · rcases hm with rfl | rfl | rfl | ⟨π, hp⟩ | ⟨π, e, he, hm⟩ | ⟨i, hi, rfl⟩
          · exact .inl (h3 _ (.inl rfl))
          · exact .inl (h3 _ (.inr (.inl rfl)))
          · exact .inl (h3 _ (.inr (.inr (.inl rfl))))
          · rcases hnd _ _ hp with hp | hp
            · exact .inl (h3 _ (.inr (.inr (.inr (.inl ⟨π, hp⟩)))))
            · exact .inr hp
          · by_cases e2 : π = kbits ks
            · subst e2
              rw [plus_at] at he
              cases he
              rw [upd_at] at hm
              rcases hm with rfl | rfl
              · exact .inr he1
              · exact .inr hq1
            · rw [plus_off _ _ e2] at he
              have hne : e ≠ e1 := by have := (h1.elt he).1; omega
              rw [upd_ne _ _ hne] at hm
              exact .inl (h3 _ (.inr (.inr (.inr (.inr (.inl ⟨π, e, he, hm⟩))))))
          · exact .inl (h3 _ (.inr (.inr (.inr (.inr (.inr ⟨i, hi, rfl⟩))))))
        · rcases hL x hx' with (h5 | h5) | h5
          · exact .inr (.inr (.inr (.inl h5)))
          · exact .inr (.inl h5)
          · exact .inr (.inr (.inr (.inr (.inr ⟨p, (freeI_some hfr).1, h5⟩))))
/-- New. -/
theorem specE_trie' {K V N : Nat} (h : specE 4 K V N = 0) : (5 ≤ K ∧ K ≤ 36) ∧ (1 ≤ V ∧ V ≤ 1024) ∧ (1 ≤ N ∧ N ≤ 1024) := by
  have := specE_trie h
  omega
theorem newTO (K V N : Nat) (w : World) (hE : specE 4 K V N = 0) :
    Calls Try.prog 9 #[.agg #[.int .u8 4, .int .i64 K, .int .i64 V, .int .i64 N]] w fun e w' => ∃ P S, e = .returned (.tuple #[.pointer (some ⟨P, 0, none⟩), .int .i64 0]) ∧ TO w w' S P K V N (fun _ => none) (List.replicate N (List.replicate V 0)) := by
  refine (newTrie K V N w hE).mono ?_
  rintro e w' ⟨P, root, U, Rm, g, rfl, ⟨w1, hw1, hN⟩, hb⟩
  have hT := hN.trie (specE_trie' hE)
  refine ⟨P, fun b => Mine P U Rm N (oneN root) (fun _ => none) (fun _ => 0) g b, rfl, ⟨root, U, Rm, _, _, _, _, _, g, hT, fun _ => rfl, fun b hb => hb⟩, fun b hm => ⟨?_, mine_lt hT hm⟩, hb⟩
  have hl := hN.low
  rcases hm with rfl | rfl | rfl | ⟨π, hp⟩ | ⟨π, e, he, _⟩ | ⟨i, hi, rfl⟩
  · omega
  · omega
  · omega
  · unfold oneN at hp
    split at hp
    · cases hp; omega
    · cases hp
  · cases he
  · have := (hN.row i hi).2; omega
end
end Go.Proofs.Ytpoinhfkgnkedaa.M
