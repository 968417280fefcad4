/-
  lru, in the words of its keys and places alone: what each function makes of any arguments.
-/
import Derived.Test.YtifgfnifadmoaaaLruF
import Derived.Test.YtifgfnifadmoaaaLruG
namespace Go.Proofs.Ytifgfnifadmoaaa.M
open Go.RowKit
set_option linter.unusedVariables false
set_option linter.unusedSectionVars false
set_option linter.unusedSimpArgs false
theorem str_inj {a b : List Int} (ha : ByteL a) (hb : ByteL b) (h : strOfNums a = strOfNums b) : a = b := by
  have h1 : (a.map fun n => n.toNat.toUInt8).toArray = (b.map fun n => n.toNat.toUInt8).toArray := congrArg ByteArray.data h
  have h2 : a.map (fun n => n.toNat.toUInt8) = b.map (fun n => n.toNat.toUInt8) := by simpa using h1
  clear h h1
  induction a generalizing b with
  | nil => cases b with
    | nil => rfl
    | cons y b => simp at h2
  | cons x a ih => cases b with
    | nil => simp at h2
    | cons y b =>
      simp only [List.map_cons, List.cons.injEq] at h2
      have hx := ha x (by simp)
      have hy := hb y (by simp)
      have h3 : x.toNat.toUInt8.toNat = y.toNat.toUInt8.toNat := by rw [h2.1]
      simp only [UInt8.toNat_ofNat', Nat.toUInt8_eq] at h3
      have h4 : x = y := by omega
      rw [h4, ih (fun z hz => ha z (List.mem_cons_of_mem _ hz)) (fun z hz => hb z (List.mem_cons_of_mem _ hz)) h2.2]
/-- Keys and places, the eldest first. -/
abbrev LSt := List (List Int × Nat)
def enc (A : LSt) : List (ByteArray × Nat) := A.map fun x => (strOfNums x.1, x.2)
def pairs (E : List Ent) : List (ByteArray × Nat) := E.map fun e => (e.key, e.place)
def findK (A : LSt) (ks : List Int) : Option Nat := A.findIdx? fun x => decide (x.1 = ks)
def youngA (A : LSt) (k : Nat) : LSt := A.eraseIdx k ++ (A[k]?).toList
def placeA (A : LSt) (k : Nat) : Nat := ((A[k]?).map (·.2)).getD 0
def roomyA (A : LSt) (N : Nat) : LSt := if A.length = N then A.eraseIdx 0 else A
def usedA (A : LSt) (p : Nat) : Bool := A.any fun x => x.2 == p
def leastA (A : LSt) (N : Nat) : Nat := ((List.range N).find? fun p => !usedA A p).getD 0
/-- Lookup: the place, the error, what is there behind. -/
def lookA (K : Nat) (A : LSt) (ks : List Int) : Nat × Int × LSt :=
  if ks.length ≠ K then (0, 2, A) else match findK A ks with
    | none => (0, 6, A)
    | some k => (placeA A k, 0, youngA A k)
def delA (K : Nat) (A : LSt) (ks : List Int) : Int × LSt :=
  if ks.length ≠ K then (2, A) else match findK A ks with
    | none => (6, A)
    | some k => (0, A.eraseIdx k)
def updA (K V N : Nat) (A : LSt) (rows : List (List Int)) (ks vs : List Int) (f : Int) : Int × LSt × List (List Int) :=
  if ks.length ≠ K ∨ vs.length ≠ V ∨ 2 < f then (2, A, rows) else match findK A ks with
    | none => if f = 2 then (6, A, rows) else (0, roomyA A N ++ [(ks, leastA (roomyA A N) N)], rows.set (leastA (roomyA A N) N) vs)
    | some k => if f = 1 then (7, A, rows) else (0, youngA A k, rows.set (placeA A k) vs)
theorem enc_len (A : LSt) : (enc A).length = A.length := by simp [enc]
theorem enc_at {A : LSt} {E : List Ent} (h : pairs E = enc A) (k : Nat) : (E[k]?).map (fun e => (e.key, e.place)) = (A[k]?).map (fun x => (strOfNums x.1, x.2)) := by
  have := congrArg (fun l => l[k]?) h
  simpa [pairs, enc] using this
theorem enc_elen {A : LSt} {E : List Ent} (h : pairs E = enc A) : E.length = A.length := by
  have := congrArg List.length h
  simpa [pairs, enc] using this
theorem enc_hit {A : LSt} {E : List Ent} (h : pairs E = enc A) {ks : List Int} {k : Nat} (hf : findK A ks = some k) : ∃ e, E[k]? = some e ∧ e.key = strOfNums ks ∧ e.place = placeA A k ∧ A[k]? = some (ks, placeA A k) := by
  obtain ⟨hk, hp, -⟩ := List.findIdx?_eq_some_iff_getElem.1 hf
  simp only [decide_eq_true_eq] at hp
  have h1 := enc_at h k
  have h2 : A[k]? = some A[k] := List.getElem?_eq_getElem hk
  rw [h2] at h1
  obtain ⟨e, he, h3⟩ := Option.map_eq_some_iff.1 h1
  simp only [Prod.mk.injEq] at h3
  have h4 : placeA A k = A[k].2 := by unfold placeA; rw [h2]; rfl
  exact ⟨e, he, by rw [h3.1, hp], by rw [h3.2, h4], by rw [h2, h4, ← hp]⟩
theorem enc_miss {A : LSt} {E : List Ent} (h : pairs E = enc A) {ks : List Int} (hf : findK A ks = none) (hA : ∀ x ∈ A, ByteL x.1) (hk : ByteL ks) : ∀ e ∈ E, e.key ≠ strOfNums ks := by
  intro e he h1
  have h2 : (e.key, e.place) ∈ enc A := by rw [← h]; exact List.mem_map_of_mem (f := fun e : Ent => (e.key, e.place)) he
  obtain ⟨x, hx, h3⟩ := List.mem_map.1 h2
  simp only [Prod.mk.injEq] at h3
  have h4 := List.findIdx?_eq_none_iff.1 hf x hx
  simp only [decide_eq_false_iff_not] at h4
  exact h4 (str_inj (hA x hx) hk (by rw [h3.1, h1]))
theorem enc_erase {A : LSt} {E : List Ent} (h : pairs E = enc A) (k : Nat) : pairs (E.eraseIdx k) = enc (A.eraseIdx k) := by
  unfold pairs enc at *
  rw [ChangeMaps.map_eraseIdx, h, ChangeMaps.map_eraseIdx]
theorem enc_young {A : LSt} {E : List Ent} (h : pairs E = enc A) {k : Nat} {e : Ent} (he : E[k]? = some e) : pairs (E.eraseIdx k ++ [e]) = enc (youngA A k) := by
  have h1 := enc_at h k
  rw [he] at h1
  have h2 := enc_erase h k
  unfold youngA
  unfold pairs enc at *
  rw [List.map_append, List.map_append, h2]
  congr 1
  cases hA : A[k]? with
  | none => rw [hA] at h1; cases h1
  | some x => rw [hA] at h1; simpa using h1
theorem enc_roomy {A : LSt} {E : List Ent} (h : pairs E = enc A) (N : Nat) : pairs (roomy E N) = enc (roomyA A N) := by
  have hl := enc_elen h
  unfold roomy roomyA
  rw [hl]
  split
  · exact enc_erase h 0
  · exact h
theorem used_enc {A : LSt} {E : List Ent} (h : pairs E = enc A) (p : Nat) : usedB E p = usedA A p := by
  have h1 : E.map Ent.place = A.map (·.2) := by
    have := congrArg (List.map (·.2)) h
    simpa [pairs, enc, Function.comp_def] using this
  have e1 : usedB E p = (E.map Ent.place).any (· == p) := by simp [usedB, List.any_map, Function.comp_def]
  have e2 : usedA A p = (A.map (·.2)).any (· == p) := by simp [usedA, List.any_map, Function.comp_def]
  rw [e1, e2, h1]
theorem least_enc {A : LSt} {E : List Ent} (h : pairs E = enc A) {N p : Nat} (hl : Least E N p) : leastA A N = p := by
  obtain ⟨h1, h2, h3⟩ := hl
  unfold leastA
  have : (List.range N).find? (fun p => !usedA A p) = some p := by
    rw [List.find?_range_eq_some]
    refine ⟨by rw [← used_enc h, h2]; rfl, List.mem_range.2 h1, fun j hj => by rw [← used_enc h, h3 j hj]; rfl⟩
  rw [this]
  rfl
/-- A lru; its blocks are meant by ok. -/
def LS (w : World) (ok : Nat → Prop) (P K V N : Nat) (A : LSt) (rows : List (List Int)) : Prop := ∃ M U Rm g E, LruW w P M U Rm g K V N E rows ∧ pairs E = enc A ∧ (∀ x ∈ A, ByteL x.1) ∧ ∀ b ∈ ownL P M U Rm g N E, ok b
/-- What turns is meant by ok. -/
def Turns (ok : Nat → Prop) (w w' : World) : Prop := ∃ L, (∀ x ∈ L, ok x) ∧ But L w w'
theorem Turns.of {ok : Nat → Prop} {w w' : World} {L : List Nat} (h : But L w w') (hL : ∀ x ∈ L, ok x) : Turns ok w w' := ⟨L, hL, h⟩
theorem Turns.refl (ok : Nat → Prop) (w : World) : Turns ok w w := ⟨[], by simp, But.refl _ _⟩
theorem LS.keep {w w' : World} {ok : Nat → Prop} {P K V N : Nat} {A : LSt} {rows : List (List Int)} (h : LS w ok P K V N A rows) {L : List Nat} (hb : But L w w') (hL : ∀ x ∈ L, ¬ ok x) : LS w' ok P K V N A rows := by
  obtain ⟨M, U, Rm, g, E, h1, h2, h3, h4⟩ := h
  exact ⟨M, U, Rm, g, E, h1.but hb (fun x hx hm => hL x hm (h4 x hx)), h2, h3, h4⟩
theorem own_lru {P M U Rm : Nat} {g : Nat → Nat} {N : Nat} {E : List Ent} {x : Nat} (hx : x ∈ P :: M :: U :: bl E) : x ∈ ownL P M U Rm g N E := by
  simp only [ownL, List.mem_cons, List.mem_append] at hx ⊢
  rcases hx with hx | hx | hx | hx
  · exact .inl hx
  · exact .inr (.inl hx)
  · exact .inr (.inr (.inl hx))
  · exact .inr (.inr (.inr (.inr (.inl hx))))
theorem own_bl {P M U Rm : Nat} {g : Nat → Nat} {N : Nat} {E E' : List Ent} {ok : Nat → Prop} (h : ∀ b ∈ ownL P M U Rm g N E, ok b) (hE : ∀ e ∈ E', ok e.b) : ∀ b ∈ ownL P M U Rm g N E', ok b := fun b hb => by
  simp only [ownL, List.mem_cons, List.mem_append] at hb h
  rcases hb with hb | hb | hb | hb | hb | hb
  · exact h b (.inl hb)
  · exact h b (.inr (.inl hb))
  · exact h b (.inr (.inr (.inl hb)))
  · exact h b (.inr (.inr (.inr (.inl hb))))
  · obtain ⟨e, he, rfl⟩ := mem_bl.1 hb
    exact hE e he
  · exact h b (.inr (.inr (.inr (.inr (.inr hb)))))
theorem own_ent {P M U Rm : Nat} {g : Nat → Nat} {N : Nat} {E : List Ent} {ok : Nat → Prop} (h : ∀ b ∈ ownL P M U Rm g N E, ok b) : ∀ e ∈ E, ok e.b := fun e he => h _ (own_lru (by simp only [List.mem_cons]; exact .inr (.inr (.inr (mem_bl.2 ⟨e, he, rfl⟩)))))
theorem young_mem {α : Type} {E : List α} {k : Nat} {e x : α} (he : E[k]? = some e) (hx : x ∈ E.eraseIdx k ++ [e]) : x ∈ E := by
  rcases List.mem_append.1 hx with h | h
  · exact List.mem_of_mem_eraseIdx h
  · obtain rfl := by simpa using h
    exact List.mem_of_getElem? he
theorem youngA_mem {A : LSt} {k : Nat} {x : List Int × Nat} (hx : x ∈ youngA A k) : x ∈ A := by
  unfold youngA at hx
  rcases List.mem_append.1 hx with h | h
  · exact List.mem_of_mem_eraseIdx h
  · rw [Option.mem_toList] at h
    exact List.mem_of_getElem? h
section
variable {w : World} {ok : Nat → Prop} {P K V N : Nat} {A : LSt} {rows : List (List Int)}
theorem LS.lookup (h : LS w ok P K V N A rows) (a : Option Addr) (c : Nat) {ks : List Int} (hs : Sees w (.slice a ks.length c) (u8s ks)) (hk : ByteL ks) :
    Calls Try.prog 11 #[.pointer (some ⟨P, 0, none⟩), .slice a ks.length c] w fun r w' => r = .returned (.tuple #[.int .i64 (lookA K A ks).1, .int .i64 (lookA K A ks).2.1]) ∧ LS w' ok P K V N (lookA K A ks).2.2 rows ∧ Turns ok w w' := by
  obtain ⟨M, U, Rm, g, E, h1, h2, h3, h4⟩ := id h
  by_cases hl : ks.length = K
  · cases hf : findK A ks with
    | none =>
      have e1 : lookA K A ks = (0, 6, A) := by unfold lookA; rw [if_neg (by simp [hl])]; simp [hf]
      rw [e1]
      have hs' := hs
      rw [hl] at hs' ⊢
      refine (h1.lookup_none a c hs' hl (enc_miss h2 hf h3 hk)).mono ?_
      rintro e w' ⟨rfl, hb⟩
      exact ⟨rfl, h.keep hb (by simp), .of hb (by simp)⟩
    | some k =>
      have e1 : lookA K A ks = (placeA A k, 0, youngA A k) := by unfold lookA; rw [if_neg (by simp [hl])]; simp [hf]
      rw [e1]
      obtain ⟨e, he, hke, hpl, -⟩ := enc_hit h2 hf
      have hs' := hs
      rw [hl] at hs' ⊢
      refine (h1.lookup_hit a c hs' he hke).mono ?_
      rintro r w' ⟨rfl, hL, hb⟩
      refine ⟨by rw [hpl], ⟨M, U, Rm, g, _, hL, enc_young h2 he, fun x hx => h3 x (youngA_mem hx), own_bl h4 (fun x hx => own_ent h4 x (young_mem he hx))⟩, .of hb (fun x hx => h4 x (own_lru ?_))⟩
      simp only [List.mem_cons] at hx ⊢
      rcases hx with hx | hx
      · exact .inl hx
      · exact .inr (.inr (.inr hx))
  · have e1 : lookA K A ks = (0, 2, A) := by unfold lookA; rw [if_pos hl]
    rw [e1]
    refine (h1.lookup_bad hl a c).mono ?_
    rintro e w' ⟨rfl, rfl⟩
    exact ⟨rfl, h, .refl _ _⟩
theorem LS.delete (h : LS w ok P K V N A rows) (a : Option Addr) (c : Nat) {ks : List Int} (hs : Sees w (.slice a ks.length c) (u8s ks)) (hk : ByteL ks) :
    Calls Try.prog 15 #[.pointer (some ⟨P, 0, none⟩), .slice a ks.length c] w fun r w' => r = .returned (.int .i64 (delA K A ks).1) ∧ LS w' ok P K V N (delA K A ks).2 rows ∧ Turns ok w w' := by
  obtain ⟨M, U, Rm, g, E, h1, h2, h3, h4⟩ := id h
  by_cases hl : ks.length = K
  · cases hf : findK A ks with
    | none =>
      have e1 : delA K A ks = (6, A) := by unfold delA; rw [if_neg (by simp [hl])]; simp [hf]
      rw [e1]
      have hs' := hs
      rw [hl] at hs' ⊢
      refine (h1.delete_none a c hs' hl (enc_miss h2 hf h3 hk)).mono ?_
      rintro e w' ⟨rfl, hb⟩
      exact ⟨rfl, h.keep hb (by simp), .of hb (by simp)⟩
    | some k =>
      have e1 : delA K A ks = (0, A.eraseIdx k) := by unfold delA; rw [if_neg (by simp [hl])]; simp [hf]
      rw [e1]
      obtain ⟨e, he, hke, hpl, -⟩ := enc_hit h2 hf
      have hs' := hs
      rw [hl] at hs' ⊢
      refine (h1.delete_hit a c hs' he hke).mono ?_
      rintro r w' ⟨rfl, hL, hb⟩
      exact ⟨rfl, ⟨M, U, Rm, g, _, hL, enc_erase h2 k, fun x hx => h3 x (List.mem_of_mem_eraseIdx hx), own_bl h4 (fun x hx => own_ent h4 x (List.mem_of_mem_eraseIdx hx))⟩, .of hb (fun x hx => h4 x (own_lru hx))⟩
  · have e1 : delA K A ks = (2, A) := by unfold delA; rw [if_pos hl]
    rw [e1]
    refine (h1.delete_bad hl a c).mono ?_
    rintro e w' ⟨rfl, rfl⟩
    exact ⟨rfl, h, .refl _ _⟩
theorem LS.update (h : LS w ok P K V N A rows) (a : Option Addr) (c : Nat) {ks : List Int} (hs : Sees w (.slice a ks.length c) (u8s ks)) (hk : ByteL ks) (vb : Option Addr) (vc : Nat) {vs : List Int} (hvs : Sees w (.slice vb vs.length vc) (u8s vs)) (hv : ByteL vs) (f : Int) (hf0 : 0 ≤ f)
    (hko : 0 < ks.length → ∀ b, (Value.slice a ks.length c).ownBlock = some b → ¬ ok b) (hvo : 0 < vs.length → ∀ b, (Value.slice vb vs.length vc).ownBlock = some b → ¬ ok b) (hK : 1 ≤ K) (hV : 1 ≤ V) (hok : ∀ b, w.heap.size ≤ b → ok b) :
    Calls Try.prog 10 #[.pointer (some ⟨P, 0, none⟩), .slice a ks.length c, .slice vb vs.length vc, .int .u64 f] w fun r w' => r = .returned (.int .i64 (updA K V N A rows ks vs f).1) ∧ LS w' ok P K V N (updA K V N A rows ks vs f).2.1 (updA K V N A rows ks vs f).2.2 ∧ Turns ok w w' := by
  obtain ⟨M, U, Rm, g, E, h1, h2, h3, h4⟩ := id h
  by_cases hl : ks.length = K
  · have hs' := hs
    rw [hl] at hs' hko
    have bad : (vs.length ≠ V ∨ 2 < f) → updA K V N A rows ks vs f = (2, A, rows) := fun hb => by unfold updA; rw [if_pos (by rcases hb with hb | hb; exact .inr (.inl hb); exact .inr (.inr hb))]
    by_cases hvl : vs.length = V
    · have hvs' := hvs
      rw [hvl] at hvs' hvo
      by_cases hf2 : 2 < f
      · rw [bad (.inr hf2), hl, hvl]
        cases hf : findK A ks with
        | none =>
          refine (h1.update_flag_miss a c hs' hl (enc_miss h2 hf h3 hk) vb vc f hf2).mono ?_
          rintro e w' ⟨rfl, hb⟩
          exact ⟨rfl, h.keep hb (by simp), .of hb (by simp)⟩
        | some k =>
          obtain ⟨e, he, hke, hpl, -⟩ := enc_hit h2 hf
          refine (h1.update_flag_hit a c hs' he hke vb vc f hf2).mono ?_
          rintro e w' ⟨rfl, hb⟩
          exact ⟨rfl, h.keep hb (by simp), .of hb (by simp)⟩
      · have hno : ¬ (ks.length ≠ K ∨ vs.length ≠ V ∨ 2 < f) := by omega
        cases hf : findK A ks with
        | none =>
          by_cases hf22 : f = 2
          · have e1 : updA K V N A rows ks vs f = (6, A, rows) := by unfold updA; rw [if_neg hno]; simp [hf, hf22]
            rw [e1, hl, hvl]
            subst hf22
            refine (h1.update_none a c hs' hl (enc_miss h2 hf h3 hk) vb vc).mono ?_
            rintro e w' ⟨rfl, hb⟩
            exact ⟨rfl, h.keep hb (by simp), .of hb (by simp)⟩
          · have e1 : updA K V N A rows ks vs f = (0, roomyA A N ++ [(ks, leastA (roomyA A N) N)], rows.set (leastA (roomyA A N) N) vs) := by unfold updA; rw [if_neg hno]; simp [hf, hf22]
            rw [e1, hl, hvl]
            refine (h1.update_new a c hs' hl (enc_miss h2 hf h3 hk) vb vc hvs' hvl hv (fun b hb hm => hvo hV b hb (h4 b hm)) (fun b hb hm => hko hK b hb (h4 b hm)) f (by omega)).mono ?_
            rintro r w' ⟨x, p, rfl, hp, hx, hL, hb⟩
            have hpp := least_enc (enc_roomy h2 N) hp
            refine ⟨rfl, ⟨M, U, Rm, g, _, by rw [hpp]; exact hL, ?_, fun y hy => ?_, own_bl h4 (fun y hy => ?_)⟩, .of hb h4⟩
            · have h5 := enc_roomy h2 N
              rw [hpp]
              unfold pairs enc at *
              rw [List.map_append, List.map_append, h5]
              rfl
            · rcases List.mem_append.1 hy with hy | hy
              · refine h3 y ?_
                unfold roomyA at hy
                split at hy
                · exact List.mem_of_mem_eraseIdx hy
                · exact hy
              · obtain rfl := by simpa using hy
                exact hk
            · rcases List.mem_append.1 hy with hy | hy
              · refine own_ent h4 y ?_
                unfold roomy at hy
                split at hy
                · exact List.mem_of_mem_eraseIdx hy
                · exact hy
              · obtain rfl := by simpa using hy
                exact hok _ hx
        | some k =>
          obtain ⟨e, he, hke, hpl, -⟩ := enc_hit h2 hf
          by_cases hf1 : f = 1
          · have e1 : updA K V N A rows ks vs f = (7, A, rows) := by unfold updA; rw [if_neg hno]; simp [hf, hf1]
            rw [e1, hl, hvl]
            subst hf1
            refine (h1.update_there a c hs' he hke vb vc).mono ?_
            rintro e w' ⟨rfl, hb⟩
            exact ⟨rfl, h.keep hb (by simp), .of hb (by simp)⟩
          · have e1 : updA K V N A rows ks vs f = (0, youngA A k, rows.set (placeA A k) vs) := by unfold updA; rw [if_neg hno]; simp [hf, hf1]
            rw [e1, hl, hvl]
            refine (h1.update_hit a c hs' he hke vb vc hvs' hvl hv (fun b hb hm => hvo hV b hb (h4 b hm)) f (by omega)).mono ?_
            rintro r w' ⟨rfl, hL, hb⟩
            exact ⟨rfl, ⟨M, U, Rm, g, _, by rw [← hpl]; exact hL, enc_young h2 he, fun x hx => h3 x (youngA_mem hx), own_bl h4 (fun x hx => own_ent h4 x (young_mem he hx))⟩, .of hb h4⟩
    · rw [bad (.inl hvl), hl]
      cases hf : findK A ks with
      | none =>
        refine (h1.update_val_miss a c hs' hl (enc_miss h2 hf h3 hk) vb _ vc hvl f).mono ?_
        rintro e w' ⟨rfl, hb⟩
        exact ⟨rfl, h.keep hb (by simp), .of hb (by simp)⟩
      | some k =>
        obtain ⟨e, he, hke, hpl, -⟩ := enc_hit h2 hf
        refine (h1.update_val_hit a c hs' he hke vb _ vc hvl f).mono ?_
        rintro e w' ⟨rfl, hb⟩
        exact ⟨rfl, h.keep hb (by simp), .of hb (by simp)⟩
  · have e1 : updA K V N A rows ks vs f = (2, A, rows) := by unfold updA; rw [if_pos (.inl hl)]
    rw [e1]
    refine (h1.update_len hl a c _ _).mono ?_
    rintro e w' ⟨rfl, rfl⟩
    exact ⟨rfl, h, .refl _ _⟩
end
theorem newLS (K V N : Nat) (w : World) (hE : specE 3 K V N = 0) (ok : Nat → Prop) (hok : ∀ b, w.heap.size ≤ b → ok b) :
    Calls Try.prog 9 #[.agg #[.int .u8 3, .int .i64 K, .int .i64 V, .int .i64 N]] w fun e w' => ∃ P, e = .returned (.tuple #[.pointer (some ⟨P, 0, none⟩), .int .i64 0]) ∧ LS w' ok P K V N [] (List.replicate N (List.replicate V 0)) ∧ But [] w w' := by
  refine (newLru K V N w hE).mono ?_
  rintro e w' ⟨P, M, U, Rm, g, rfl, h1, h2, h3⟩
  exact ⟨P, rfl, ⟨M, U, Rm, g, [], h1, rfl, (by simp), fun b hb => hok b (h3 b hb)⟩, h2⟩
end Go.Proofs.Ytifgfnifadmoaaa.M
