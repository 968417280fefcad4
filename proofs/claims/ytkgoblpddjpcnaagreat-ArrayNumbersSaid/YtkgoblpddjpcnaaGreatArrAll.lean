/-
  What an array tells, all ways in one.
-/
import Derived.Test.YtkgoblpddjpcnaaGreatArrNew
import Derived.Test.YtkgoblpddjpcnaaGreatOpen
namespace Go.Proofs.YtkgoblpddjpcnaaGreat.M
open Go.RowKit Go.Shelf
set_option linter.unusedVariables false
set_option linter.unusedSectionVars false
set_option linter.unusedSimpArgs false
def u8s (l : List Int) : List Value := l.map (.int .u8)
def InB (l : List Int) : Prop := ∀ z ∈ l, 0 ≤ z ∧ z ≤ 255
theorem u8s_len (l : List Int) : (u8s l).length = l.length := List.length_map _
theorem u8s_bytes (l : List Int) : ∀ u ∈ u8s l, ∃ n : Int, u = .int .u8 n := by
  intro u hu
  obtain ⟨n, _, rfl⟩ := List.mem_map.1 hu
  exact ⟨n, rfl⟩
def keyI : List Int → Option Int
  | [a, b, c, d] => some (keyNum a b c d)
  | _ => none
theorem keyI_four {ks : List Int} {p : Int} (h : keyI ks = some p) : ∃ a b c d, ks = [a, b, c, d] ∧ p = keyNum a b c d := by
  match ks, h with
  | [a, b, c, d], h => exact ⟨a, b, c, d, rfl, (Option.some.inj h).symm⟩
theorem keyI_not {ks : List Int} (h : keyI ks = none) : ks.length ≠ 4 := by
  match ks, h with
  | [], _ => simp
  | [_], _ => simp
  | [_, _], _ => simp
  | [_, _, _], _ => simp
  | _ :: _ :: _ :: _ :: _ :: _, _ => simp
def lookE (ents : Nat) (ks : List Int) : Int := match keyI ks with
  | none => 2
  | some p => if (ents : Int) ≤ p then 6 else 0
def lookN (ents : Nat) (ks : List Int) : Int := match keyI ks with
  | none => 0
  | some p => if (ents : Int) ≤ p then 0 else p
def updE (ents size : Nat) (ks bs : List Int) (f : Int) : Int := match keyI ks with
  | none => 2
  | some p => if bs.length ≠ size ∨ 2 < f then 2 else if (ents : Int) ≤ p then 6 else if f = 1 then 7 else 0
def updR (size : Nat) (rows : List (List Value)) (ks bs : List Int) (f : Int) : List (List Value) := match keyI ks with
  | none => rows
  | some p => if updE rows.length size ks bs f = 0 then rows.set p.toNat (u8s bs) else rows
def setE (ents size : Nat) (place off : Int) (n : Nat) : Int := if place < 0 ∨ (ents : Int) ≤ place then 6 else if off < 0 ∨ (size : Int) < off ∨ (size : Int) - off < n then 32 else 0
def setR (size : Nat) (rows : List (List Value)) (place off : Int) (bs : List Int) : List (List Value) := if setE rows.length size place off bs.length = 0 then rows.set place.toNat (splice (rows.getD place.toNat []) off.toNat (u8s bs)) else rows
def valE (ents : Nat) (place : Int) : Int := if place < 0 ∨ (ents : Int) ≤ place then 6 else 0
def valR (rows : List (List Value)) (place : Int) : List Value := if place < 0 ∨ (rows.length : Int) ≤ place then [] else rows.getD place.toNat []
theorem updR_len (size : Nat) (rows : List (List Value)) (ks bs : List Int) (f : Int) : (updR size rows ks bs f).length = rows.length := by
  unfold updR
  split
  · rfl
  · split
    · simp
    · rfl
theorem setR_len (size : Nat) (rows : List (List Value)) (place off : Int) (bs : List Int) : (setR size rows place off bs).length = rows.length := by
  unfold setR
  split
  · simp
  · rfl
theorem key_of {w : World} {s : Value} {a b c d : Int} (hs : Sees w s (u8s [a, b, c, d])) : ∃ ad cc, s = .slice (some ad) 4 cc ∧ KeyIn w ad a b c d := by
  rcases hs with ⟨_, h⟩ | ⟨ad, cc, rfl, hc, hx⟩
  · cases h
  · exact ⟨ad, cc, rfl, ⟨fun j u hj => hx j _ (by
      show (List.map _ _)[j]? = _
      rw [List.getElem?_map, hj]; rfl)⟩⟩
theorem form_of {w : World} {s : Value} {xs : List Value} (hs : Sees w s xs) : ∃ a c, s = .slice a xs.length c := by
  obtain ⟨a, c, e, _⟩ := sees_shape hs
  exact ⟨a, c, e⟩
theorem sumK_key {a b c d : Int} (h : InB [a, b, c, d]) : sumK (keyItems a b c d) = keyNum a b c d ∧ 0 ≤ keyNum a b c d := by
  have h0 := h a (by simp); have h1 := h b (by simp); have h2 := h c (by simp); have h3 := h d (by simp)
  exact ⟨sumK_num h0 h1 h2 h3, by unfold keyNum; omega⟩
theorem calls_ret {P : Program} {k : FuncId} {args : Array Value} {w : World} {v v' : Value} {R : World → Prop} (h : Calls P k args w fun e w' => e = .returned v ∧ R w') (hv : v = v') : Calls P k args w fun e w' => e = .returned v' ∧ R w' := by
  subst hv; exact h
section
variable {w : World} {ok : Nat → Prop} {A size : Nat} {rows : List (List Value)}
theorem lookup_all (h : ArrS w ok A size rows) (s : Value) (ks : List Int) (hs : Sees w s (u8s ks)) (hb : InB ks) :
    Calls Tryz.prog 15 #[.pointer (some ⟨A, 0, none⟩), s] w fun e w' => e = .returned (.tuple #[.int .i64 (lookN rows.length ks), .int .i64 (lookE rows.length ks)]) ∧ But [] w w' := by
  cases hk : keyI ks with
  | none =>
    obtain ⟨a, c, rfl⟩ := form_of hs
    simp only [lookN, lookE, hk]
    exact lookup_bad h a _ c (by rw [u8s_len]; exact keyI_not hk)
  | some p =>
    obtain ⟨a, b, c, d, rfl, rfl⟩ := keyI_four hk
    obtain ⟨ad, cc, rfl, hK⟩ := key_of hs
    obtain ⟨hsum, h0⟩ := sumK_key hb
    simp only [lookN, lookE, hk]
    by_cases hp : (rows.length : Int) ≤ keyNum a b c d
    · rw [if_pos hp, if_pos hp]
      exact lookup_none h ad cc a b c d hK (.inr (by rw [hsum]; exact hp))
    · rw [if_neg hp, if_neg hp]
      refine calls_ret (lookup_ok h ad cc a b c d hK (keyNum a b c d).toNat (by rw [hsum]; omega) (by omega)) ?_
      rw [Int.toNat_of_nonneg h0]
theorem update_all (h : ArrS w ok A size rows) (s t : Value) (ks bs : List Int) (f : Int) (hs : Sees w s (u8s ks)) (hb : InB ks) (ht : Sees w t (u8s bs)) :
    Calls Tryz.prog 16 #[.pointer (some ⟨A, 0, none⟩), s, t, .int .u64 f] w fun e w' => e = .returned (.int .i64 (updE rows.length size ks bs f)) ∧ ArrS w' ok A size (updR size rows ks bs f) ∧ ∃ L, (∀ x ∈ L, ok x) ∧ But L w w' := by
  obtain ⟨a1, c1, rfl⟩ := form_of ht
  have none' : ∀ {v : Value}, Calls Tryz.prog 16 #[.pointer (some ⟨A, 0, none⟩), s, .slice a1 (u8s bs).length c1, .int .u64 f] w (fun e w' => e = .returned v ∧ But [] w w') → v = .int .i64 (updE rows.length size ks bs f) → updE rows.length size ks bs f ≠ 0 → Calls Tryz.prog 16 #[.pointer (some ⟨A, 0, none⟩), s, .slice a1 (u8s bs).length c1, .int .u64 f] w fun e w' => e = .returned (.int .i64 (updE rows.length size ks bs f)) ∧ ArrS w' ok A size (updR size rows ks bs f) ∧ ∃ L, (∀ x ∈ L, ok x) ∧ But L w w' := fun {v} hc hv h0 => by
    subst hv
    refine hc.mono fun e w' ⟨he, hb⟩ => ⟨he, ?_, [], by simp, hb⟩
    have : updR size rows ks bs f = rows := by
      unfold updR
      split
      · rfl
      · rw [if_neg h0]
    rw [this]
    exact h.keep hb (by simp)
  cases hk : keyI ks with
  | none =>
    obtain ⟨a, c, rfl⟩ := form_of hs
    refine none' (update_bad h a a1 _ c _ c1 f (by rw [u8s_len]; exact keyI_not hk)) ?_ ?_
    · simp only [updE, hk]
    · simp only [updE, hk]; decide
  | some p =>
    obtain ⟨a, b, c, d, rfl, rfl⟩ := keyI_four hk
    obtain ⟨ad, cc, rfl, hK⟩ := key_of hs
    obtain ⟨hsum, h0⟩ := sumK_key hb
    by_cases hx : bs.length ≠ size ∨ 2 < f
    · have e : updE rows.length size [a, b, c, d] bs f = 2 := by simp only [updE, hk]; rw [if_pos hx]
      refine none' (update_arg h ad cc a b c d hK (by rw [u8s_len]; exact hx)) (by rw [e]) (by rw [e]; decide)
    · by_cases hp : (rows.length : Int) ≤ keyNum a b c d
      · have e : updE rows.length size [a, b, c, d] bs f = 6 := by simp only [updE, hk]; rw [if_neg hx, if_pos hp]
        refine none' (update_none h ad cc a b c d hK (by rw [u8s_len]; omega) (by omega) (.inr (by rw [hsum]; exact hp))) (by rw [e]) (by rw [e]; decide)
      · by_cases hf : f = 1
        · have e : updE rows.length size [a, b, c, d] bs f = 7 := by simp only [updE, hk]; rw [if_neg hx, if_neg hp, if_pos hf]
          subst hf
          refine none' (update_there h ad cc a b c d hK (by rw [u8s_len]; omega) (keyNum a b c d).toNat (by rw [hsum]; omega) (by omega)) (by rw [e]) (by rw [e]; decide)
        · have e : updE rows.length size [a, b, c, d] bs f = 0 := by simp only [updE, hk]; rw [if_neg hx, if_neg hp, if_neg hf]
          have e2 : updR size rows [a, b, c, d] bs f = rows.set (keyNum a b c d).toNat (u8s bs) := by simp only [updR, hk]; rw [if_pos e]
          rw [e, e2]
          refine (update_ok h ad cc a b c d hK (by rw [u8s_len]; omega) (by omega) hf (keyNum a b c d).toNat (by rw [hsum]; omega) (by omega) ht (by rw [u8s_len]; omega) (u8s_bytes bs)).mono ?_
          rintro e w' ⟨he, hA, g, hg, hb⟩
          exact ⟨he, hA, [g], by simpa using hg, hb⟩
theorem set_all (h : ArrS w ok A size rows) (place off : Int) (t : Value) (bs : List Int) (ht : Sees w t (u8s bs)) :
    Calls Tryz.prog 17 #[.pointer (some ⟨A, 0, none⟩), .int .i64 place, .int .i64 off, t] w fun e w' => e = .returned (.int .i64 (setE rows.length size place off bs.length)) ∧ ArrS w' ok A size (setR size rows place off bs) ∧ ∃ L, (∀ x ∈ L, ok x) ∧ But L w w' := by
  obtain ⟨a1, c1, rfl⟩ := form_of ht
  have none' : ∀ {v : Value}, Calls Tryz.prog 17 #[.pointer (some ⟨A, 0, none⟩), .int .i64 place, .int .i64 off, .slice a1 (u8s bs).length c1] w (fun e w' => e = .returned v ∧ But [] w w') → v = .int .i64 (setE rows.length size place off bs.length) → setE rows.length size place off bs.length ≠ 0 → Calls Tryz.prog 17 #[.pointer (some ⟨A, 0, none⟩), .int .i64 place, .int .i64 off, .slice a1 (u8s bs).length c1] w fun e w' => e = .returned (.int .i64 (setE rows.length size place off bs.length)) ∧ ArrS w' ok A size (setR size rows place off bs) ∧ ∃ L, (∀ x ∈ L, ok x) ∧ But L w w' := fun {v} hc hv h0 => by
    subst hv
    refine hc.mono fun e w' ⟨he, hb⟩ => ⟨he, ?_, [], by simp, hb⟩
    have : setR size rows place off bs = rows := by
      unfold setR
      rw [if_neg h0]
    rw [this]
    exact h.keep hb (by simp)
  by_cases hp : place < 0 ∨ (rows.length : Int) ≤ place
  · have e : setE rows.length size place off bs.length = 6 := by simp only [setE]; rw [if_pos hp]
    exact none' (set_none h place off a1 _ c1 hp) (by rw [e]) (by rw [e]; decide)
  · obtain ⟨j, rfl⟩ : ∃ j : Nat, place = (j : Int) := ⟨place.toNat, by omega⟩
    have hj : j < rows.length := by omega
    by_cases hf : off < 0 ∨ (size : Int) < off ∨ (size : Int) - off < bs.length
    · have e : setE rows.length size j off bs.length = 32 := by simp only [setE]; rw [if_neg hp, if_pos hf]
      refine none' (v := .int .i64 32) ?_ (by rw [e]) (by rw [e]; decide)
      by_cases f0 : off < 0
      · exact set_boundsA h j hj off a1 _ c1 f0
      · by_cases f1 : (size : Int) < off
        · exact set_boundsB h j hj off a1 _ c1 (by omega) f1
        · exact set_boundsC h j hj off a1 _ c1 (by omega) (by omega) (by rw [u8s_len]; omega)
    · have e : setE rows.length size j off bs.length = 0 := by simp only [setE]; rw [if_neg hp, if_neg hf]
      obtain ⟨k, rfl⟩ : ∃ k : Nat, off = (k : Int) := ⟨off.toNat, by omega⟩
      obtain ⟨r, hr⟩ : ∃ r, rows[j]? = some r := ⟨_, List.getElem?_eq_getElem hj⟩
      have e2 : setR size rows j k bs = rows.set j (splice r k (u8s bs)) := by
        simp only [setR]
        rw [if_pos e]
        simp only [Int.toNat_natCast, List.getD, hr, Option.getD_some]
      rw [e, e2]
      refine (set_ok h j r hr k a1 _ c1 (by rw [u8s_len]; omega) ht rfl (u8s_bytes bs)).mono ?_
      rintro e w' ⟨he, hA, g, hg, hb⟩
      exact ⟨he, hA, [g], by simpa using hg, hb⟩
theorem value_all (h : ArrS w ok A size rows) (place : Int) :
    Calls Tryz.prog 10 #[.pointer (some ⟨A, 0, none⟩), .int .i64 place] w fun e w' => ∃ a c, e = .returned (.tuple #[.slice a (valR rows place).length c, .int .i64 (valE rows.length place)]) ∧ OwnQ w' 5 (.slice a (valR rows place).length c) (valR rows place) ∧ (∀ b, (Value.slice a (valR rows place).length c).ownBlock = some b → w.heap.size ≤ b) ∧ But [] w w' := by
  by_cases hp : place < 0 ∨ (rows.length : Int) ≤ place
  · have e1 : valR rows place = [] := by simp only [valR]; rw [if_pos hp]
    have e2 : valE rows.length place = 6 := by simp only [valE]; rw [if_pos hp]
    rw [e1, e2]
    refine (value_none h place hp).mono ?_
    rintro e w' ⟨rfl, hb⟩
    exact ⟨none, 0, rfl, OwnQ.nil _ _, (fun b hb => by cases hb), hb⟩
  · obtain ⟨j, rfl⟩ : ∃ j : Nat, place = (j : Int) := ⟨place.toNat, by omega⟩
    obtain ⟨r, hr⟩ : ∃ r, rows[j]? = some r := ⟨_, List.getElem?_eq_getElem (by omega)⟩
    have e1 : valR rows (j : Int) = r := by
      simp only [valR]
      rw [if_neg hp]
      simp only [Int.toNat_natCast, List.getD, hr, Option.getD_some]
    have e2 : valE rows.length (j : Int) = 0 := by simp only [valE]; rw [if_neg hp]
    have hl := (h.each r (List.mem_of_getElem? hr)).2
    rw [e1, e2, hl]
    exact value_ok h j r hr
end
end Go.Proofs.YtkgoblpddjpcnaaGreat.M
