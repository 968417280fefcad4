/-
  refine.rules.
-/
import Derived.Test.YtmbmmcippglfoaaBoth
namespace Go.Proofs.Ytmbmmcippglfoaa.M
open Go.RowKit Go.Shelf
set_option linter.unusedVariables false
set_option linter.unusedSectionVars false
set_option linter.unusedSimpArgs false

def Row2 (v : Value) (f0 f1 : Sc → Sc → Option Sc) (W : World) : Prop := ∃ b o c v0 v1, v = .slice (some ⟨b, o, none⟩) 2 c ∧ W.cell? ⟨b, o, none⟩ = some v0 ∧ W.cell? ⟨b, o + 1, none⟩ = some v1 ∧ RuleV v0 f0 W ∧ RuleV v1 f1 W
theorem Row2.keep {v : Value} {f0 f1 : Sc → Sc → Option Sc} {W W' : World} (h : Row2 v f0 f1 W) (k : KC W W') : Row2 v f0 f1 W' := by
  obtain ⟨b, o, c, v0, v1, h1, h2, h3, h4, h5⟩ := h
  exact ⟨b, o, c, v0, v1, h1, k _ _ h2, k _ _ h3, h4.keep k, h5.keep k⟩
/-- The table, as far as it is filled. -/
def Tab (w0 W : World) (M : Nat) (ops : List Nat) : Prop := ∃ es clock ps, W.heap[M]? = some (.map es clock) ∧ EntsK .u8 es ps ∧ ps.map (·.1) = ops.map (fun n => ((n : Nat) : Int)) ∧ (∀ p ∈ ps, ∃ op : Nat, p.1 = (op : Int) ∧ Row2 p.2 (ruleT op false) (ruleT op true) W) ∧ (∀ n ∈ ops, n < 256) ∧ But [] w0 W ∧ w0.heap.size ≤ M
theorem Tab.but {w0 W W' : World} {M : Nat} {ops : List Nat} (h : Tab w0 W M ops) (hb : But [] W W') : Tab w0 W' M ops := by
  obtain ⟨es, clock, ps, h1, h2, h3, h4, h5, h6, h7⟩ := h
  exact ⟨es, clock, ps, hb.heap h1 (by simp), h2, h3, fun p hp => by obtain ⟨op, e, r⟩ := h4 p hp; exact ⟨op, e, r.keep (KC.of_but hb)⟩, h5, h6.trans hb (by simp), h7⟩
theorem u8_wf (n : Nat) (h : n < 256) : (Lit.int .u8 (n : Int)).wf = true := by
  have e1 : IntKind.u8.min = 0 := rfl
  have e2 : IntKind.u8.max = 255 := rfl
  simp only [Lit.wf, Bool.and_eq_true, decide_eq_true_eq]
  exact ⟨by omega, by omega⟩
theorem tab_wf {ops : List Nat} {ps : List (Int × Value)} (h3 : ps.map (·.1) = ops.map (fun n => ((n : Nat) : Int))) (h5 : ∀ n ∈ ops, n < 256) : ∀ p ∈ ps, (Lit.int .u8 p.1).wf = true := fun p hp => by
  have : p.1 ∈ ps.map (·.1) := List.mem_map.2 ⟨p, hp, rfl⟩
  rw [h3] at this
  obtain ⟨n, hn, e⟩ := List.mem_map.1 this
  rw [← e]
  exact u8_wf n (h5 n hn)
theorem Tab.ins {w0 W : World} {M : Nat} {ops : List Nat} (h : Tab w0 W M ops) (op : Nat) (hop : op < 256) (hne : op ∉ ops) (v : Value) (hr : Row2 v (ruleT op false) (ruleT op true) W) : ∃ W2, (Instr.mapUpdate 61 (.map (some M)) (.int .u8 (op : Int)) v).run Try.prog W = .ok () W2 ∧ Tab w0 W2 M (ops ++ [op]) := by
  obtain ⟨es, clock, ps, h1, h2, h3, h4, h5, h6, h7⟩ := h
  have hw := tab_wf h3 h5
  have hn' : ∀ p ∈ ps, p.1 ≠ (op : Int) := fun p hp e => by
    have : p.1 ∈ ps.map (·.1) := List.mem_map.2 ⟨p, hp, rfl⟩
    rw [h3] at this
    obtain ⟨n, hn, e2⟩ := List.mem_map.1 this
    have : n = op := by have := e2.trans e; omega
    exact hne (this ▸ hn)
  obtain ⟨a, b⟩ := mapU_ins (P := Try.prog) (K := 5) (E := 60) (T := 61) Try.underlying5 Try.underlying61 h1 h2 hw (u8_wf op hop) hn' v
  have k := KC.setBlock h1 (.map (es.push ⟨.int .u8 (op : Int), v, clock⟩) (clock + 1))
  refine ⟨_, a, es.push ⟨.int .u8 (op : Int), v, clock⟩, clock + 1, ps ++ [((op : Int), v)], ?_, b, by simp [h3], ?_, ?_, h6.setBlock h1 (.inr h7) _, h7⟩
  · simp only [ChangeMaps.setBlock]
    have hl := lt_of h1
    simp [Array.getElem?_setIfInBounds_self_of_lt, hl]
  · intro p hp
    rcases List.mem_append.1 hp with hp | hp
    · obtain ⟨q, e, r⟩ := h4 p hp
      exact ⟨q, e, r.keep k⟩
    · simp only [List.mem_singleton] at hp
      subst hp
      exact ⟨op, rfl, hr.keep k⟩
  · intro n hn
    rcases List.mem_append.1 hn with hn | hn
    · exact h5 n hn
    · simp only [List.mem_singleton] at hn; omega
theorem Tab.get {w0 W : World} {M : Nat} {ops : List Nat} (h : Tab w0 W M ops) (hd : ops.Nodup) (op : Nat) (hop : op ∈ ops) : ∃ v, (Instr.lookup 61 (.map (some M)) (.int .u8 (op : Int)) false).run Try.prog W = .ok v W ∧ Row2 v (ruleT op false) (ruleT op true) W := by
  obtain ⟨es, clock, ps, h1, h2, h3, h4, h5, h6, h7⟩ := h
  have hw := tab_wf h3 h5
  have hm : (op : Int) ∈ ps.map (·.1) := by rw [h3]; exact List.mem_map.2 ⟨op, hop, rfl⟩
  obtain ⟨p, hp, e⟩ := List.mem_map.1 hm
  have hdd : (ps.map (·.1)).Nodup := by
    rw [h3]
    exact List.Pairwise.map _ (fun a b hab => by intro e; exact hab (by exact_mod_cast e)) hd
  obtain ⟨q, e2, r⟩ := h4 p hp
  have : q = op := by have := e2.symm.trans e; omega
  subst this
  exact ⟨p.2, mapU_get (P := Try.prog) (K := 5) (E := 60) (T := 61) Try.underlying5 Try.underlying61 h1 h2 hw (u8_wf q (h5 q hop)) (by rw [← e2]; exact hp) hdd, r⟩
def allOps : List Nat := [16, 80, 64, 1, 160, 176, 32, 48, 192, 208, 96, 112]
set_option maxRecDepth 100000 in
set_option maxHeartbeats 8000000 in
theorem rules_c (w : World) : Calls Try.prog 27 #[] w fun e w' => ∃ M, e = .returned (.map (some M)) ∧ Tab w w' M allOps := by
  have hmm := @run_makeMap Try.prog
  have HT : Hid (∀ c, Tab w (w.alloc (.map #[] c)) w.heap.size []) := Lib.hid (fun c => ⟨#[], c, [], al_at _ _, rfl, rfl, by simp, by simp, (But.refl _ _).alloc _, Nat.le_refl _⟩)
  go_enter Try.func27, Try.ntmps27
  go_wp2_with fail
  refine (both1 (.func (.func 51) #[] #[]) rfl _ _ ?_).mono ?_
  · exact al_eq _ _ _ (by first | rfl | simp only [size_alloc])
  rintro e w2 ⟨b, o, c, rfl, h0, h1, _, hb⟩
  obtain ⟨w3, hins0, hT⟩ := ((HT.out _).but (((But.refl [] _).alloc _).trans hb (by simp))).ins 16 (by decide) (by decide) _ ⟨b, o, c, _, _, rfl, h0, h1, meetV _, meetV _⟩
  have hins : (Instr.mapUpdate 61 (.map (some w.heap.size)) (.int .u8 16) (.slice (some ⟨b, o, none⟩) 2 c)).run Try.prog w2 = .ok () w3 := hins0
  clear hins0
  have HT := Lib.hid hT
  clear h0 h1 hb hT
  go_wp2_with fail
  clear hins
  refine (both1 (.func (.func 52) #[] #[]) rfl _ _ ?_).mono ?_
  · exact al_eq _ _ _ (by first | rfl | simp only [size_alloc])
  rintro e w2 ⟨b, o, c, rfl, h0, h1, _, hb⟩
  obtain ⟨w3, hins0, hT⟩ := ((HT.out).but (((But.refl [] _).alloc _).trans hb (by simp))).ins 80 (by decide) (by decide) _ ⟨b, o, c, _, _, rfl, h0, h1, otherV _, otherV _⟩
  have hins : (Instr.mapUpdate 61 (.map (some w.heap.size)) (.int .u8 80) (.slice (some ⟨b, o, none⟩) 2 c)).run Try.prog w2 = .ok () w3 := hins0
  clear hins0
  have HT := Lib.hid hT
  clear h0 h1 hb hT
  go_wp2_with fail
  clear hins
  refine (both1 (.func (.func 53) #[] #[]) rfl _ _ ?_).mono ?_
  · exact al_eq _ _ _ (by first | rfl | simp only [size_alloc])
  rintro e w2 ⟨b, o, c, rfl, h0, h1, _, hb⟩
  obtain ⟨w3, hins0, hT⟩ := ((HT.out).but (((But.refl [] _).alloc _).trans hb (by simp))).ins 64 (by decide) (by decide) _ ⟨b, o, c, _, _, rfl, h0, h1, someV _, someV _⟩
  have hins : (Instr.mapUpdate 61 (.map (some w.heap.size)) (.int .u8 64) (.slice (some ⟨b, o, none⟩) 2 c)).run Try.prog w2 = .ok () w3 := hins0
  clear hins0
  have HT := Lib.hid hT
  clear h0 h1 hb hT
  go_wp2_with fail
  clear hins
  refine (both1 (.func (.func 48) #[] #[]) rfl _ _ ?_).mono ?_
  · exact al_eq _ _ _ (by first | rfl | simp only [size_alloc])
  rintro e w2 ⟨b, o, c, rfl, h0, h1, _, hb⟩
  obtain ⟨w3, hins0, hT⟩ := ((HT.out).but (((But.refl [] _).alloc _).trans hb (by simp))).ins 1 (by decide) (by decide) _ ⟨b, o, c, _, _, rfl, h0, h1, noneV _, noneV _⟩
  have hins : (Instr.mapUpdate 61 (.map (some w.heap.size)) (.int .u8 1) (.slice (some ⟨b, o, none⟩) 2 c)).run Try.prog w2 = .ok () w3 := hins0
  clear hins0
  have HT := Lib.hid hT
  clear h0 h1 hb hT
  go_wp2_with fail
  clear hins
  refine (lowM false _).mono ?_
  rintro e w4 ⟨k1, rfl, hk1, hb4⟩
  have HK1 := Lib.hid hk1
  have HB4 := Lib.hid hb4
  clear hk1 hb4
  go_wp2_with fail
  refine (uppM false _).mono ?_
  rintro e w5 ⟨k2, rfl, hk2, hb5⟩
  have HK2 := Lib.hid hk2
  have HB5 := Lib.hid hb5
  clear hk2 hb5
  go_wp2_with fail
  refine (both2 (.func (.func 91) #[] #[.pointer (some ⟨k1, 0, none⟩)]) (.func (.func 93) #[] #[.pointer (some ⟨k2, 0, none⟩)]) rfl rfl _ _ ?_).mono ?_
  · exact al_eq _ _ _ (by first | rfl | simp only [size_alloc])
  rintro e w2 ⟨b, o, c, rfl, h0, h1, _, hb⟩
  have hb5 := ((But.refl [] w5).alloc _).trans hb (by simp)
  obtain ⟨w3, hins0, hT⟩ := (((HT.out.but HB4.out).but HB5.out).but hb5).ins 160 (by decide) (by decide) _ ⟨b, o, c, _, _, rfl, h0, h1, lowV false k1 _ (KC.of_but hb5 _ _ (KC.of_but HB5.out _ _ HK1.out)), uppV false k2 _ (KC.of_but hb5 _ _ HK2.out)⟩
  have hins : (Instr.mapUpdate 61 (.map (some w.heap.size)) (.int .u8 160) (.slice (some ⟨b, o, none⟩) 2 c)).run Try.prog w2 = .ok () w3 := hins0
  clear hins0
  have HT := Lib.hid hT
  clear h0 h1 hb hb5 hT
  go_wp2_with fail
  clear hins
  refine (lowM true _).mono ?_
  rintro e w4 ⟨k1, rfl, hk1, hb4⟩
  have HK1 := Lib.hid hk1
  have HB4 := Lib.hid hb4
  clear hk1 hb4
  go_wp2_with fail
  refine (uppM true _).mono ?_
  rintro e w5 ⟨k2, rfl, hk2, hb5⟩
  have HK2 := Lib.hid hk2
  have HB5 := Lib.hid hb5
  clear hk2 hb5
  go_wp2_with fail
  refine (both2 (.func (.func 91) #[] #[.pointer (some ⟨k1, 0, none⟩)]) (.func (.func 93) #[] #[.pointer (some ⟨k2, 0, none⟩)]) rfl rfl _ _ ?_).mono ?_
  · exact al_eq _ _ _ (by first | rfl | simp only [size_alloc])
  rintro e w2 ⟨b, o, c, rfl, h0, h1, _, hb⟩
  have hb5 := ((But.refl [] w5).alloc _).trans hb (by simp)
  obtain ⟨w3, hins0, hT⟩ := (((HT.out.but HB4.out).but HB5.out).but hb5).ins 176 (by decide) (by decide) _ ⟨b, o, c, _, _, rfl, h0, h1, lowV true k1 _ (KC.of_but hb5 _ _ (KC.of_but HB5.out _ _ HK1.out)), uppV true k2 _ (KC.of_but hb5 _ _ HK2.out)⟩
  have hins : (Instr.mapUpdate 61 (.map (some w.heap.size)) (.int .u8 176) (.slice (some ⟨b, o, none⟩) 2 c)).run Try.prog w2 = .ok () w3 := hins0
  clear hins0
  have HT := Lib.hid hT
  clear h0 h1 hb hb5 hT
  go_wp2_with fail
  clear hins
  refine (uppM false _).mono ?_
  rintro e w4 ⟨k1, rfl, hk1, hb4⟩
  have HK1 := Lib.hid hk1
  have HB4 := Lib.hid hb4
  clear hk1 hb4
  go_wp2_with fail
  refine (lowM false _).mono ?_
  rintro e w5 ⟨k2, rfl, hk2, hb5⟩
  have HK2 := Lib.hid hk2
  have HB5 := Lib.hid hb5
  clear hk2 hb5
  go_wp2_with fail
  refine (both2 (.func (.func 93) #[] #[.pointer (some ⟨k1, 0, none⟩)]) (.func (.func 91) #[] #[.pointer (some ⟨k2, 0, none⟩)]) rfl rfl _ _ ?_).mono ?_
  · exact al_eq _ _ _ (by first | rfl | simp only [size_alloc])
  rintro e w2 ⟨b, o, c, rfl, h0, h1, _, hb⟩
  have hb5 := ((But.refl [] w5).alloc _).trans hb (by simp)
  obtain ⟨w3, hins0, hT⟩ := (((HT.out.but HB4.out).but HB5.out).but hb5).ins 32 (by decide) (by decide) _ ⟨b, o, c, _, _, rfl, h0, h1, uppV false k1 _ (KC.of_but hb5 _ _ (KC.of_but HB5.out _ _ HK1.out)), lowV false k2 _ (KC.of_but hb5 _ _ HK2.out)⟩
  have hins : (Instr.mapUpdate 61 (.map (some w.heap.size)) (.int .u8 32) (.slice (some ⟨b, o, none⟩) 2 c)).run Try.prog w2 = .ok () w3 := hins0
  clear hins0
  have HT := Lib.hid hT
  clear h0 h1 hb hb5 hT
  go_wp2_with fail
  clear hins
  refine (uppM true _).mono ?_
  rintro e w4 ⟨k1, rfl, hk1, hb4⟩
  have HK1 := Lib.hid hk1
  have HB4 := Lib.hid hb4
  clear hk1 hb4
  go_wp2_with fail
  refine (lowM true _).mono ?_
  rintro e w5 ⟨k2, rfl, hk2, hb5⟩
  have HK2 := Lib.hid hk2
  have HB5 := Lib.hid hb5
  clear hk2 hb5
  go_wp2_with fail
  refine (both2 (.func (.func 93) #[] #[.pointer (some ⟨k1, 0, none⟩)]) (.func (.func 91) #[] #[.pointer (some ⟨k2, 0, none⟩)]) rfl rfl _ _ ?_).mono ?_
  · exact al_eq _ _ _ (by first | rfl | simp only [size_alloc])
  rintro e w2 ⟨b, o, c, rfl, h0, h1, _, hb⟩
  have hb5 := ((But.refl [] w5).alloc _).trans hb (by simp)
  obtain ⟨w3, hins0, hT⟩ := (((HT.out.but HB4.out).but HB5.out).but hb5).ins 48 (by decide) (by decide) _ ⟨b, o, c, _, _, rfl, h0, h1, uppV true k1 _ (KC.of_but hb5 _ _ (KC.of_but HB5.out _ _ HK1.out)), lowV true k2 _ (KC.of_but hb5 _ _ HK2.out)⟩
  have hins : (Instr.mapUpdate 61 (.map (some w.heap.size)) (.int .u8 48) (.slice (some ⟨b, o, none⟩) 2 c)).run Try.prog w2 = .ok () w3 := hins0
  clear hins0
  have HT := Lib.hid hT
  clear h0 h1 hb hb5 hT
  go_wp2_with fail
  clear hins
  refine (lesM false _).mono ?_
  rintro e w4 ⟨k1, rfl, hk1, hb4⟩
  have HK1 := Lib.hid hk1
  have HB4 := Lib.hid hb4
  clear hk1 hb4
  go_wp2_with fail
  refine (morM false _).mono ?_
  rintro e w5 ⟨k2, rfl, hk2, hb5⟩
  have HK2 := Lib.hid hk2
  have HB5 := Lib.hid hb5
  clear hk2 hb5
  go_wp2_with fail
  refine (both2 (.func (.func 95) #[] #[.pointer (some ⟨k1, 0, none⟩)]) (.func (.func 97) #[] #[.pointer (some ⟨k2, 0, none⟩)]) rfl rfl _ _ ?_).mono ?_
  · exact al_eq _ _ _ (by first | rfl | simp only [size_alloc])
  rintro e w2 ⟨b, o, c, rfl, h0, h1, _, hb⟩
  have hb5 := ((But.refl [] w5).alloc _).trans hb (by simp)
  obtain ⟨w3, hins0, hT⟩ := (((HT.out.but HB4.out).but HB5.out).but hb5).ins 192 (by decide) (by decide) _ ⟨b, o, c, _, _, rfl, h0, h1, lesV false k1 _ (KC.of_but hb5 _ _ (KC.of_but HB5.out _ _ HK1.out)), morV false k2 _ (KC.of_but hb5 _ _ HK2.out)⟩
  have hins : (Instr.mapUpdate 61 (.map (some w.heap.size)) (.int .u8 192) (.slice (some ⟨b, o, none⟩) 2 c)).run Try.prog w2 = .ok () w3 := hins0
  clear hins0
  have HT := Lib.hid hT
  clear h0 h1 hb hb5 hT
  go_wp2_with fail
  clear hins
  refine (lesM true _).mono ?_
  rintro e w4 ⟨k1, rfl, hk1, hb4⟩
  have HK1 := Lib.hid hk1
  have HB4 := Lib.hid hb4
  clear hk1 hb4
  go_wp2_with fail
  refine (morM true _).mono ?_
  rintro e w5 ⟨k2, rfl, hk2, hb5⟩
  have HK2 := Lib.hid hk2
  have HB5 := Lib.hid hb5
  clear hk2 hb5
  go_wp2_with fail
  refine (both2 (.func (.func 95) #[] #[.pointer (some ⟨k1, 0, none⟩)]) (.func (.func 97) #[] #[.pointer (some ⟨k2, 0, none⟩)]) rfl rfl _ _ ?_).mono ?_
  · exact al_eq _ _ _ (by first | rfl | simp only [size_alloc])
  rintro e w2 ⟨b, o, c, rfl, h0, h1, _, hb⟩
  have hb5 := ((But.refl [] w5).alloc _).trans hb (by simp)
  obtain ⟨w3, hins0, hT⟩ := (((HT.out.but HB4.out).but HB5.out).but hb5).ins 208 (by decide) (by decide) _ ⟨b, o, c, _, _, rfl, h0, h1, lesV true k1 _ (KC.of_but hb5 _ _ (KC.of_but HB5.out _ _ HK1.out)), morV true k2 _ (KC.of_but hb5 _ _ HK2.out)⟩
  have hins : (Instr.mapUpdate 61 (.map (some w.heap.size)) (.int .u8 208) (.slice (some ⟨b, o, none⟩) 2 c)).run Try.prog w2 = .ok () w3 := hins0
  clear hins0
  have HT := Lib.hid hT
  clear h0 h1 hb hb5 hT
  go_wp2_with fail
  clear hins
  refine (morM false _).mono ?_
  rintro e w4 ⟨k1, rfl, hk1, hb4⟩
  have HK1 := Lib.hid hk1
  have HB4 := Lib.hid hb4
  clear hk1 hb4
  go_wp2_with fail
  refine (lesM false _).mono ?_
  rintro e w5 ⟨k2, rfl, hk2, hb5⟩
  have HK2 := Lib.hid hk2
  have HB5 := Lib.hid hb5
  clear hk2 hb5
  go_wp2_with fail
  refine (both2 (.func (.func 97) #[] #[.pointer (some ⟨k1, 0, none⟩)]) (.func (.func 95) #[] #[.pointer (some ⟨k2, 0, none⟩)]) rfl rfl _ _ ?_).mono ?_
  · exact al_eq _ _ _ (by first | rfl | simp only [size_alloc])
  rintro e w2 ⟨b, o, c, rfl, h0, h1, _, hb⟩
  have hb5 := ((But.refl [] w5).alloc _).trans hb (by simp)
  obtain ⟨w3, hins0, hT⟩ := (((HT.out.but HB4.out).but HB5.out).but hb5).ins 96 (by decide) (by decide) _ ⟨b, o, c, _, _, rfl, h0, h1, morV false k1 _ (KC.of_but hb5 _ _ (KC.of_but HB5.out _ _ HK1.out)), lesV false k2 _ (KC.of_but hb5 _ _ HK2.out)⟩
  have hins : (Instr.mapUpdate 61 (.map (some w.heap.size)) (.int .u8 96) (.slice (some ⟨b, o, none⟩) 2 c)).run Try.prog w2 = .ok () w3 := hins0
  clear hins0
  have HT := Lib.hid hT
  clear h0 h1 hb hb5 hT
  go_wp2_with fail
  clear hins
  refine (morM true _).mono ?_
  rintro e w4 ⟨k1, rfl, hk1, hb4⟩
  have HK1 := Lib.hid hk1
  have HB4 := Lib.hid hb4
  clear hk1 hb4
  go_wp2_with fail
  refine (lesM true _).mono ?_
  rintro e w5 ⟨k2, rfl, hk2, hb5⟩
  have HK2 := Lib.hid hk2
  have HB5 := Lib.hid hb5
  clear hk2 hb5
  go_wp2_with fail
  refine (both2 (.func (.func 97) #[] #[.pointer (some ⟨k1, 0, none⟩)]) (.func (.func 95) #[] #[.pointer (some ⟨k2, 0, none⟩)]) rfl rfl _ _ ?_).mono ?_
  · exact al_eq _ _ _ (by first | rfl | simp only [size_alloc])
  rintro e w2 ⟨b, o, c, rfl, h0, h1, _, hb⟩
  have hb5 := ((But.refl [] w5).alloc _).trans hb (by simp)
  obtain ⟨w3, hins0, hT⟩ := (((HT.out.but HB4.out).but HB5.out).but hb5).ins 112 (by decide) (by decide) _ ⟨b, o, c, _, _, rfl, h0, h1, morV true k1 _ (KC.of_but hb5 _ _ (KC.of_but HB5.out _ _ HK1.out)), lesV true k2 _ (KC.of_but hb5 _ _ HK2.out)⟩
  have hins : (Instr.mapUpdate 61 (.map (some w.heap.size)) (.int .u8 112) (.slice (some ⟨b, o, none⟩) 2 c)).run Try.prog w2 = .ok () w3 := hins0
  clear hins0
  have HT := Lib.hid hT
  clear h0 h1 hb hb5 hT
  go_wp2_with fail
  go_ret
  exact ⟨_, rfl, HT.out⟩
end Go.Proofs.Ytmbmmcippglfoaa.M
