/-
  lru: Keys, in the words of the keys.
-/
import Derived.Test.YtifgfnifadmoaaaKeysF
import Derived.Test.YtifgfnifadmoaaaOpen
namespace Go.Proofs.Ytifgfnifadmoaaa.M
open Go.RowKit
set_option linter.unusedVariables false
set_option linter.unusedSectionVars false
set_option linter.unusedSimpArgs false
theorem keyRow_sees {base : Nat} {W : World} {v : Value} {ks : List Int} (h : KeyRow base W v (strOfNums ks)) (hk : ByteL ks) : Sees W v (u8s ks) := by
  obtain ⟨g, c, rfl, hc, hg, hh⟩ := h
  have hsz : (strOfNums ks).size = ks.length := strOfNums_size ks
  rw [hsz] at hc ⊢
  refine .inr ⟨⟨g, 0, none⟩, c, by rw [u8s_len], by rw [u8s_len]; exact hc, fun j u hu => ?_⟩
  unfold u8s at hu
  rw [List.getElem?_map] at hu
  obtain ⟨z, hz, rfl⟩ := Option.map_eq_some_iff.1 hu
  have hj : j < ks.length := (List.getElem?_eq_some_iff.1 hz).1
  have hjs : j < (strOfNums ks).data.size := by
    have : (strOfNums ks).data.size = ks.length := hsz
    omega
  rw [add_at, Nat.zero_add]
  unfold World.cell?
  rw [hh]
  show (bytesRow (strOfNums ks) c)[j]? = _
  rw [bytesRow_at _ _ _ hjs]
  have hb := hk z (List.mem_of_getElem? hz)
  have e1 : (strOfNums ks).data[j] = UInt8.ofNat z.toNat := by
    have h2 := strOfNums_data ks
    have h3 : (strOfNums ks).data.toList[j]? = some (UInt8.ofNat z.toNat) := by rw [h2, List.getElem?_map, hz]; rfl
    rw [Array.getElem?_toList] at h3
    have h4 := Array.getElem?_eq_getElem hjs
    rw [h4] at h3
    exact Option.some.inj h3
  rw [e1]
  simp only [UInt8.toNat_ofNat']
  congr 2
  omega
/-- Rows that may be written over. -/
def OverRow (base : Nat) (W : World) (v : Value) : Prop := ∃ g n c cur f, v = .slice (some ⟨g, 0, none⟩) n c ∧ n ≤ c ∧ n ≤ 1048576 ∧ base ≤ g ∧ W.heap[g]? = some (.cells cur 5 f) ∧ c ≤ cur.size ∧ ∀ j, j < cur.size → ¬ (f.1 ≤ j ∧ j < f.2)
theorem KeyRow.over {base : Nat} {W : World} {v : Value} {s : ByteArray} (h : KeyRow base W v s) (hm : s.size ≤ 1048576) : OverRow base W v := by
  obtain ⟨g, c, rfl, hc, hg, hh⟩ := h
  refine ⟨g, s.size, c, _, _, rfl, hc, hm, hg, hh, ?_, fun j hj h => by omega⟩
  have : s.data.size = s.size := rfl
  simp [bytesRow]
  omega
theorem LS.keys {w : World} {ok : Nat → Prop} {P K V N : Nat} {A : LSt} {rows : List (List Int)} (h : LS w ok P K V N A rows) (hN : N ≤ 1024) :
    Calls Try.prog 12 #[.pointer (some ⟨P, 0, none⟩)] w fun e w' => ∃ a c, e = .returned (.slice a A.length c) ∧ SeesRows w' (.slice a A.length c) ((A.map (·.1)).map u8s) ∧ (∃ vals, OwnQ w' 25 (.slice a A.length c) vals ∧ vals.length = A.length ∧ ∀ v ∈ vals, OverRow w.heap.size w' v) ∧ But [] w w' := by
  obtain ⟨M, U, Rm, g, E, h1, h2, h3, h4⟩ := h
  refine (callsIn_wide.1 (keys_full h1 hN)).mono ?_
  rintro e w' ⟨a, c, vals, rfl, hl, hown, hrow, hlow, hb⟩
  have hEA := enc_elen h2
  have hlA : vals.length = A.length := by rw [hl, hEA]
  have hover : ∀ v ∈ vals, OverRow w.heap.size w' v := fun v hv => by
    obtain ⟨i, hi⟩ := List.getElem?_of_mem hv
    obtain ⟨e, he⟩ : ∃ e, E[i]? = some e := ⟨_, List.getElem?_eq_getElem (by have := (List.getElem?_eq_some_iff.1 hi).1; omega)⟩
    exact (hrow i v e hi he).over (by rw [h1.keys.2 e (List.mem_of_getElem? he)]; exact h1.bounds.2.2.1)
  refine ⟨a, c, by rw [hlA], ⟨vals, by rw [← hlA]; exact hown.sees, by simp [hlA], fun i v r hv hr => ?_⟩, ⟨vals, by rw [← hlA]; exact hown, hlA, hover⟩, hb⟩
  rw [List.getElem?_map, List.getElem?_map] at hr
  obtain ⟨y, hy, rfl⟩ := Option.map_eq_some_iff.1 hr
  obtain ⟨x, hx, rfl⟩ := Option.map_eq_some_iff.1 hy
  have h5 := enc_at h2 i
  rw [hx] at h5
  obtain ⟨e, he, h6⟩ := Option.map_eq_some_iff.1 h5
  simp only [Prod.mk.injEq] at h6
  have h7 := hrow i v e hv he
  rw [h6.1] at h7
  exact keyRow_sees h7 (h3 x (List.mem_of_getElem? hx))
end Go.Proofs.Ytifgfnifadmoaaa.M
