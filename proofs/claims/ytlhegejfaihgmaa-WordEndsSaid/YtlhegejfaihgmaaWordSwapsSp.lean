/-
  Plain: bytes turned round twice are as they were; what is widened and cut again, too. No program.
-/
import Derived.Test.YtlhegejfaihgmaaWordRingSp
namespace Go.Proofs.Ytlhegejfaihgmaa.Sp
open Go.RowKit
set_option linter.unusedVariables false

theorem rev16_rev (x : Int) (h0 : 0 ≤ x) (h1 : x < 65536) : rev16 (rev16 x) = x := by unfold rev16; omega
theorem rev32_mk (d0 d1 d2 d3 : Int) (a0 : 0 ≤ d0) (b0 : d0 < 256) (a1 : 0 ≤ d1) (b1 : d1 < 256) (a2 : 0 ≤ d2) (b2 : d2 < 256) (a3 : 0 ≤ d3) (b3 : d3 < 256) :
    rev32 (d0 + 256 * d1 + 65536 * d2 + 16777216 * d3) = d3 + 256 * d2 + 65536 * d1 + 16777216 * d0 := by
  unfold rev32
  have e0 : (d0 + 256 * d1 + 65536 * d2 + 16777216 * d3) % 256 = d0 := by omega
  have e1 : (d0 + 256 * d1 + 65536 * d2 + 16777216 * d3) / 256 % 256 = d1 := by omega
  have e2 : (d0 + 256 * d1 + 65536 * d2 + 16777216 * d3) / 65536 % 256 = d2 := by omega
  have e3 : (d0 + 256 * d1 + 65536 * d2 + 16777216 * d3) / 16777216 = d3 := by omega
  rw [e0, e1, e2, e3]
theorem digits (x : Int) (h0 : 0 ≤ x) (h1 : x < 4294967296) : ∃ d0 d1 d2 d3 : Int, (0 ≤ d0 ∧ d0 < 256) ∧ (0 ≤ d1 ∧ d1 < 256) ∧ (0 ≤ d2 ∧ d2 < 256) ∧ (0 ≤ d3 ∧ d3 < 256) ∧ x = d0 + 256 * d1 + 65536 * d2 + 16777216 * d3 :=
  ⟨x % 256, x / 256 % 256, x / 65536 % 256, x / 16777216, by omega, by omega, by omega, by omega, by omega⟩
theorem rev32_rev (x : Int) (h0 : 0 ≤ x) (h1 : x < 4294967296) : rev32 (rev32 x) = x := by
  obtain ⟨d0, d1, d2, d3, ⟨a0, b0⟩, ⟨a1, b1⟩, ⟨a2, b2⟩, ⟨a3, b3⟩, rfl⟩ := digits x h0 h1
  rw [rev32_mk d0 d1 d2 d3 a0 b0 a1 b1 a2 b2 a3 b3, rev32_mk d3 d2 d1 d0 a3 b3 a2 b2 a1 b1 a0 b0]
theorem rev64_bounds (x : Int) (h0 : 0 ≤ x) (h1 : x < 18446744073709551616) : 0 ≤ rev64 x ∧ rev64 x < 18446744073709551616 := by
  have a := rev32_bounds (x / 4294967296) (by omega) (by omega)
  have b := rev32_bounds (x % 4294967296) (by omega) (by omega)
  unfold rev64
  omega
theorem rev64_rev (x : Int) (h0 : 0 ≤ x) (h1 : x < 18446744073709551616) : rev64 (rev64 x) = x := by
  have a := rev32_bounds (x / 4294967296) (by omega) (by omega)
  have b := rev32_bounds (x % 4294967296) (by omega) (by omega)
  have ra := rev32_rev (x / 4294967296) (by omega) (by omega)
  have rb := rev32_rev (x % 4294967296) (by omega) (by omega)
  have e1 : rev64 x / 4294967296 = rev32 (x % 4294967296) := by unfold rev64; omega
  have e2 : rev64 x % 4294967296 = rev32 (x / 4294967296) := by unfold rev64; omega
  generalize hy : rev64 x = y at *
  unfold rev64
  rw [e1, e2, ra, rb]
  omega

/-- What the statement looks at, at a width: the low bits, the bytes turned round, turned again, what is widened, and cut. -/
structure SwapFacts (bits bytes n : Int) (signed : Bool) (low big x : Int) : Prop where
  a : swap 0 bits n = some low
  b : swap 1 bits n = some big
  c : swap 2 bits big = some low
  d : extend n bytes signed = some x
  e : extend x bytes false = some low
  wbig : W64 big
  wx : W64 x
  s : signed = false → x = low

theorem ext_facts {bytes n M : Int} {signed : Bool} (hn : W64 n) (hM : 0 < M) (hM2 : M ≤ 18446744073709551616) (he : ∀ y, W64 y → ext y bytes = some (y % M))
    (hs : wrap64 (wrap64 (n % M) * 2 ^ (64 - 8 * bytes).toNat) / 2 ^ (64 - 8 * bytes).toNat % 18446744073709551616 % M = n % M) :
    ∃ x, extend n bytes signed = some x ∧ extend x bytes false = some (n % M) ∧ W64 x ∧ (signed = false → x = n % M) := by
  have hm := mod_bd n hM
  have hmw : W64 (n % M) := ⟨hm.1, by omega⟩
  cases signed
  · exact ⟨n % M, by unfold extend; rw [he n hn]; rfl, by unfold extend; rw [he _ hmw, mm]; rfl, hmw, fun _ => rfl⟩
  · refine ⟨wrap64 (wrap64 (n % M) * 2 ^ (64 - 8 * bytes).toNat) / 2 ^ (64 - 8 * bytes).toNat % 18446744073709551616, by unfold extend; rw [he n hn]; rfl, ?_, ?_, fun h => by cases h⟩
    · unfold extend
      rw [he _ (mod_bd _ (by decide))]
      rw [hs]
      rfl
    · exact mod_bd _ (by decide)

theorem facts16 (n : Int) (signed : Bool) (hn : W64 n) : ∃ x, SwapFacts 16 2 n signed (n % 65536) (rev16 (n % 65536)) x := by
  have b := rev16_bounds (n % 65536) (by omega) (by omega)
  obtain ⟨x, h1, h2, h3, h4⟩ := ext_facts (bytes := 2) (signed := signed) (M := 65536) hn (by decide) (by decide) (fun y _ => rfl) (by
    have e : (2 : Int) ^ (64 - 8 * (2 : Int)).toNat = 281474976710656 := by decide
    rw [e]; unfold wrap64; omega)
  refine ⟨x, rfl, rfl, ?_, h1, h2, ⟨b.1, by omega⟩, h3, h4⟩
  show some (rev16 (rev16 (n % 65536) % 65536)) = some (n % 65536)
  rw [Int.emod_eq_of_lt b.1 b.2, rev16_rev _ (by omega) (by omega)]
theorem facts32 (n : Int) (signed : Bool) (hn : W64 n) : ∃ x, SwapFacts 32 4 n signed (n % 4294967296) (rev32 (n % 4294967296)) x := by
  have b := rev32_bounds (n % 4294967296) (by omega) (by omega)
  obtain ⟨x, h1, h2, h3, h4⟩ := ext_facts (bytes := 4) (signed := signed) (M := 4294967296) hn (by decide) (by decide) (fun y _ => rfl) (by
    have e : (2 : Int) ^ (64 - 8 * (4 : Int)).toNat = 4294967296 := by decide
    rw [e]; unfold wrap64; omega)
  refine ⟨x, rfl, rfl, ?_, h1, h2, ⟨b.1, by omega⟩, h3, h4⟩
  show some (rev32 (rev32 (n % 4294967296) % 4294967296)) = some (n % 4294967296)
  rw [Int.emod_eq_of_lt b.1 b.2, rev32_rev _ (by omega) (by omega)]
theorem facts64 (n : Int) (signed : Bool) (hn : W64 n) : ∃ x, SwapFacts 64 8 n signed n (rev64 n) x := by
  have b := rev64_bounds n hn.1 hn.2
  have e0 := cut64 hn
  obtain ⟨x, h1, h2, h3, h4⟩ := ext_facts (bytes := 8) (signed := signed) (M := 18446744073709551616) hn (by decide) (by decide) (fun y hy => by rw [cut64 hy]; rfl) (by
    have e : (2 : Int) ^ (64 - 8 * (8 : Int)).toNat = 1 := by decide
    rw [e]; unfold wrap64; omega)
  rw [e0] at h2 h4
  refine ⟨x, rfl, rfl, ?_, h1, h2, b, h3, h4⟩
  show some (rev64 (rev64 n)) = some n
  rw [rev64_rev _ hn.1 hn.2]
end Go.Proofs.Ytlhegejfaihgmaa.Sp
