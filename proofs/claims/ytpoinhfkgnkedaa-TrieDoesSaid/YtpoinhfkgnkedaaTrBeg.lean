/-
  trie's law: bits, begins.
-/
import Derived.Test.YtpoinhfkgnkedaaTrVal
import Derived.Test.YtpoinhfkgnkedaaKit
import Derived.BigQuiet
namespace Go.Proofs.Ytpoinhfkgnkedaa.M
open Go.RowKit Go.Shelf
set_option linter.unusedVariables false
set_option linter.unusedSectionVars false
set_option linter.unusedSimpArgs false
theorem leV4 (a b c d : Int) : leV [a, b, c, d] = a + b * 256 + c * 65536 + d * 16777216 := by
  show (((0 * 256 + d) * 256 + c) * 256 + b) * 256 + a = _
  omega
theorem take4 {ks : List Int} (h : 4 ≤ ks.length) : ∃ a b c d l, ks = a :: b :: c :: d :: l := by
  match ks, h with
  | a :: b :: c :: d :: l, _ => exact ⟨a, b, c, d, l, rfl⟩
set_option maxRecDepth 100000 in
set_option maxHeartbeats 1000000 in
theorem bitsl_c (ad : Addr) (cp : Nat) (ks : List Int) (w : World) (hs : Sees w (.slice (some ad) ks.length cp) (u8s ks)) (hb : ByteL ks) (h4 : 4 ≤ ks.length) :
    Calls Try.prog 16 #[.slice (some ad) ks.length cp] w fun e w' => e = .returned (.int .i64 (leV (ks.take 4))) ∧ ∃ n, w' = w.drewN n := by
  obtain ⟨a, b, c, d, l, rfl⟩ := take4 h4
  obtain ⟨ad', c', e1, hx⟩ := sees_shape hs
  have hcell : ∀ (k : Nat) (z : Int), (a :: b :: c :: d :: l)[k]? = some z → w.cell? (ad.add k) = some (.int .u8 z) := fun k z hz => by
    obtain ⟨ad2, h1, h2⟩ := hx k _ (u8s_at hz)
    simp only [Value.slice.injEq] at e1
    rw [← e1.1] at h1
    cases h1
    exact h2
  have c0 := hcell 0 a rfl
  rw [add_zero] at c0
  have c1 : w.cell? ⟨ad.block, ad.off + 1, none⟩ = some (.int .u8 b) := hcell 1 b rfl
  have c2 : w.cell? ⟨ad.block, ad.off + 2, none⟩ = some (.int .u8 c) := hcell 2 c rfl
  have c3 : w.cell? ⟨ad.block, ad.off + 3, none⟩ = some (.int .u8 d) := hcell 3 d rfl
  have ha := hb a (by simp)
  have hbb := hb b (by simp)
  have hc := hb c (by simp)
  have hd := hb d (by simp)
  have t4 : leV ((a :: b :: c :: d :: l).take 4) = a + b * 256 + c * 65536 + d * 16777216 := leV4 a b c d
  rw [t4]
  have w1 : wrap64 (b * 256) = b * 256 := by rw [wrap64]; omega
  have w2 : wrap64 (c * 65536) = c * 65536 := by rw [wrap64]; omega
  have w3 : wrap64 (d * 16777216) = d * 16777216 := by rw [wrap64]; omega
  have w4 : wrap64 (a + b * 256) = a + b * 256 := by rw [wrap64]; omega
  have w5 : wrap64 (a + b * 256 + c * 65536) = a + b * 256 + c * 65536 := by rw [wrap64]; omega
  have w6 : wrap64 (a + b * 256 + c * 65536 + d * 16777216) = a + b * 256 + c * 65536 + d * 16777216 := by rw [wrap64]; omega
  have v1 : IntKind.i64.wrap (b * 256) = b * 256 := by rw [IntKind.wrap_i64]; omega
  have v2 : IntKind.i64.wrap (c * 65536) = c * 65536 := by rw [IntKind.wrap_i64]; omega
  have v3 : IntKind.i64.wrap (d * 16777216) = d * 16777216 := by rw [IntKind.wrap_i64]; omega
  have v4 : IntKind.i64.wrap (a + b * 256) = a + b * 256 := by rw [IntKind.wrap_i64]; omega
  have v5 : IntKind.i64.wrap (a + b * 256 + c * 65536) = a + b * 256 + c * 65536 := by rw [IntKind.wrap_i64]; omega
  have v6 : IntKind.i64.wrap (a + b * 256 + c * 65536 + d * 16777216) = a + b * 256 + c * 65536 + d * 16777216 := by rw [IntKind.wrap_i64]; omega
  have u1 : IntKind.i64.wrap a = a := by rw [IntKind.wrap_i64]; omega
  have u2 : IntKind.i64.wrap b = b := by rw [IntKind.wrap_i64]; omega
  have u3 : IntKind.i64.wrap c = c := by rw [IntKind.wrap_i64]; omega
  have u4 : IntKind.i64.wrap d = d := by rw [IntKind.wrap_i64]; omega
  have x1 : wrap64 a = a := by rw [wrap64]; omega
  have x2 : wrap64 b = b := by rw [wrap64]; omega
  have x3 : wrap64 c = c := by rw [wrap64]; omega
  have x4 : wrap64 d = d := by rw [wrap64]; omega
  have hl : (a :: b :: c :: d :: l).length = l.length + 4 := rfl
  rw [hl]
  have p3 : (3 : Int) < ((l.length + 4 : Nat) : Int) := by omega
  have p2 : (2 : Int) < ((l.length + 4 : Nat) : Int) := by omega
  have p1 : (1 : Int) < ((l.length + 4 : Nat) : Int) := by omega
  have p0 : (0 : Int) < ((l.length + 4 : Nat) : Int) := by omega
  obtain ⟨n, hn⟩ : ∃ n, n = l.length + 4 := ⟨_, rfl⟩
  rw [← hn] at p0 p1 p2 p3 ⊢
  have q0 : 0 < n := by omega
  have q1 : 1 < n := by omega
  have q2 : 2 < n := by omega
  have q3 : 3 < n := by omega
  have kc : ∀ (z : Int), IntKind.i64.wrap z = z → ∀ n, (convert 5 3 (.int .u8 z)).run Try.prog (w.drewN n) = .ok (.int .i64 z) (w.drewN n) := fun z hz n => by
    simp [go_sem, hz]
  have k1 := kc a u1
  have k2 := kc b u2
  have k3 := kc c u3
  have k4 := kc d u4
  clear kc
  clear hs hb h4 hx e1 hcell ha hbb hc hd t4 hl hn
  go_enter Try.func16, Try.ntmps16
  go_wp2_with fail
  go_quiet (fail)
  go_wp2_with fail
  go_ret
  exact ⟨rfl, _, rfl⟩
theorem bitsl_b (ad : Addr) (cp : Nat) (ks : List Int) (w : World) (hs : Sees w (.slice (some ad) ks.length cp) (u8s ks)) (hb : ByteL ks) (h4 : 4 ≤ ks.length) :
    Calls Try.prog 16 #[.slice (some ad) ks.length cp] w fun e w' => e = .returned (.int .i64 (leV (ks.take 4))) ∧ But [] w w' :=
  (bitsl_c ad cp ks w hs hb h4).mono fun e w' ⟨h1, n, h2⟩ => ⟨h1, by rw [h2]; exact (But.refl [] w).drewN n⟩
/-- May a row be a key's beginning: its form. -/
def BegF (a b : List Int) : Prop := (4 ≤ a.length ∧ b.length = a.length) ∧ leV (a.take 4) ≤ leV (b.take 4) ∧ leV (b.take 4) ≤ 8 * ((b.length : Int) - 4)
instance (a b : List Int) : Decidable (BegF a b) := by unfold BegF; infer_instance
def begP (a b : List Int) : Bool := decide (BegF a b ∧ ∀ i, i < kmany a → kbit a i = kbit b i)
theorem mask_nat : ∀ x : Nat, x < 256 → ∀ j, j < 8 → bits .and .u8 (x : Int) (128 / 2 ^ j) = ((x : Int) / 2 ^ (7 - j) % 2) * (128 / 2 ^ j) := by decide +kernel
theorem mask_bit {x : Int} (h0 : 0 ≤ x) (h1 : x ≤ 255) (k : Nat) : bits .and .u8 x (128 / 2 ^ (k % 8)) = (x / 2 ^ (7 - k % 8) % 2) * (128 / 2 ^ (k % 8)) := by
  obtain ⟨N, rfl⟩ := Int.eq_ofNat_of_zero_le h0
  exact mask_nat N (by omega) (k % 8) (by omega)
theorem mask_pos : ∀ j, j < 8 → (128 : Int) / 2 ^ j ≠ 0 := by decide
theorem mask_eq {x y : Int} (hx : 0 ≤ x ∧ x ≤ 255) (hy : 0 ≤ y ∧ y ≤ 255) (k : Nat) : (bits .and .u8 x (128 / 2 ^ (k % 8)) != bits .and .u8 y (128 / 2 ^ (k % 8))) = !decide (x / 2 ^ (7 - k % 8) % 2 = y / 2 ^ (7 - k % 8) % 2) := by
  rw [mask_bit hx.1 hx.2, mask_bit hy.1 hy.2]
  have hm := mask_pos (k % 8) (by omega)
  generalize x / 2 ^ (7 - k % 8) % 2 = u
  generalize y / 2 ^ (7 - k % 8) % 2 = v
  generalize (128 : Int) / 2 ^ (k % 8) = m at hm
  by_cases e : u = v
  · subst e; simp
  · have : u * m ≠ v * m := fun h => e (Int.eq_of_mul_eq_mul_right hm h)
    simp [e, this]
theorem sees_cellAt {w : World} {ad : Addr} {c : Nat} {ks : List Int} (hs : Sees w (.slice (some ad) ks.length c) (u8s ks)) (i : Nat) (x : Int) (hx : ks[i]? = some x) : w.cell? (ad.add i) = some (.int .u8 x) := by
  rcases id hs with ⟨h, _⟩ | ⟨ad', c', h, _, hy⟩
  · cases h
  · simp only [Value.slice.injEq, Option.some.injEq] at h
    obtain ⟨rfl, _, rfl⟩ := h
    exact hy i _ (u8s_at hx)
theorem beg_nums {k m n : Nat} (h : k < m) (hm : m ≤ 8 * (n - 4)) (h4 : 4 ≤ n) (hn : n ≤ 1000000) : (k : Int) < (m : Nat) ∧ (0 : Int) ≤ (k : Int) ∧ (4 : Int) + (k : Int) / 8 < (n : Int) ∧ wrap64 ((k : Int) + 1) = (k : Int) + 1 ∧ (4 + (k : Int) / 8).toNat = 4 + k / 8 ∧ wrap64 (4 + (k : Int) / 8) = 4 + (k : Int) / 8 ∧ ((k : Int) % 8).toNat = k % 8 ∧ Int.tmod (k : Int) 8 = (k : Int) % 8 ∧ Int.tdiv (k : Int) 8 = (k : Int) / 8 ∧ wrap64 ((k : Int) / 8) = (k : Int) / 8 ∧ wrap64 ((k : Int) % 8) = (k : Int) % 8 ∧ IntKind.u64.wrap ((k : Int) % 8) = (k : Int) % 8 ∧ (0 : Int) ≤ 4 + (k : Int) / 8 := by
  have hk0 : (0 : Int) ≤ (k : Int) := by omega
  refine ⟨by omega, hk0, by omega, by rw [wrap64]; omega, by omega, by rw [wrap64]; omega, by omega, Int.tmod_eq_emod_of_nonneg hk0, Int.tdiv_eq_ediv_of_nonneg hk0, by rw [wrap64]; omega, by rw [wrap64]; omega, ?_, by omega⟩
  simp [IntKind.wrap, IntKind.bits, IntKind.signed]; omega
theorem mask_two {x y u v : Int} {k : Nat} (hx : 0 ≤ x ∧ x ≤ 255) (hy : 0 ≤ y ∧ y ≤ 255) (hu : u = x / 2 ^ (7 - k % 8) % 2) (hv : v = y / 2 ^ (7 - k % 8) % 2) : (u = v → (bits .and .u8 x (128 / 2 ^ (k % 8)) != bits .and .u8 y (128 / 2 ^ (k % 8))) = false) ∧ (¬ u = v → (bits .and .u8 x (128 / 2 ^ (k % 8)) != bits .and .u8 y (128 / 2 ^ (k % 8))) = true) := by
  have h := mask_eq hx hy k
  rw [← hu, ← hv] at h
  rw [h]
  exact ⟨fun e => by simp [e], fun e => by simp [e]⟩
theorem beg_cells {a b : List Int} {k : Nat} (h : k < kmany a) (hm : kmany a ≤ 8 * (a.length - 4)) (h4 : 4 ≤ a.length) (hl : b.length = a.length) (ha : ByteL a) (hb : ByteL b) :
    ∃ x y, a[4 + k / 8]? = some x ∧ b[4 + k / 8]? = some y ∧ (kbit a k = kbit b k → (bits .and .u8 x (128 / 2 ^ (k % 8)) != bits .and .u8 y (128 / 2 ^ (k % 8))) = false) ∧ (¬ kbit a k = kbit b k → (bits .and .u8 x (128 / 2 ^ (k % 8)) != bits .and .u8 y (128 / 2 ^ (k % 8))) = true) := by
  have hidx : 4 + k / 8 < a.length := by omega
  obtain ⟨x, hx⟩ : ∃ x, a[4 + k / 8]? = some x := ⟨_, List.getElem?_eq_getElem hidx⟩
  obtain ⟨y, hy⟩ : ∃ y, b[4 + k / 8]? = some y := ⟨_, List.getElem?_eq_getElem (by rw [hl]; exact hidx)⟩
  refine ⟨x, y, hx, hy, ?_⟩
  exact mask_two (ha x (List.mem_of_getElem? hx)) (hb y (List.mem_of_getElem? hy)) (by unfold kbit; rw [List.getD_eq_getElem?_getD, hx]; rfl) (by unfold kbit; rw [List.getD_eq_getElem?_getD, hy]; rfl)
theorem begP_not {a b : List Int} (h : ¬ BegF a b) : begP a b = false := by
  unfold begP
  rw [decide_eq_false_iff_not]
  exact fun h' => h h'.1
set_option maxRecDepth 100000 in
set_option maxHeartbeats 2000000 in
theorem begins_c (a1 b1 : Option Addr) (c1 c2 : Nat) (a b : List Int) (w : World) (hsa : Sees w (.slice a1 a.length c1) (u8s a)) (hsb : Sees w (.slice b1 b.length c2) (u8s b)) (hba : ByteL a) (hbb : ByteL b) (hla : a.length ≤ 1000000) (hlb : b.length ≤ 1000000) :
    Calls Try.prog 15 #[.slice a1 a.length c1, .slice b1 b.length c2] w fun e w' => e = .returned (.bool (begP a b)) ∧ But [] w w' := by
  by_cases h4 : a.length < 4
  · rw [begP_not (fun h => by have := h.1.1; omega)]
    have e1 : decide ((a.length : Int) < 4) = true := decide_eq_true (by omega)
    clear hsa hsb hba hbb
    go_enter Try.func15, Try.ntmps15
    go_wp2_with fail
    go_ret
    exact ⟨rfl, But.refl _ _⟩
  have e1 : decide ((a.length : Int) < 4) = false := decide_eq_false (by omega)
  by_cases hl : b.length = a.length
  rotate_left
  · rw [begP_not (fun h => hl h.1.2)]
    have e2 : ((b.length : Int) == (a.length : Int)) = false := by rw [beq_eq_false_iff_ne]; omega
    clear hsa hsb hba hbb
    go_enter Try.func15, Try.ntmps15
    go_wp2_with fail
    go_ret
    exact ⟨rfl, But.refl _ _⟩
  obtain ⟨ad1, rfl⟩ := sees_some hsa (by omega)
  obtain ⟨ad2, rfl⟩ := sees_some hsb (by omega)
  have HA : Hid (∀ wx, But [] w wx → Calls Try.prog 16 #[.slice (some ad1) a.length c1] wx fun e w' => e = .returned (.int .i64 (leV (a.take 4))) ∧ But [] wx w') := Lib.hid fun wx hx => bitsl_b ad1 c1 a wx (hsa.but hx (by simp)) hba (by omega)
  have HB : Hid (∀ wx, But [] w wx → Calls Try.prog 16 #[.slice (some ad2) a.length c2] wx fun e w' => e = .returned (.int .i64 (leV (b.take 4))) ∧ But [] wx w') := Lib.hid fun wx hx => by
    rw [← hl]
    exact bitsl_b ad2 c2 b wx (hsb.but hx (by simp)) hbb (by omega)
  have HCA : Hid (∀ wx, But [] w wx → ∀ i x, a[i]? = some x → wx.cell? (ad1.add i) = some (.int .u8 x)) := Lib.hid fun wx hx i x h => sees_cellAt (hsa.but hx (by simp)) i x h
  have HCB : Hid (∀ wx, But [] w wx → ∀ i x, b[i]? = some x → wx.cell? (ad2.add i) = some (.int .u8 x)) := Lib.hid fun wx hx i x h => sees_cellAt (hsb.but hx (by simp)) i x h
  have hA0 : 0 ≤ leV (a.take 4) := leV_nonneg _ (fun x hx => (hba x (List.mem_of_mem_take hx)).1)
  have hmA : leV (a.take 4) = kmany a := by unfold kmany; omega
  have HBF : Hid (BegF a b ↔ (leV (a.take 4) ≤ leV (b.take 4) ∧ leV (b.take 4) ≤ 8 * ((a.length : Int) - 4))) := Lib.hid (by rw [← hl]; exact ⟨fun h => h.2, fun h => ⟨⟨by omega, hl⟩, h⟩⟩)
  have HBA := Lib.hid hba
  have HBB := Lib.hid hbb
  have HL := Lib.hid hl
  have H4 : Hid (4 ≤ a.length) := Lib.hid (by omega)
  obtain ⟨va, hva⟩ : ∃ v, v = leV (a.take 4) := ⟨_, rfl⟩
  obtain ⟨vb, hvb⟩ : ∃ v, v = leV (b.take 4) := ⟨_, rfl⟩
  rw [← hva] at HA HBF hmA
  rw [← hvb] at HB HBF
  have s1 : wrap64 ((a.length : Int) - 4) = (a.length : Int) - 4 := by rw [wrap64]; omega
  have s2 : wrap64 (8 * ((a.length : Int) - 4)) = 8 * ((a.length : Int) - 4) := by rw [wrap64]; omega
  rw [hl]
  have HLA := Lib.hid hla
  have HLB := Lib.hid hlb
  clear hsa hsb hba hbb hva hvb hA0 h4 hl hla hlb
  by_cases h5 : vb < va
  · rw [begP_not (fun h => by have := (HBF.out.1 h).1; omega)]
    have e3 : decide (vb < va) = true := decide_eq_true h5
    clear HBF hmA
    go_enter Try.func15, Try.ntmps15
    go_wp2_with fail
    refine (HA.out _ (But.refl _ _)).mono ?_
    rintro e w1 ⟨rfl, hb1⟩
    have HW1 := Lib.hid hb1
    clear hb1
    go_wp2_with fail
    refine (HB.out _ HW1.out).mono ?_
    rintro e w2 ⟨rfl, hb2⟩
    have HW2 := Lib.hid (HW1.out.trans hb2 (by simp))
    clear hb2
    go_wp2_with fail
    go_ret
    exact ⟨rfl, HW2.out⟩
  have e3 : decide (vb < va) = false := decide_eq_false h5
  by_cases h6 : 8 * ((a.length : Int) - 4) < vb
  · rw [begP_not (fun h => by have := (HBF.out.1 h).2; omega)]
    have e4 : decide (8 * ((a.length : Int) - 4) < vb) = true := decide_eq_true h6
    clear HBF hmA
    go_enter Try.func15, Try.ntmps15
    go_wp2_with fail
    refine (HA.out _ (But.refl _ _)).mono ?_
    rintro e w1 ⟨rfl, hb1⟩
    have HW1 := Lib.hid hb1
    clear hb1
    go_wp2_with fail
    refine (HB.out _ HW1.out).mono ?_
    rintro e w2 ⟨rfl, hb2⟩
    have HW2 := Lib.hid (HW1.out.trans hb2 (by simp))
    clear hb2
    go_wp2_with fail
    refine (HB.out _ HW2.out).mono ?_
    rintro e w3 ⟨rfl, hb3⟩
    have HW3 := Lib.hid (HW2.out.trans hb3 (by simp))
    clear hb3
    go_wp2_with fail
    go_ret
    exact ⟨rfl, HW3.out⟩
  have e4 : decide (8 * ((a.length : Int) - 4) < vb) = false := decide_eq_false h6
  have HF : Hid (BegF a b) := Lib.hid (HBF.out.2 ⟨by omega, by omega⟩)
  have HK : Hid (kmany a ≤ 8 * (a.length - 4)) := Lib.hid (by have := HL.out; omega)
  clear HBF h5 h6
  subst hmA
  go_enter Try.func15, Try.ntmps15
  go_wp2_with fail
  refine (HA.out _ (But.refl _ _)).mono ?_
  rintro e w1 ⟨rfl, hb1⟩
  have HW1 := Lib.hid hb1
  clear hb1
  go_wp2_with fail
  refine (HB.out _ HW1.out).mono ?_
  rintro e w2 ⟨rfl, hb2⟩
  have HW2 := Lib.hid (HW1.out.trans hb2 (by simp))
  clear hb2
  go_wp2_with fail
  refine (HB.out _ HW2.out).mono ?_
  rintro e w3 ⟨rfl, hb3⟩
  have HW3 := Lib.hid (HW2.out.trans hb3 (by simp))
  clear hb3
  go_wp2_with fail
  clear e1 e3 e4 s1 s2
  go_loopw [5, 6] (fun i m wr => ∃ k : Nat, k ≤ kmany a ∧ i = .int .i64 (k : Int) ∧ But [] w wr ∧ ∀ j, j < k → kbit a j = kbit b j) (fun i _ _ => kmany a - (intOf i).toNat)
  case atStart => exact ⟨0, Nat.zero_le _, rfl, HW3.out, fun j hj => by omega⟩
  case round =>
    obtain ⟨k, hk, rfl, hb, hall⟩ := hrel
    have HW := Lib.hid hb
    have HALL := Lib.hid hall
    clear hb hall
    by_cases hlt : k < kmany a
    · obtain ⟨hlti, hk0, hidx', hup, hw3, hw2, hw6, hw7, hw8, hw9, hw10, hw11, hi0⟩ := beg_nums hlt HK.out H4.out HLA.out
      obtain ⟨x, y, hx, hy, hm1, hm2⟩ := beg_cells hlt HK.out H4.out HL.out HBA.out HBB.out
      have HLT := Lib.hid hlt
      have HMS := Lib.hid (meas_up hlt)
      obtain ⟨mk, hmk⟩ : ∃ mk : Int, mk = 128 / 2 ^ (k % 8) := ⟨_, rfl⟩
      rw [← hmk] at hm1 hm2
      have HM1 := Lib.hid hm1
      have HM2 := Lib.hid hm2
      have HX := Lib.hid hx
      have HY := Lib.hid hy
      have HMK := Lib.hid hmk
      clear hm1 hm2 hx hy hlt hk hmk hidx' hup hw3 hw2 hw8 hw9 hi0
      go_wp2_with fail
      refine (HA.out _ HW.out).mono ?_
      rintro e w4 ⟨rfl, hb4⟩
      have HW4 := Lib.hid (HW.out.trans hb4 (by simp))
      clear hb4
      go_upto_region 6 with fail
      go_cut [6] from 33 to 59 (fun s wx => s = .int .u8 mk ∧ wx = w4)
      case first =>
        clear hlti hk0
        go_wp2_with fail
        go_meet
        exact ⟨by rw [HMK.out], rfl⟩
      case rest =>
      obtain ⟨rfl, rfl⟩ := hcut
      refine (by assumption : ∀ (a : Act) (w1 : World), Code.wp _ _ _ a w1 → _) _ _ ?_
      obtain ⟨-, -, hidx', hup, hw3, hw2, -, -, hw8, hw9, -, -, hi0⟩ := beg_nums HLT.out HK.out H4.out HLA.out
      have cx := HCA.out _ HW4.out _ _ HX.out
      have cy := HCB.out _ HW4.out _ _ HY.out
      by_cases heq : kbit a k = kbit b k
      · have hne : (bits .and .u8 x mk != bits .and .u8 y mk) = false := HM1.out heq
        have HEQ := Lib.hid heq
        clear heq
        go_wp2_with fail
        go_quiet (fail)
        go_wp2_with fail
        go_roundw
        case rel => exact ⟨k + 1, HLT.out, by rw [hup]; rfl, HW4.out.drewN _, fun j hj => by
          rcases Nat.lt_succ_iff_lt_or_eq.1 hj with h | rfl
          · exact HALL.out j h
          · exact HEQ.out⟩
        case measure => rw [hup]; exact HMS.out
      · have hne : (bits .and .u8 x mk != bits .and .u8 y mk) = true := HM2.out heq
        have hbp : begP a b = false := by
          unfold begP
          rw [decide_eq_false_iff_not]
          exact fun h => heq (h.2 k HLT.out)
        have HBP := Lib.hid hbp
        clear heq hbp
        go_wp2_with fail
        go_quiet (fail)
        go_wp2_with fail
        go_ret
        exact ⟨by rw [HBP.out]; rfl, HW4.out.drewN _⟩
    · obtain rfl : k = kmany a := by omega
      have hbp : begP a b = true := by
        unfold begP
        rw [decide_eq_true_iff]
        exact ⟨HF.out, HALL.out⟩
      have HBP := Lib.hid hbp
      clear hbp hlt
      go_wp2_with fail
      refine (HA.out _ HW.out).mono ?_
      rintro e w4 ⟨rfl, hb4⟩
      have HW4 := Lib.hid (HW.out.trans hb4 (by simp))
      clear hb4
      go_wp2_with fail
      go_ret
      exact ⟨by rw [HBP.out]; rfl, HW4.out⟩
end Go.Proofs.Ytpoinhfkgnkedaa.M
