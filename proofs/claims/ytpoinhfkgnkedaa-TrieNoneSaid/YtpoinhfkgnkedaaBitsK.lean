/-
  trie.bits: a key's bits, as an iterator.
-/
import Derived.Test.YtpoinhfkgnkedaaMany
namespace Go.Proofs.Ytpoinhfkgnkedaa.M
open Go.RowKit Go.Shelf
set_option linter.unusedVariables false
set_option linter.unusedSectionVars false
set_option linter.unusedSimpArgs false
attribute [local go_sem] Oper.semAt_some
theorem many_c (ad : Addr) (c0 : Nat) (ks : List Int) (w : World) (hs0 : Sees w (.slice (some ad) ks.length c0) (u8s ks)) (hr0 : ByteL ks) (h4 : 4 ≤ ks.length) : Calls Try.prog 45 #[.slice (some ad) ks.length c0] w fun e w' => e = .returned (.int .i64 (leV (ks.take 4))) ∧ But [] w w' :=
  callsIn_wide.1 (many_w ad c0 ks w hs0 hr0 h4)
def kbit (ks : List Int) (k : Nat) : Int := (ks.getD (4 + k / 8) 0) / 2 ^ (7 - k % 8) % 2
def kmany (ks : List Int) : Nat := (leV (ks.take 4)).toNat
def kbits (ks : List Int) : List Int := (List.range (kmany ks)).map (kbit ks)
theorem kbits_len (ks : List Int) : (kbits ks).length = kmany ks := by simp [kbits]
theorem kbit_01 (ks : List Int) (k : Nat) : kbit ks k = 0 ∨ kbit ks k = 1 := by
  unfold kbit
  omega
theorem and1_nat : ∀ N : Nat, N < 256 → bits .and .u8 (N : Int) 1 = (N : Int) % 2 := by decide +kernel
theorem and1 {y : Int} (h0 : 0 ≤ y) (h1 : y ≤ 255) : bits .and .u8 y 1 = y % 2 := by
  obtain ⟨N, rfl⟩ := Int.eq_ofNat_of_zero_le h0
  exact and1_nat N (by omega)
theorem shr_le {x : Int} (h0 : 0 ≤ x) (h1 : x ≤ 255) (j : Nat) : 0 ≤ x / 2 ^ j ∧ x / 2 ^ j ≤ 255 := by
  have hp : (0 : Int) < 2 ^ j := Int.pow_pos (by decide)
  exact ⟨Int.ediv_nonneg h0 (Int.le_of_lt hp), Int.le_trans (Int.ediv_le_self _ h0) h1⟩
theorem leV_nonneg : ∀ (l : List Int), (∀ x ∈ l, 0 ≤ x) → 0 ≤ leV l
  | [], _ => by simp [leV]
  | x :: l, h => by
    have h1 := leV_nonneg l (fun y hy => h y (List.mem_cons_of_mem _ hy))
    have h2 := h x List.mem_cons_self
    show 0 ≤ leV l * 256 + x
    omega
/-- A right key: its bits lie in it. -/
structure KeyOk (ks : List Int) : Prop where
  bytes : ByteL ks
  four : 4 ≤ ks.length
  long : ks.length ≤ 1000000000
  fits : leV (ks.take 4) ≤ 8 * ((ks.length : Int) - 4)
theorem KeyOk.many {ks : List Int} (h : KeyOk ks) : leV (ks.take 4) = kmany ks := by
  have := leV_nonneg (ks.take 4) (fun x hx => (h.bytes x (List.mem_of_mem_take hx)).1)
  unfold kmany
  omega
theorem KeyOk.le {ks : List Int} (h : KeyOk ks) : kmany ks ≤ 8 * (ks.length - 4) := by
  have h1 := h.many
  have h2 := h.fits
  have h3 := h.four
  omega
theorem KeyOk.at' {ks : List Int} (h : KeyOk ks) {k : Nat} (hk : k < kmany ks) : ∃ x, ks[4 + k / 8]? = some x ∧ 0 ≤ x ∧ x ≤ 255 ∧ kbit ks k = x / 2 ^ (7 - k % 8) % 2 := by
  have h1 := h.le
  have h2 : 4 + k / 8 < ks.length := by omega
  refine ⟨ks[4 + k / 8], List.getElem?_eq_getElem h2, (h.bytes _ (List.getElem_mem h2)).1, (h.bytes _ (List.getElem_mem h2)).2, ?_⟩
  unfold kbit
  rw [List.getD_eq_getElem?_getD, List.getElem?_eq_getElem h2]
  rfl
theorem kbits_take {ks : List Int} {k : Nat} (hk : k < kmany ks) : (kbits ks).take (k + 1) = (kbits ks).take k ++ [kbit ks k] := by
  rw [List.take_add_one, kbits, List.getElem?_map, List.getElem?_range hk]
  rfl
theorem bits_c (a : Option Addr) (n c : Nat) (w : World) : Calls Try.prog 36 #[.slice a n c] w fun e w' => e = .returned (.func (.func 54) #[] #[.pointer (some ⟨w.heap.size, 0, none⟩)]) ∧ w' = w.alloc (.cells #[.slice a n c] 26) := by
  have hmf : ∀ (fn : Fn) (first cap : Array Value) (w : World), (Instr.makeFunc fn first cap).run Try.prog w = .ok (.func fn first cap) w := fun _ _ _ _ => rfl
  go_enter Try.func36, Try.ntmps36
  go_wp2_with fail
  go_ret
  exact ⟨rfl, rfl⟩
theorem wrap_up {k : Nat} (h : k < 1000000000000) : wrap64 ((k : Int) + 1) = k + 1 := by rw [wrap64]; omega
theorem meas_up {m k : Nat} (h : k < m) : m - (intOf (.int .i64 ((k : Int) + 1))).toNat < m - (intOf (.int .i64 (k : Int))).toNat := by
  simp only [intOf]
  omega
def encI (x : Int) : Array Value := #[.int .i64 x]
def Any01 (x : Int) (w : World) : Prop := x = 0 ∨ x = 1
def AfterI (ok : Nat → Prop) (J Jx : List Int → World → Prop) (W : World) (pre : List Int) (bo : Bool) (W' : World) : Prop := if bo = true then J pre W' ∧ KeepIn ok W W' else Jx pre W'
set_option maxRecDepth 100000 in
set_option maxHeartbeats 4000000 in
theorem bits1_in (n : Nat) (hn : 2 ≤ n) (l P : Nat) (ok : Nat → Prop) (ad : Addr) (cp : Nat) (ks : List Int) (J Jx : List Int → World → Prop) (W : World)
    (hY : ∀ pre x W1, J pre W1 → Any01 x W1 → pre.length < (kbits ks).length → YieldAt Fence.wide (n - 1) Try.prog l (encI x) W1 fun e W' =>
      (e = .returned (.bool true) ∧ J (pre ++ [x]) W' ∧ KeepIn ok W1 W') ∨ (e = .returned (.bool false) ∧ Jx (pre ++ [x]) W'))
    (hJ : Abides W.heap.size J)
    (hP : W.heap[P]? = some (.cells #[.slice (some ad) ks.length cp] 26)) (hs : Sees W (.slice (some ad) ks.length cp) (u8s ks)) (hk : KeyOk ks) (hPn : ok P) (hsn : ok ad.block) (h0 : J [] W) :
    CallsIn Fence.wide n Try.prog 54 #[.func (.yield l) #[] #[], .pointer (some ⟨P, 0, none⟩)] W (SeqPost (fun xs => xs = kbits ks) (fun pre => pre <+: kbits ks) NoT J Jx) := by
  have hsc : ∀ (i : Nat) (x : Int), ks[i]? = some x → W.cell? (ad.add i) = some (.int .u8 x) := by
    rcases id hs with ⟨h, _⟩ | ⟨ad', c, h, _, hx⟩
    · cases h
    · simp only [Value.slice.injEq, Option.some.injEq] at h
      obtain ⟨rfl, _, rfl⟩ := h
      exact fun i x hx' => hx i _ (u8s_at hx')
  have c0 : W.cell? ⟨P, 0, none⟩ = some (.slice (some ad) ks.length cp) := cl_of hP 0
  have HM := Lib.hid (many_c ad _ ks W hs hk.bytes hk.four)
  have HMM := Lib.hid hk.many
  have HK := Lib.hid hk
  have HSC := Lib.hid hsc
  have HY := Lib.hid hY
  have HSN := Lib.hid hsn
  have HPN := Lib.hid hPn
  have HC0 := Lib.hid c0
  have H0 := Lib.hid h0
  have HJ := Lib.hid hJ
  clear hP hsc hY hsn hPn hs hk h0 hJ
  refine callsIn_of_wp Try.func54 rfl trivial ?_ rfl
  simp only [Try.ntmps54, List.size_toArray, List.length_cons, List.length_nil, Nat.reduceAdd, Nat.reduceSub, Array.replicate_succ, Array.replicate_zero, List.push_toArray, List.append_toArray, List.nil_append, List.cons_append]
  gi_wp2
  refine ⟨trivial, fun _ => by omega, ?_⟩
  refine (callsIn_wide.2 HM.out).mono ?_
  rintro e w2 ⟨rfl, hb2⟩
  have HB2 := Lib.hid hb2
  rw [HMM.out]
  clear hb2 c0
  gi_wp2
  gi_loopw [6] (fun i wr => ∃ (k : Nat), k ≤ kmany ks ∧ i = .int .i64 (k : Int) ∧ J ((kbits ks).take k) wr ∧ KeepIn ok W wr) (fun i _ => kmany ks - (intOf i).toNat)
  case atStart =>
    exact ⟨0, Nat.zero_le _, rfl, HJ.out.new _ _ _ H0.out HB2.out, KeepIn.of_but HB2.out (by simp)⟩
  case round =>
    obtain ⟨k, hk, rfl, hJ, hb⟩ := hrel
    have HJP := Lib.hid hJ
    have HB := Lib.hid hb
    have c0 := hb.cell (p := ⟨P, 0, none⟩) HPN.out HC0.out
    clear hJ hb
    by_cases hlt : k < kmany ks
    · obtain ⟨x, hx, hx0, hx1, hkb⟩ := HK.out.at' hlt
      have d0 : wr.cell? (ad.add (4 + k / 8)) = some (.int .u8 x) := HB.out.cell (p := ad.add (4 + k / 8)) (by rw [block_of_add]; exact HSN.out) (HSC.out _ _ hx)
      have hkl := HK.out.le
      have hk9 := HK.out.long
      have hlt' : (k : Int) < kmany ks := by omega
      have hk0 : (0 : Int) ≤ k := by omega
      have hplen : ((kbits ks).take k).length < (kbits ks).length := by rw [List.length_take, kbits_len]; omega
      have HLT := Lib.hid hlt
      have hyy : YieldAt Fence.wide (n - 1) Try.prog l (encI (kbit ks k)) wr fun e W' => ∃ bo, e = .returned (.bool bo) ∧ AfterI ok J Jx W ((kbits ks).take (k + 1)) bo W' := by
        refine YieldAt.mono (HY.out _ (kbit ks k) wr HJP.out (kbit_01 ks k) hplen) ?_
        rw [kbits_take hlt]
        rintro e W' (⟨he, h⟩ | ⟨he, h⟩)
        · exact ⟨true, he, by unfold AfterI; rw [if_pos rfl]; exact ⟨h.1, HB.out.trans h.2⟩⟩
        · exact ⟨false, he, by unfold AfterI; rw [if_neg (by decide)]; exact h⟩
      rw [hkb] at hyy
      obtain ⟨fn, tmps, assign, body, hy, hR⟩ := hyy
      have HRR := Lib.hid hR
      clear hx hplen hR
      unfold encI at hy
      have hbit : bits .and .u8 (x / 2 ^ (7 - k % 8)) 1 = x / 2 ^ (7 - k % 8) % 2 := and1 (shr_le hx0 hx1 _).1 (shr_le hx0 hx1 _).2
      have hwb : wrap64 (x / 2 ^ (7 - k % 8) % 2) = x / 2 ^ (7 - k % 8) % 2 := by rw [wrap64]; omega
      gi_wp2
      refine ⟨fun _ => by omega, ?_⟩
      refine HRR.out.mono ?_
      rintro e w8 ⟨bo, rfl, hbo⟩
      have HBO := Lib.hid hbo
      have HMS := Lib.hid (meas_up hlt)
      have hw1 : wrap64 ((k : Int) + 1) = k + 1 := wrap_up (by omega)
      have HUP : Hid (k + 1 ≤ kmany ks) := Lib.hid hlt
      have HCS : Hid ((k : Int) + 1 = ((k + 1 : Nat) : Int)) := Lib.hid (by omega)
      clear hbo hbit hwb hkb hx0 hx1 d0 hkl hk9
      cases bo with
      | true =>
        have HJ8 : Hid (J ((kbits ks).take (k + 1)) w8 ∧ KeepIn ok W w8) := Lib.hid (by have h := HBO.out; unfold AfterI at h; rwa [if_pos rfl] at h)
        clear HBO HRR hy
        gi_wp2
        go_roundw
        case rel => exact ⟨k + 1, HUP.out, by rw [hw1, HCS.out], HJ8.out.1, HJ8.out.2⟩
        case measure => rw [hw1]; exact HMS.out
      | false =>
        have HJ8 : Hid (Jx ((kbits ks).take (k + 1)) w8) := Lib.hid (by have h := HBO.out; unfold AfterI at h; rwa [if_neg (by decide)] at h)
        clear HBO HRR hy
        gi_wp2
        refine bodyPost_ret (results_none rfl _ _ _) rfl ?_
        exact .inl ⟨⟨_, rfl⟩, .inr ⟨_, List.take_prefix _ _, HJ8.out⟩⟩
    · obtain rfl : k = kmany ks := by omega
      have HEND : Hid (SeqPost (fun xs => xs = kbits ks) (fun pre => pre <+: kbits ks) NoT J Jx (.returned (.tuple #[])) wr) := Lib.hid (.inl ⟨⟨_, rfl⟩, .inl ⟨_, rfl, by have h := HJP.out; rwa [List.take_of_length_le (by rw [kbits_len]; omega)] at h⟩⟩)
      gi_wp2
      refine bodyPost_ret (results_none rfl _ _ _) rfl ?_
      exact HEND.out
/-- The iterator's contract. -/
theorem bits_seq (n : Nat) (hn : 2 ≤ n) (P : Nat) (ok : Nat → Prop) (ad : Addr) (cp : Nat) (ks : List Int) (w : World) (hP : w.heap[P]? = some (.cells #[.slice (some ad) ks.length cp] 26)) (hs : Sees w (.slice (some ad) ks.length cp) (u8s ks)) (hk : KeyOk ks) (hPn : ok P) (hsn : ok ad.block) :
    SeqB Fence.wide n Try.prog 54 #[.pointer (some ⟨P, 0, none⟩)] encI Any01 (KeepIn ok) (fun xs => xs = kbits ks) (fun pre => pre <+: kbits ks) NoT (kbits ks).length w := fun l J Jx W hW hJ hJx hY h0 =>
  bits1_in n hn l P ok ad cp ks J Jx W hY hJ (hW.heap hP (by simp)) (hs.but hW (by simp)) hk hPn hsn h0
end Go.Proofs.Ytpoinhfkgnkedaa.M
