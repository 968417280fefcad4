/-
  Merged: TdOver, TdSame, TdS, TdR.
-/
import Derived.Test.YtpoinhfkgnkedaaLentAll
import Derived.Test.YtpoinhfkgnkedaaTrVal
import Derived.Test.YtpoinhfkgnkedaaGF
import Derived.Test.YtpoinhfkgnkedaaSame
import Derived.Test.YtpoinhfkgnkedaaGP
import Derived.Test.YtpoinhfkgnkedaaTfKa
namespace Go.Proofs.Ytpoinhfkgnkedaa.M
open Go.RowKit
set_option linter.unusedVariables false
set_option linter.unusedSectionVars false
set_option linter.unusedSimpArgs false
set_option maxRecDepth 100000 in
set_option maxHeartbeats 2000000 in
/-- OverBytes, of any capacity. -/
theorem over_bigF (g o n c : Nat) (cur : Array Value) (fr : Nat × Nat) (w : World) (hfr : ∀ j, j < cur.size → ¬ (fr.1 ≤ j ∧ j < fr.2)) (hg : w.heap[g]? = some (.cells cur 5 fr)) (hs : o + c ≤ cur.size) (hn : n ≤ c) (hn9 : n ≤ 1000000000000) (hq : ¬ (c : Int) ≤ n + 12) :
    Calls Try.prog 25 #[.slice (some ⟨g, o, none⟩) n c] w fun e w' => e = .returned (.tuple #[]) ∧ But [g] w w' ∧ ∃ cu, w'.heap[g]? = some (.cells cu 5 fr) ∧ cu.size = cur.size := by
  have HG := Lib.hid hg
  have HFR := Lib.hid hfr
  have hlt := lt_of hg
  have e : ((n : Int) + 12).toNat = n + 12 := by omega
  clear hg hfr
  go_enter Try.func25, Try.ntmps25
  go_wp2_with fail
  go_loopw [3] (fun i wr => ∃ k : Nat, k ≤ n + 12 ∧ i = .int .i64 k ∧ (∃ cu, wr.heap[g]? = some (.cells cu 5 fr) ∧ cu.size = cur.size) ∧ But [g] w wr) (fun i _ => n + 12 - (intOf i).toNat)
  case atStart => exact ⟨0, Nat.zero_le _, rfl, ⟨cur, HG.out, rfl⟩, But.refl _ _⟩
  case round =>
    obtain ⟨k, hk, rfl, ⟨cu, hcu, hsz⟩, hb⟩ := hrel
    have HB := Lib.hid hb
    have HC := Lib.hid hcu
    have HZ := Lib.hid hsz
    clear hb hcu hsz
    by_cases hlt2 : k < n + 12
    · have hk0 : (0 : Int) ≤ k := by omega
      have hki : (k : Int) < (n : Int) + 12 := by omega
      have hks : o + k < cu.size := by rw [HZ.out]; omega
      have c1 : wr.cell? ⟨g, o + k, none⟩ = some (cu[o + k]'hks) := by
        unfold World.cell?
        rw [HC.out]
        simp [hks]
      have f1 : wr.frozen? ⟨g, o + k, none⟩ = false := by
        unfold World.frozen?
        rw [HC.out]
        have := HFR.out (o + k) (by rw [← HZ.out]; exact hks)
        simpa using this
      go_wp2_with (go_at_call 50; refine (markB _ _ _).mono ?_; rintro e w1 ⟨rfl, rfl⟩)
      go_roundw
      case rel => exact ⟨k + 1, by omega, by go_num, ⟨cu.setIfInBounds (o + k) (.int .u8 (mb 2 k)), by simp [World.setCell, Array.getElem?_modify, HC.out], by simpa using HZ.out⟩, HB.out.setCell (.inl (by simp)) _⟩
      case measure => simp [intOf]; omega
    · obtain rfl : k = n + 12 := by omega
      go_wp2_with fail
      go_end0
      exact ⟨rfl, HB.out, _, HC.out, HZ.out⟩
set_option maxRecDepth 100000 in
set_option maxHeartbeats 2000000 in
/-- OverBytes, of any capacity. -/
theorem over_smallF (g o n c : Nat) (cur : Array Value) (fr : Nat × Nat) (w : World) (hfr : ∀ j, j < cur.size → ¬ (fr.1 ≤ j ∧ j < fr.2)) (hg : w.heap[g]? = some (.cells cur 5 fr)) (hs : o + c ≤ cur.size) (hn : n ≤ c) (hn9 : n ≤ 1000000000000) (hq : (c : Int) ≤ n + 12) :
    Calls Try.prog 25 #[.slice (some ⟨g, o, none⟩) n c] w fun e w' => e = .returned (.tuple #[]) ∧ But [g] w w' ∧ ∃ cu, w'.heap[g]? = some (.cells cu 5 fr) ∧ cu.size = cur.size := by
  have HG := Lib.hid hg
  have HFR := Lib.hid hfr
  have hlt := lt_of hg
  clear hg hfr
  go_enter Try.func25, Try.ntmps25
  go_wp2_with fail
  go_loopw [3] (fun i wr => ∃ k : Nat, k ≤ c ∧ i = .int .i64 k ∧ (∃ cu, wr.heap[g]? = some (.cells cu 5 fr) ∧ cu.size = cur.size) ∧ But [g] w wr) (fun i _ => c - (intOf i).toNat)
  case atStart => exact ⟨0, Nat.zero_le _, rfl, ⟨cur, HG.out, rfl⟩, But.refl _ _⟩
  case round =>
    obtain ⟨k, hk, rfl, ⟨cu, hcu, hsz⟩, hb⟩ := hrel
    have HB := Lib.hid hb
    have HC := Lib.hid hcu
    have HZ := Lib.hid hsz
    clear hb hcu hsz
    by_cases hlt2 : k < c
    · have hk0 : (0 : Int) ≤ k := by omega
      have hki : (k : Int) < (c : Int) := by omega
      have hks : o + k < cu.size := by rw [HZ.out]; omega
      have c1 : wr.cell? ⟨g, o + k, none⟩ = some (cu[o + k]'hks) := by
        unfold World.cell?
        rw [HC.out]
        simp [hks]
      have f1 : wr.frozen? ⟨g, o + k, none⟩ = false := by
        unfold World.frozen?
        rw [HC.out]
        have := HFR.out (o + k) (by rw [← HZ.out]; exact hks)
        simpa using this
      go_wp2_with (go_at_call 50; refine (markB _ _ _).mono ?_; rintro e w1 ⟨rfl, rfl⟩)
      go_roundw
      case rel => exact ⟨k + 1, by omega, by go_num, ⟨cu.setIfInBounds (o + k) (.int .u8 (mb 2 k)), by simp [World.setCell, Array.getElem?_modify, HC.out], by simpa using HZ.out⟩, HB.out.setCell (.inl (by simp)) _⟩
      case measure => simp [intOf]; omega
    · obtain rfl : k = c := by omega
      go_wp2_with fail
      go_end0
      exact ⟨rfl, HB.out, _, HC.out, HZ.out⟩
theorem overF (g o n c : Nat) (cur : Array Value) (fr : Nat × Nat) (w : World) (hfr : ∀ j, j < cur.size → ¬ (fr.1 ≤ j ∧ j < fr.2)) (hg : w.heap[g]? = some (.cells cur 5 fr)) (hs : o + c ≤ cur.size) (hn : n ≤ c) (hn9 : n ≤ 1000000000000) :
    Calls Try.prog 25 #[.slice (some ⟨g, o, none⟩) n c] w fun e w' => e = .returned (.tuple #[]) ∧ But [g] w w' ∧ ∃ cu, w'.heap[g]? = some (.cells cu 5 fr) ∧ cu.size = cur.size := by
  by_cases h : (c : Int) ≤ n + 12
  · exact over_smallF g o n c cur fr w hfr hg hs hn hn9 h
  · exact over_bigF g o n c cur fr w hfr hg hs hn hn9 h
/-- A row that was made since is written over. -/
theorem over_row {w0 w : World} {v : Value} {bs : List Int} (h : NewRow w0 w v bs) (hl : bs.length ≤ 1000000000000) : Calls Try.prog 25 #[v] w fun e w' => e = .returned (.tuple #[]) ∧ ∃ L, But L w w' ∧ ∀ x ∈ L, w0.heap.size ≤ x := by
  obtain ⟨a, c, rfl, ho, hlow⟩ := h
  rcases ho with ⟨h1, _⟩ | ⟨g, o, cap, cur, h1, hg, hc, hm, hs, _⟩
  · rw [h1]
    exact (over_nil w).mono fun _ _ ⟨e, hb⟩ => ⟨e, [], hb, by simp⟩
  · rw [u8s_len] at h1 hc
    simp only [Value.slice.injEq] at h1
    obtain ⟨rfl, -, rfl⟩ := h1
    exact (overF g o bs.length c cur (0, 0) w (fun j _ h => by omega) hg hs hc hl).mono fun _ _ ⟨e, hb, _⟩ => ⟨e, [g], hb, fun x hx => by have e : x = g := (by simpa using hx); rw [e]; exact hlow g rfl⟩
end Go.Proofs.Ytpoinhfkgnkedaa.M
namespace Go.Proofs.Ytpoinhfkgnkedaa.M
open Go.RowKit
set_option linter.unusedVariables false
set_option linter.unusedSectionVars false
set_option linter.unusedSimpArgs false
theorem row_at2 {w : World} {oa : Option Addr} {n oc : Nat} {rows : List (List Int)} (h : SeesRows w (.slice oa n oc) (rows.map u8s)) : n = rows.length ∧ ∀ (i : Nat) (r : List Int), rows[i]? = some r → ∃ ad a c, oa = some ad ∧ w.cell? (ad.add i) = some (.slice a r.length c) ∧ Sees w (.slice a r.length c) (u8s r) := by
  obtain ⟨vals, h1, h2, h3⟩ := h
  obtain ⟨a', c', e, hx⟩ := sees_shape h1
  simp only [Value.slice.injEq] at e
  obtain ⟨rfl, rfl, rfl⟩ := e
  rw [List.length_map] at h2
  refine ⟨h2, fun i r hr => ?_⟩
  have hi : i < vals.length := by rw [h2]; exact (List.getElem?_eq_some_iff.1 hr).1
  have hv := List.getElem?_eq_getElem hi
  obtain ⟨ad, rfl, hc⟩ := hx i _ hv
  have hs := h3 i _ _ hv (by rw [List.getElem?_map, hr]; rfl)
  obtain ⟨a, c, e2, _⟩ := sees_shape hs
  rw [u8s_len] at e2
  rw [e2] at hc hs
  exact ⟨ad, a, c, rfl, hc, hs⟩
theorem sr_nums {j n : Nat} (h : j < n) (hn : n ≤ 1048576) : (0 : Int) ≤ j ∧ (j : Int) < n ∧ wrap64 ((j : Int) + 1) = (j : Int) + 1 ∧ IntKind.i64.wrap ((j : Int) + 1) = (j : Int) + 1 := by
  refine ⟨by omega, by omega, ?_, ?_⟩
  · rw [wrap64]; omega
  · rw [IntKind.wrap_i64]; omega
theorem sr_meas {j n : Nat} (h : j < n) : n - (intOf (.int .i64 ((j : Int) + 1))).toNat < n - (intOf (.int .i64 (j : Int))).toNat := by
  simp only [intOf]
  omega
theorem take_ne {X Y : List (List Int)} {k : Nat} {x y : List Int} (hx : X[k]? = some x) (hy : Y[k]? = some y) (hne : x ≠ y) : X ≠ Y := fun e => by
  rw [e, hy] at hx
  exact hne (Option.some.inj hx).symm
set_option maxRecDepth 100000 in
set_option maxHeartbeats 4000000 in
theorem sameRows (a b : Option Addr) (c d : Nat) (X Y : List (List Int)) (w : World) (hs : SeesRows w (.slice a X.length c) (X.map u8s)) (ht : SeesRows w (.slice b Y.length d) (Y.map u8s)) (hl : ∀ r ∈ X, r.length ≤ 1000000000000) (hn : X.length ≤ 1048576) :
    Calls Try.prog 29 #[.slice a X.length c, .slice b Y.length d] w fun e w' => e = .returned (.bool (decide (X = Y))) ∧ But [] w w' := by
  have HX := Lib.hid (row_at2 hs).2
  have HY := Lib.hid (row_at2 ht).2
  have HL := Lib.hid hl
  clear hs ht hl
  by_cases hlen : X.length = Y.length
  · rw [← hlen]
    have HLN := Lib.hid hlen
    have HN := Lib.hid hn
    clear hlen
    go_enter Try.func29, Try.ntmps29
    go_wp2_with fail
    go_loopw [5] (fun i wr => ∃ k : Nat, k ≤ X.length ∧ i = .int .i64 k ∧ X.take k = Y.take k ∧ But [] w wr) (fun i _ => X.length - (intOf i).toNat)
    case atStart => exact ⟨0, Nat.zero_le _, rfl, by simp, But.refl _ _⟩
    case round =>
      obtain ⟨k, hk, rfl, heq, hbut⟩ := hrel
      have HB := Lib.hid hbut
      have HE := Lib.hid heq
      clear hbut heq
      by_cases hlt : k < X.length
      · obtain ⟨hk0, hk1, hw1, hw2⟩ := sr_nums hlt HN.out
        obtain ⟨x, hxk⟩ : ∃ x, X[k]? = some x := ⟨_, List.getElem?_eq_getElem hlt⟩
        obtain ⟨y, hyk⟩ : ∃ y, Y[k]? = some y := ⟨_, List.getElem?_eq_getElem (by have := HLN.out; omega)⟩
        obtain ⟨ad, xa, xc, rfl, hcx, hsx⟩ := HX.out k x hxk
        obtain ⟨bd, ya, yc, rfl, hcy, hsy⟩ := HY.out k y hyk
        have h1 : wr.cell? (ad.add k) = some (.slice xa x.length xc) := cell_but HB.out hcx (by simp)
        have h2 : wr.cell? (bd.add k) = some (.slice ya y.length yc) := cell_but HB.out hcy (by simp)
        have HXK := Lib.hid hxk
        have HYK := Lib.hid hyk
        have HLT := Lib.hid hlt
        have HSM := Lib.hid (same _ _ x y wr.drew (hsx.but HB.out.drew (by simp)) (hsy.but HB.out.drew (by simp)) (HL.out x (List.mem_of_getElem? hxk)))
        clear hcx hcy hsx hsy hxk hyk hlt
        by_cases hxy : x = y
        · subst hxy
          rw [decide_eq_true rfl] at HSM
          go_wp2_with fail
          refine wp_region_tail9 8 (by kernel_rfl) (by kernel_rfl) ?_
          simp only [List.take_succ_cons, List.take_zero, List.drop_succ_cons, List.drop_zero]
          repeat still_step
          refine wpStill_nil ?_
          go_wp2_with fail
          refine HSM.out.mono ?_
          rintro e w2 ⟨rfl, hb2⟩
          have HB2 := Lib.hid (HB.out.drew.trans hb2 (by simp))
          clear hb2 h1 h2 HSM
          go_wp2_with fail
          go_roundw
          case rel => exact ⟨k + 1, HLT.out, by go_num, by rw [List.take_add_one, List.take_add_one, HE.out, HXK.out, HYK.out], HB2.out⟩
          case measure => first | exact sr_meas HLT.out | exact (by rw [hw1]; exact sr_meas HLT.out)
        · rw [decide_eq_false hxy] at HSM
          have hXY : decide (X = Y) = false := decide_eq_false (take_ne HXK.out HYK.out hxy)
          have HXY := Lib.hid hXY
          clear hxy hXY
          go_wp2_with fail
          refine wp_region_tail9 8 (by kernel_rfl) (by kernel_rfl) ?_
          simp only [List.take_succ_cons, List.take_zero, List.drop_succ_cons, List.drop_zero]
          repeat still_step
          refine wpStill_nil ?_
          go_wp2_with fail
          refine HSM.out.mono ?_
          rintro e w2 ⟨rfl, hb2⟩
          have HB2 := Lib.hid (HB.out.drew.trans hb2 (by simp))
          clear hb2 h1 h2 HSM
          go_wp2_with fail
          go_ret
          exact ⟨(congrArg (fun b => Ending.returned (Value.bool b)) HXY.out.symm), HB2.out⟩
      · obtain rfl : k = X.length := num_eq hk hlt
        have hXY : decide (X = Y) = true := decide_eq_true (by
          have h1 := HE.out
          rw [List.take_length, HLN.out, List.take_length] at h1
          exact h1)
        have HXY := Lib.hid hXY
        clear hXY hlt hk
        go_wp2_with fail
        go_ret
        exact ⟨(congrArg (fun b => Ending.returned (Value.bool b)) HXY.out.symm), HB.out⟩
  · have hXY : decide (X = Y) = false := decide_eq_false (fun e => hlen (by rw [e]))
    have HXY := Lib.hid hXY
    have hd : ((X.length : Int) != (Y.length : Int)) = true := by
      simp only [bne_iff_ne, ne_eq]
      omega
    clear hlen hXY
    go_enter Try.func29, Try.ntmps29
    go_wp2_with fail
    go_ret
    exact ⟨(congrArg (fun b => Ending.returned (Value.bool b)) HXY.out.symm), But.refl _ _⟩
end Go.Proofs.Ytpoinhfkgnkedaa.M
namespace Go.Proofs.Ytpoinhfkgnkedaa.M
open Go.RowKit
set_option linter.unusedVariables false
set_option linter.unusedSectionVars false
set_option linter.unusedSimpArgs false
/-- What turns is new since w, and none of Bx. -/
def KeptX (Bx : List Nat) (w W W' : World) : Prop := ∃ L, But L W W' ∧ ∀ x ∈ L, w.heap.size ≤ x ∧ x ∉ Bx
theorem KeptX.heap {Bx : List Nat} {w W W' : World} (h : KeptX Bx w W W') {g : Nat} {o : Obj} (hg : W.heap[g]? = some o) (hm : g ∈ Bx) : W'.heap[g]? = some o := by
  obtain ⟨L, hb, hL⟩ := h
  exact hb.heap hg (fun hm2 => (hL _ hm2).2 hm)
/-- Both tries; Bx: blocks of neither. -/
def DL (w W : World) (Bx : List Nat) (P R K V N : Nat) (E : EMap) (rows : List (List Int)) (B : LSt) (rowsB : List (List Int)) : Prop :=
  ∃ (S T : Nat → Prop), TO w W S P K V N E rows ∧ RefL W T R K V N B rowsB ∧ (∀ b, T b → w.heap.size ≤ b ∧ b < W.heap.size) ∧ (∀ b, S b → ¬ T b) ∧ ∀ b ∈ Bx, ¬ S b ∧ ¬ T b ∧ b < W.heap.size
section
variable {w W : World} {Bx : List Nat} {P R K V N : Nat} {E : EMap} {B : LSt} {rows rowsB : List (List Int)}
theorem DL.but (h : DL w W Bx P R K V N E rows B rowsB) : But [] w W := by
  obtain ⟨S, T, h1, _⟩ := h
  exact h1.but
theorem DL.keep {W' : World} {L : List Nat} (h : DL w W Bx P R K V N E rows B rowsB) (hb : But L W W') (hL : ∀ x ∈ L, x ∈ Bx ∧ w.heap.size ≤ x) : DL w W' Bx P R K V N E rows B rowsB := by
  obtain ⟨S, T, h1, h2, h3, h4, h5⟩ := h
  exact ⟨S, T, h1.keep hb (fun x hx => ⟨(h5 x (hL x hx).1).1, (hL x hx).2⟩), h2.keep hb (fun x hx => (h5 x (hL x hx).1).2.1), fun b hb' => ⟨(h3 b hb').1, Nat.lt_of_lt_of_le (h3 b hb').2 hb.size⟩, h4, fun b hb' => ⟨(h5 b hb').1, (h5 b hb').2.1, Nat.lt_of_lt_of_le (h5 b hb').2.2 hb.size⟩⟩
theorem DL.box {W' : World} (h : DL w W Bx P R K V N E rows B rowsB) (hb : But [] W W') {g : Nat} (hg : W.heap.size ≤ g) (hg2 : g < W'.heap.size) : DL w W' (g :: Bx) P R K V N E rows B rowsB := by
  obtain ⟨S0, T0, k1, k2, k3, k4, k5⟩ := h
  refine ⟨S0, T0, k1.keep hb (by simp), k2.keep hb (by simp), fun b hb' => ⟨(k3 b hb').1, Nat.lt_of_lt_of_le (k3 b hb').2 hb.size⟩, k4, fun b hb' => ?_⟩
  rcases List.mem_cons.1 hb' with rfl | hb'
  · exact ⟨fun hs => by have := (k1.low _ hs).2; omega, fun ht => by have := (k3 _ ht).2; omega, hg2⟩
  · exact ⟨(k5 b hb').1, (k5 b hb').2.1, Nat.lt_of_lt_of_le (k5 b hb').2.2 hb.size⟩
theorem DL.sub {Bx' : List Nat} (h : DL w W Bx P R K V N E rows B rowsB) (hs : ∀ b ∈ Bx', b ∈ Bx) : DL w W Bx' P R K V N E rows B rowsB := by
  obtain ⟨S, T, h1, h2, h3, h4, h5⟩ := h
  exact ⟨S, T, h1, h2, h3, h4, fun b hb => h5 b (hs b hb)⟩
theorem DL.turnT {w' : World} {E' : EMap} {rows' : List (List Int)} {S T : Nat → Prop} (h1 : TO w W S P K V N E rows) (h2 : RefL W T R K V N B rowsB) (h3 : ∀ b, T b → w.heap.size ≤ b ∧ b < W.heap.size) (h4 : ∀ b, S b → ¬ T b) (h5 : ∀ b ∈ Bx, ¬ S b ∧ ¬ T b ∧ b < W.heap.size) (hr : ∃ S', TO w w' S' P K V N E' rows' ∧ TurnsO S S' W w') : DL w w' Bx P R K V N E' rows' B rowsB ∧ KeptX Bx w W w' := by
  obtain ⟨S', k1, kS, L, kL, kb⟩ := hr
  have hT : ∀ x ∈ L, ¬ T x := fun x hx ht => by
    rcases kL x hx with h | h
    · exact h4 x h ht
    · have := (h3 x ht).2; omega
  refine ⟨⟨S', T, k1, h2.keep kb hT, fun b hb => ⟨(h3 b hb).1, Nat.lt_of_lt_of_le (h3 b hb).2 kb.size⟩, fun b hs ht => h4 b (kS b (h3 b ht).2 hs) ht, fun b hb => ⟨fun hs => (h5 b hb).1 (kS b (h5 b hb).2.2 hs), (h5 b hb).2.1, Nat.lt_of_lt_of_le (h5 b hb).2.2 kb.size⟩⟩, L, kb, fun x hx => ⟨?_, fun hm => ?_⟩⟩
  · rcases kL x hx with h | h
    · exact (h1.low x h).1
    · exact Nat.le_trans h1.but.size h
  · rcases kL x hx with h | h
    · exact (h5 x hm).1 h
    · have := (h5 x hm).2.2; omega
theorem DL.turnR {w' : World} {B' : LSt} {rowsB' : List (List Int)} {S T : Nat → Prop} (h1 : TO w W S P K V N E rows) (h3 : ∀ b, T b → w.heap.size ≤ b ∧ b < W.heap.size) (h4 : ∀ b, S b → ¬ T b) (h5 : ∀ b ∈ Bx, ¬ S b ∧ ¬ T b ∧ b < W.heap.size) (hr : RefL w' (fun b => T b ∨ W.heap.size ≤ b) R K V N B' rowsB') (ht : Turns (fun b => T b ∨ W.heap.size ≤ b) W w') : DL w w' Bx P R K V N E rows B' rowsB' ∧ KeptX Bx w W w' := by
  obtain ⟨L, kL, kb⟩ := ht
  have hlow : ∀ x ∈ L, w.heap.size ≤ x := fun x hx => by
    rcases kL x hx with h | h
    · exact (h3 x h).1
    · exact Nat.le_trans h1.but.size h
  have hS : ∀ x ∈ L, ¬ S x := fun x hx hs => by
    rcases kL x hx with h | h
    · exact h4 x hs h
    · have := (h1.low x hs).2; omega
  refine ⟨⟨S, fun b => (T b ∨ W.heap.size ≤ b) ∧ b < w'.heap.size, h1.keep kb (fun x hx => ⟨hS x hx, hlow x hx⟩), hr.also (fun x hx h => ⟨h, hx⟩), fun b hb => ⟨?_, hb.2⟩, fun b hs hb => ?_, fun b hb => ⟨(h5 b hb).1, fun ht => ?_, Nat.lt_of_lt_of_le (h5 b hb).2.2 kb.size⟩⟩, L, kb, fun x hx => ⟨hlow x hx, fun hm => ?_⟩⟩
  · rcases hb.1 with h | h
    · exact (h3 b h).1
    · exact Nat.le_trans h1.but.size h
  · rcases hb.1 with h | h
    · exact h4 b hs h
    · have := (h1.low b hs).2; omega
  · rcases ht.1 with h | h
    · exact (h5 b hb).2.1 h
    · have := (h5 b hb).2.2; omega
  · rcases kL x hx with h | h
    · exact (h5 x hm).2.1 h
    · have := (h5 x hm).2.2; omega
theorem DL.keptNil {w' : World} (h : DL w W Bx P R K V N E rows B rowsB) (hb : But [] W w') : DL w w' Bx P R K V N E rows B rowsB ∧ KeptX Bx w W w' := ⟨h.keep hb (by simp), [], hb, by simp⟩
theorem DL.lookT (h : DL w W Bx P R K V N E rows B rowsB) (a : Option Addr) (c : Nat) {ks : List Int} (hs : Sees W (.slice a ks.length c) (u8s ks)) (hk : ByteL ks) :
    Calls Try.prog 14 #[.pointer (some ⟨P, 0, none⟩), .slice a ks.length c] W fun r w' => r = .returned (.tuple #[.int .i64 (M.lookT K E ks).1, .int .i64 (M.lookT K E ks).2]) ∧ DL w w' Bx P R K V N E rows B rowsB ∧ KeptX Bx w W w' := by
  have h' := h
  obtain ⟨S, T, h1, h2, h3, h4, h5⟩ := h
  refine (h1.lookup a c hs hk).mono ?_
  rintro r w' ⟨rfl, hr⟩
  exact ⟨rfl, h'.keptNil hr⟩
theorem DL.delT (h : DL w W Bx P R K V N E rows B rowsB) (a : Option Addr) (c : Nat) {ks : List Int} (hs : Sees W (.slice a ks.length c) (u8s ks)) (hk : ByteL ks) :
    Calls Try.prog 11 #[.pointer (some ⟨P, 0, none⟩), .slice a ks.length c] W fun r w' => r = .returned (.int .i64 (M.delT K E ks).1) ∧ DL w w' Bx P R K V N (M.delT K E ks).2 rows B rowsB ∧ KeptX Bx w W w' := by
  obtain ⟨S, T, h1, h2, h3, h4, h5⟩ := h
  refine (h1.delete a c hs hk).mono ?_
  rintro r w' ⟨rfl, hr⟩
  exact ⟨rfl, DL.turnT h1 h2 h3 h4 h5 hr⟩
theorem DL.updT (h : DL w W Bx P R K V N E rows B rowsB) (g gv : Nat) (c vc : Nat) (hg : g ∈ Bx) (hgv : gv ∈ Bx) {ks vs : List Int} (hs : Sees W (.slice (some ⟨g, 0, none⟩) ks.length c) (u8s ks)) (hk : ByteL ks) (hvs : Sees W (.slice (some ⟨gv, 0, none⟩) vs.length vc) (u8s vs)) (hv : ByteL vs) (f : Int) :
    Calls Try.prog 12 #[.pointer (some ⟨P, 0, none⟩), .slice (some ⟨g, 0, none⟩) ks.length c, .slice (some ⟨gv, 0, none⟩) vs.length vc, .int .u64 f] W fun r w' => r = .returned (.int .i64 (M.updT K V N E rows ks vs f).1) ∧ DL w w' Bx P R K V N (M.updT K V N E rows ks vs f).2.1 (M.updT K V N E rows ks vs f).2.2 B rowsB ∧ KeptX Bx w W w' := by
  obtain ⟨S, T, h1, h2, h3, h4, h5⟩ := h
  refine (h1.update (some ⟨g, 0, none⟩) c hs hk (some ⟨gv, 0, none⟩) vc hvs hv f (fun _ b hb => by cases hb; exact (h5 g hg).1) (fun _ b hb => by cases hb; exact (h5 gv hgv).1)).mono ?_
  rintro r w' ⟨rfl, hr⟩
  exact ⟨rfl, DL.turnT h1 h2 h3 h4 h5 hr⟩
theorem DL.setT (h : DL w W Bx P R K V N E rows B rowsB) (p off : Int) (a : Option Addr) (c : Nat) {bs : List Int} (hs : Sees W (.slice a bs.length c) (u8s bs)) (hby : ByteL bs) (hn : bs.length ≤ 140737488351232) :
    Calls Try.prog 26 #[.pointer (some ⟨P, 0, none⟩), .int .i64 p, .int .i64 off, .slice a bs.length c] W fun e w' => e = .returned (.int .i64 (setA V N rows p off bs).1) ∧ DL w w' Bx P R K V N E (setA V N rows p off bs).2 B rowsB ∧ KeptX Bx w W w' := by
  obtain ⟨S, T, h1, h2, h3, h4, h5⟩ := h
  refine (h1.set p off a c hs hby hn).mono ?_
  rintro r w' ⟨rfl, hr⟩
  exact ⟨rfl, DL.turnT h1 h2 h3 h4 h5 hr⟩
theorem DL.ref (h : DL w W Bx P R K V N E rows B rowsB) : ∃ T : Nat → Prop, RefL W (fun b => T b ∨ W.heap.size ≤ b) R K V N B rowsB ∧ (∀ b, T b → w.heap.size ≤ b) ∧ ∀ (w' : World) (B' : LSt) (rowsB' : List (List Int)), RefL w' (fun b => T b ∨ W.heap.size ≤ b) R K V N B' rowsB' → Turns (fun b => T b ∨ W.heap.size ≤ b) W w' → DL w w' Bx P R K V N E rows B' rowsB' ∧ KeptX Bx w W w' := by
  obtain ⟨S, T, h1, h2, h3, h4, h5⟩ := h
  exact ⟨T, h2.also (fun x _ hx => .inl hx), fun b hb => (h3 b hb).1, fun w' B' rowsB' hr ht => DL.turnR h1 h3 h4 h5 hr ht⟩
theorem DL.lookR (h : DL w W Bx P R K V N E rows B rowsB) (a : Option Addr) (c : Nat) {ks : List Int} (hs : Sees W (.slice a ks.length c) (u8s ks)) (hk : ByteL ks) :
    Calls Try.prog 22 #[.pointer (some ⟨R, 0, none⟩), .slice a ks.length c] W fun e w' => e = .returned (.tuple #[.int .i64 (M.lookR K B ks).1, .int .i64 (M.lookR K B ks).2]) ∧ DL w w' Bx P R K V N E rows B rowsB ∧ KeptX Bx w W w' := by
  have h' := h
  obtain ⟨T, h1, h2, h3⟩ := h.ref
  refine (h1.lookup a c hs hk).mono ?_
  rintro r w' ⟨rfl, hr⟩
  exact ⟨rfl, h'.keptNil hr⟩
theorem DL.delR (h : DL w W Bx P R K V N E rows B rowsB) (a : Option Addr) (c : Nat) {ks : List Int} (hs : Sees W (.slice a ks.length c) (u8s ks)) (hk : ByteL ks) :
    Calls Try.prog 23 #[.pointer (some ⟨R, 0, none⟩), .slice a ks.length c] W fun e w' => e = .returned (.int .i64 (M.delR K B ks).1) ∧ DL w w' Bx P R K V N E rows (M.delR K B ks).2 rowsB ∧ KeptX Bx w W w' := by
  obtain ⟨T, h1, h2, h3⟩ := h.ref
  refine (h1.delete (fun b hb => .inr hb) a c hs hk).mono ?_
  rintro r w' ⟨rfl, k1, k2⟩
  exact ⟨rfl, h3 _ _ _ k1 k2⟩
theorem DL.setR (h : DL w W Bx P R K V N E rows B rowsB) (p off : Int) (a : Option Addr) (c : Nat) {bs : List Int} (hs : Sees W (.slice a bs.length c) (u8s bs)) (hby : ByteL bs) (hn : bs.length ≤ 140737488351232) :
    Calls Try.prog 27 #[.pointer (some ⟨R, 0, none⟩), .int .i64 p, .int .i64 off, .slice a bs.length c] W fun e w' => e = .returned (.int .i64 (setA V N rowsB p off bs).1) ∧ DL w w' Bx P R K V N E rows B (setA V N rowsB p off bs).2 ∧ KeptX Bx w W w' := by
  obtain ⟨T, h1, h2, h3⟩ := h.ref
  refine (h1.set p off a c hs hby hn).mono ?_
  rintro r w' ⟨rfl, k1, k2⟩
  exact ⟨rfl, h3 _ _ _ k1 k2⟩
theorem DL.updR (h : DL w W Bx P R K V N E rows B rowsB) (a vb : Option Addr) (c vc : Nat) {ks vs : List Int} (hs : Sees w (.slice a ks.length c) (u8s ks)) (hk : ByteL ks) (hvs : Sees w (.slice vb vs.length vc) (u8s vs)) (hv : ByteL vs) (f : Int) (hpn : (B.map (·.2)).Nodup) :
    Calls Try.prog 30 #[.pointer (some ⟨R, 0, none⟩), .slice a ks.length c, .slice vb vs.length vc, .int .u64 f] W fun e w' => e = .returned (.int .i64 (M.updR K V N B rowsB ks vs f).1) ∧ DL w w' Bx P R K V N E rows (M.updR K V N B rowsB ks vs f).2.1 (M.updR K V N B rowsB ks vs f).2.2 ∧ KeptX Bx w W w' := by
  have hb := h.but
  obtain ⟨T, h1, h2, h3⟩ := h.ref
  refine (h1.update (fun b hb => .inr hb) a vb c vc (hs.but hb (by simp)) hk (hvs.but hb (by simp)) hv f hpn).mono ?_
  rintro r w' ⟨rfl, k1, k2⟩
  exact ⟨rfl, h3 _ _ _ k1 k2⟩
theorem DL.valT (h : DL w W Bx P R K V N E rows B rowsB) (p : Int) :
    Calls Try.prog 18 #[.pointer (some ⟨P, 0, none⟩), .int .i64 p] W fun e w' => ∃ v, e = .returned (.tuple #[v, .int .i64 (valA N rows p).2]) ∧ NewRow W w' v (valA N rows p).1 ∧ But [] W w' := by
  obtain ⟨S, T, h1, _⟩ := h
  exact h1.value p
theorem DL.valR (h : DL w W Bx P R K V N E rows B rowsB) (p : Int) :
    Calls Try.prog 24 #[.pointer (some ⟨R, 0, none⟩), .int .i64 p] W fun e w' => ∃ v, e = .returned (.tuple #[v, .int .i64 (valA N rowsB p).2]) ∧ NewRow W w' v (valA N rowsB p).1 ∧ But [] W w' := by
  obtain ⟨S, T, _, h2, _⟩ := h
  exact h2.value p
/-- Keys that were told: rows that may be written over. -/
structure KeyL (base : Nat) (W : World) (a : Option Addr) (n c : Nat) (vals : List Value) : Prop where
  own : OwnQ W 26 (.slice a n c) vals
  rows : ∀ v ∈ vals, ∃ (g o m c' : Nat) (cur : Array Value), v = .slice (some ⟨g, o, none⟩) m c' ∧ m ≤ c' ∧ m ≤ 1000000000000 ∧ base ≤ g ∧ W.heap[g]? = some (.cells cur 5 (0, 0)) ∧ o + c' ≤ cur.size
theorem KeyL.keep {base : Nat} {W W' : World} {a : Option Addr} {n c : Nat} {vals : List Value} (h : KeyL base W a n c vals) (hb : But [] W W') : KeyL base W' a n c vals :=
  ⟨h.own.but hb (by simp), fun v hv => by
    obtain ⟨g, o, m, c, cur, h1, h2, h3, h4, h5, h6⟩ := h.rows v hv
    exact ⟨g, o, m, c, cur, h1, h2, h3, h4, hb.heap h5 (by simp), h6⟩⟩
theorem KeyL.over {base : Nat} {W : World} {a : Option Addr} {n c : Nat} {vals : List Value} (h : KeyL base W a n c vals) {v : Value} (hv : v ∈ vals) :
    Calls Try.prog 25 #[v] W fun e w' => e = .returned (.tuple #[]) ∧ KeyL base w' a n c vals ∧ ∃ L, But L W w' ∧ ∀ x ∈ L, base ≤ x := by
  obtain ⟨g, o, m, c1, cur, rfl, h2, h3, h4, h5, h6⟩ := h.rows v hv
  refine (overF g o m c1 cur (0, 0) W (fun j _ h => by omega) h5 h6 h2 h3).mono ?_
  rintro e w' ⟨rfl, hb, cu, hg, hz⟩
  refine ⟨rfl, ⟨h.own.but hb (fun b hb' hm => ?_), fun u hu => ?_⟩, [g], hb, fun x hx => by have e : x = g := (by simpa using hx); rw [e]; exact h4⟩
  · have e : b = g := (by simpa using hm)
    subst e
    obtain ⟨cur', hc⟩ := h.own.tag _ hb'
    rw [h5] at hc
    simp only [Option.some.injEq, Obj.cells.injEq] at hc
    exact absurd hc.2.1 (by decide)
  · obtain ⟨g2, o2, m2, c2, cur2, e2, k2, k3, k4, k5, k6⟩ := h.rows u hu
    by_cases e : g2 = g
    · subst e
      rw [h5] at k5
      simp only [Option.some.injEq, Obj.cells.injEq] at k5
      obtain ⟨rfl, _⟩ := k5
      exact ⟨g2, o2, m2, c2, cu, e2, k2, k3, k4, hg, by omega⟩
    · exact ⟨g2, o2, m2, c2, cur2, e2, k2, k3, k4, hb.heap k5 (by simpa using e), k6⟩
theorem KeyL.at' {base : Nat} {W : World} {a : Option Addr} {n c : Nat} {vals : List Value} (h : KeyL base W a n c vals) {k : Nat} (hk : k < n) : ∃ ad g o m c', a = some ad ∧ W.cell? (ad.add k) = some (.slice (some ⟨g, o, none⟩) m c') ∧ Value.slice (some ⟨g, o, none⟩) m c' ∈ vals := by
  have hl := h.own.len
  obtain ⟨v, hv⟩ : ∃ v, vals[k]? = some v := ⟨_, List.getElem?_eq_getElem (by omega)⟩
  obtain ⟨g, o, m, c1, cur, rfl, _⟩ := h.rows v (List.mem_of_getElem? hv)
  obtain ⟨g0, o0, rfl⟩ := h.own.addr (by omega)
  exact ⟨_, g, o, m, c1, rfl, by rw [add_at]; exact h.own.cellAt hv, List.mem_of_getElem? hv⟩
theorem DL.rowsOf (h : DL w W Bx P R K V N E rows B rowsB) (hA : AE B E) : 5 ≤ K ∧ K ≤ 36 ∧ B.length ≤ N ∧ N ≤ 1024 ∧ (∀ x ∈ B, SignK K x.1) ∧ (∀ r ∈ (sortS (B.map (·.1))).map fun cs => rowR K (unchs cs), r.length = K) ∧ ((sortS (B.map (·.1))).map fun cs => rowR K (unchs cs)).length = B.length ∧ ∀ (p : Int), (valA N rows p).1.length ≤ 1048576 := by
  obtain ⟨S, T, h1, h2, _⟩ := h
  have hn := h1.num
  refine ⟨hn.1.1, hn.1.2, h2.len, hn.2.2.2, fun x hx => ?_, fun r hr => ?_, ?_, fun p => ?_⟩
  · obtain ⟨π, e1, e2⟩ := hA.back x.1 x.2 hx
    obtain ⟨ks, k1, k2, k3⟩ := h1.key e2
    refine ⟨π, e1, fun b hb => ?_, ?_⟩
    · rw [← k3] at hb; exact kbits_01 ks b hb
    · rw [← k3, kbits_len, ← k2]; exact k1.le
  · obtain ⟨cs, _, rfl⟩ := List.mem_map.1 hr
    rw [rowR_eq, putAll_len, headR_len _ hn.1.1]
  · rw [List.length_map, (sortS_all _).1.length_eq, List.length_map]
  · unfold valA
    split
    · simp
    · rename_i hp
      obtain ⟨r, hr, hrl, _⟩ := h1.rowAt hp
      simp [hr]
      omega
theorem KeysE.perm {K : Nat} {E : EMap} {L Q : List (List Int)} (h : KeysE K E L) (hp : Q.Perm L) : KeysE K E Q :=
  ⟨fun ks hk => h.ok ks (hp.mem_iff.1 hk), fun π p he => by
    obtain ⟨ks, h1, h2⟩ := h.all π p he
    exact ⟨ks, hp.mem_iff.2 h1, h2⟩, (hp.map kbits).nodup_iff.2 h.nodup⟩
/-- Keys, of both: the same rows. -/
def keysX (K : Nat) (B : LSt) : List (List Int) := (sortS (B.map (·.1))).map fun cs => rowR K (unchs cs)
theorem DL.keysT (h : DL w W Bx P R K V N E rows B rowsB) (hA : AE B E) :
    Calls Try.prog 13 #[.pointer (some ⟨P, 0, none⟩)] W fun e w' => ∃ a c, e = .returned (.slice a (keysX K B).length c) ∧ SeesRows w' (.slice a (keysX K B).length c) ((keysX K B).map u8s) ∧ (∃ vals, KeyL W.heap.size w' a (keysX K B).length c vals) ∧ But [] W w' := by
  obtain ⟨hK5, hK, -, -, -, hr, hrl, -⟩ := h.rowsOf hA
  obtain ⟨S, T, h1, _⟩ := h
  refine h1.keys.mono ?_
  rintro e w' ⟨a, c, L, rfl, hE, hN, ps, hp, hown, hnew, hap, hs, hlow, hb⟩
  have hX : ps.map (·.2) = keysX K B := keys_same hK (hE.perm hp) (List.pairwise_map.2 hs) hA
  have hl : L.length = ps.length := by rw [← hp.length_eq, List.length_map]
  have hl2 : (keysX K B).length = ps.length := by rw [← hX, List.length_map]
  refine ⟨a, c, by rw [hl, hl2], ⟨ps.map (·.1), by rw [hl2]; exact hown.sees, by rw [List.length_map, List.length_map, hl2], fun i x r hx hr2 => ?_⟩, ⟨ps.map (·.1), by rw [hl2]; exact hown, fun v hv => ?_⟩, hb⟩
  · rw [← hX, List.getElem?_map, List.getElem?_map] at hr2
    rw [List.getElem?_map] at hx
    cases hq : ps[i]? with
    | none => rw [hq] at hx; cases hx
    | some p =>
      rw [hq] at hx hr2
      simp only [Option.map_some, Option.some.injEq] at hx hr2
      subst hx
      subst hr2
      obtain ⟨va, vc, e1, h2, _⟩ := hnew p (List.mem_of_getElem? hq)
      rw [e1]
      exact h2.sees
  · obtain ⟨p, hpm, rfl⟩ := List.mem_map.1 hv
    obtain ⟨va, vc, e1, h2, h3⟩ := hnew p hpm
    have hpl : p.2.length = K := hr p.2 (by
      show p.2 ∈ keysX K B
      rw [← hX]
      exact List.mem_map_of_mem hpm)
    rcases h2 with ⟨e2, _⟩ | ⟨g, o, cap, cur, e2, hg, hc, hm, hsz, _⟩
    · simp only [Value.slice.injEq] at e2
      omega
    · simp only [Value.slice.injEq] at e2
      obtain ⟨rfl, hq2, rfl⟩ := e2
      rw [u8s_len] at hc
      exact ⟨g, o, p.2.length, vc, cur, e1, by omega, by omega, h3 g rfl, hg, hsz⟩
theorem DL.keysR (h : DL w W Bx P R K V N E rows B rowsB) (hA : AE B E) :
    Calls Try.prog 28 #[.pointer (some ⟨R, 0, none⟩)] W fun e w' => ∃ a c, e = .returned (.slice a (keysX K B).length c) ∧ SeesRows w' (.slice a (keysX K B).length c) ((keysX K B).map u8s) ∧ But [] W w' := by
  obtain ⟨-, -, -, -, hk, -, hrl, -⟩ := h.rowsOf hA
  obtain ⟨S, T, _, h2, _⟩ := h
  have e : (keysX K B).length = B.length := hrl
  rw [e]
  exact h2.keysR hk
end
theorem newRow_but {w0 w w' : World} {v : Value} {bs : List Int} (h : NewRow w0 w v bs) (hb : But [] w w') : NewRow w0 w' v bs := by
  obtain ⟨a, c, e, h1, h2⟩ := h
  exact ⟨a, c, e, h1.but hb (by simp), h2⟩
theorem same_rowsX (a b : Option Addr) (c d : Nat) (X : List (List Int)) (w : World) (hs : SeesRows w (.slice a X.length c) (X.map u8s)) (ht : SeesRows w (.slice b X.length d) (X.map u8s)) (hl : ∀ r ∈ X, r.length ≤ 1000000000000) (hn : X.length ≤ 1048576) :
    Calls Try.prog 29 #[.slice a X.length c, .slice b X.length d] w fun e w' => e = .returned (.bool true) ∧ But [] w w' := by
  have := sameRows a b c d X X w hs ht hl hn
  rw [decide_eq_true rfl] at this
  exact this
theorem same_bytesX (a b : Option Addr) (c d : Nat) (xs : List Int) (w : World) (hs : Sees w (.slice a xs.length c) (u8s xs)) (ht : Sees w (.slice b xs.length d) (u8s xs)) (hl : xs.length ≤ 1000000000000) :
    Calls Try.prog 19 #[.slice a xs.length c, .slice b xs.length d] w fun e w' => e = .returned (.bool true) ∧ But [] w w' := by
  have := same _ _ xs xs w hs ht hl
  rw [decide_eq_true rfl] at this
  exact this
/-- The reference's trie, as New leaves it. -/
theorem refL_new {K V N : Nat} {w w' : World} {X : Nat} {a : Option Addr} {c : Nat} {vals : List Value} (h : NewR K N w w' X V a c vals) (hl : vals.length = N) (hb : (5 ≤ K ∧ K ≤ 36) ∧ (1 ≤ V ∧ V ≤ 1024) ∧ (1 ≤ N ∧ N ≤ 1024)) : RefL w' (fun b => w.heap.size ≤ b) X K V N [] (List.replicate N (List.replicate V 0)) := by
  refine ⟨h.hA, ⟨none, 0, a, c, vals, h.at', OwnP.nil _ _, (fun x hx => by cases hx), ⟨h.own, h.low, ⟨hl, by simp⟩, fun i v r hv hr => ?_, h.apart⟩⟩, (by simp), (by simp), hb⟩
  obtain ⟨h1, h2⟩ := h.each i v hv
  obtain rfl : r = List.replicate V 0 := by
    have := List.mem_of_getElem? hr
    exact List.eq_of_mem_replicate this
  refine ⟨by rw [← zeros_u8]; exact h1, h2, by simp, fun x hx => ?_⟩
  rw [List.eq_of_mem_replicate hx]
  omega
/-- Both News. -/
theorem bothNew (k key val ent : Int) (hk : (Lit.int .u8 k).wf = true) :
    (∃ E : Int, (E != 0) = true ∧ (E == 0) = false ∧ (∀ w, Calls Try.prog 9 #[.agg #[.int .u8 k, .int .i64 key, .int .i64 val, .int .i64 ent]] w fun e w' => e = .returned (.tuple #[.pointer none, .int .i64 E]) ∧ But [] w w') ∧ ∀ w, Calls Try.prog 20 #[.agg #[.int .u8 k, .int .i64 key, .int .i64 val, .int .i64 ent]] w fun e w' => e = .returned (.tuple #[.pointer none, .int .i64 E]) ∧ But [] w w') ∨
    (∃ K V N : Nat, k = 4 ∧ key = K ∧ val = V ∧ ent = N ∧ ((5 ≤ K ∧ K ≤ 36) ∧ (1 ≤ V ∧ V ≤ 1024) ∧ (1 ≤ N ∧ N ≤ 1024)) ∧ (∀ w, Calls Try.prog 9 #[.agg #[.int .u8 4, .int .i64 K, .int .i64 V, .int .i64 N]] w fun e w' => ∃ P S, e = .returned (.tuple #[.pointer (some ⟨P, 0, none⟩), .int .i64 0]) ∧ TO w w' S P K V N (fun _ => none) (List.replicate N (List.replicate V 0))) ∧ ∀ w, Calls Try.prog 20 #[.agg #[.int .u8 4, .int .i64 K, .int .i64 V, .int .i64 N]] w fun e w' => ∃ X a c vals, e = .returned (.tuple #[.pointer (some ⟨X, 0, none⟩), .int .i64 0]) ∧ NewR K N w w' X V a c vals ∧ vals.length = N) := by
  by_cases h0 : specE k key val ent = 0
  · by_cases h3 : k = 4
    · subst h3
      obtain ⟨hK, hV, hN⟩ := specE_trie h0
      obtain ⟨K, rfl⟩ : ∃ n : Nat, key = n := ⟨key.toNat, by omega⟩
      obtain ⟨V, rfl⟩ : ∃ n : Nat, val = n := ⟨val.toNat, by omega⟩
      obtain ⟨N, rfl⟩ : ∃ n : Nat, ent = n := ⟨ent.toNat, by omega⟩
      exact .inr ⟨K, V, N, rfl, rfl, rfl, rfl, by omega, fun w => newTO K V N w h0, fun w => refNewL K V N w h0⟩
    · exact .inl ⟨9, rfl, rfl, fun w => newKind k key val ent w hk h0 (by simpa using h3), fun w => refNewKind k key val ent w h0 (by simpa using h3)⟩
  · exact .inl ⟨_, by simpa using h0, by simpa using h0, fun w => newErr k key val ent _ w hk rfl (by simpa using h0), fun w => refNewErr k key val ent _ w rfl (by simpa using h0)⟩
theorem newDL {K V N : Nat} {w w1 w3 w4 : World} {S : Nat → Prop} {P X Sb : Nat} {a : Option Addr} {c : Nat} {vals : List Value} (hb : But [] w w1) (hs : Sb < w1.heap.size) (h : TO w1 w3 S P K V N (fun _ => none) (List.replicate N (List.replicate V 0))) (h2 : NewR K N w3 w4 X V a c vals) (hl : vals.length = N) (hbd : (5 ≤ K ∧ K ≤ 36) ∧ (1 ≤ V ∧ V ≤ 1024) ∧ (1 ≤ N ∧ N ≤ 1024)) : DL w w4 [Sb] P X K V N (fun _ => none) (List.replicate N (List.replicate V 0)) [] (List.replicate N (List.replicate V 0)) := by
  have hb3 : But [] w w3 := hb.trans h.but (by simp)
  have hlo : TO w w3 S P K V N (fun _ => none) (List.replicate N (List.replicate V 0)) := ⟨h.ex, fun b hs => ⟨Nat.le_trans hb.size (h.low b hs).1, (h.low b hs).2⟩, hb3⟩
  refine ⟨S, fun b => w3.heap.size ≤ b ∧ b < w4.heap.size, hlo.keep h2.but (by simp), (refL_new h2 hl hbd).also (fun x hx hk => ⟨hk, hx⟩), fun b hb' => ⟨Nat.le_trans hb3.size hb'.1, hb'.2⟩, fun b hs ht => by have := (h.low b hs).2; have := ht.1; omega, fun b hb' => ?_⟩
  have e : b = Sb := (by simpa using hb')
  have h8 := h.but.size
  have h9 := h2.but.size
  subst e
  exact ⟨fun hx => by have := (h.low _ hx).1; omega, fun hx => by have := hx.1; omega, by omega⟩
end Go.Proofs.Ytpoinhfkgnkedaa.M
namespace Go.Proofs.Ytpoinhfkgnkedaa.M
open Go.RowKit
set_option linter.unusedVariables false
set_option linter.unusedSectionVars false
set_option linter.unusedSimpArgs false
structure RD (w W : World) (P X K V N db gk gv Sb : Nat) (OB OS : Obj) (ks bs : List Int) (E : EMap) (rows : List (List Int)) (B : LSt) (rowsB : List (List Int)) : Prop where
  dl : DL w W [gv, gk, db, Sb] P X K V N E rows B rowsB
  box : W.heap[db]? = some OB
  spec : W.heap[Sb]? = some OS
  key : Lent W (.slice (some ⟨gk, 0, none⟩) ks.length (ks.length + 12)) (u8s ks)
  val : Lent W (.slice (some ⟨gv, 0, none⟩) bs.length (bs.length + 12)) (u8s bs)
/-- What stands at the head of the deeds' loop. -/
def DoR (w W : World) (P X K V N Sb : Nat) (OS : Obj) : Prop := ∃ E B rows, AE B E ∧ DL w W [Sb] P X K V N E rows B rows ∧ W.heap[Sb]? = some OS
def DoM (w W : World) (P X K V N db gk gv Sb : Nat) (OB OS : Obj) (ks bs : List Int) : Prop := ∃ E B rows, AE B E ∧ RD w W P X K V N db gk gv Sb OB OS ks bs E rows B rows
section
variable {w W : World} {P X K V N db gk gv Sb : Nat} {OB OS : Obj} {ks bs : List Int} {E : EMap} {B : LSt} {rows rowsB : List (List Int)}
theorem RD.step {w' : World} {E' : EMap} {B' : LSt} {rows' rowsB' : List (List Int)} (h : RD w W P X K V N db gk gv Sb OB OS ks bs E rows B rowsB) (hd : DL w w' [gv, gk, db, Sb] P X K V N E' rows' B' rowsB') (hk : KeptX [gv, gk, db, Sb] w W w') : RD w w' P X K V N db gk gv Sb OB OS ks bs E' rows' B' rowsB' := by
  refine ⟨hd, hk.heap h.box (by simp), hk.heap h.spec (by simp), ?_, ?_⟩
  · obtain ⟨L, hb, hL⟩ := hk
    exact h.key.but hb (fun b hb' hm => by cases hb'; exact (hL gk hm).2 (by simp))
  · obtain ⟨L, hb, hL⟩ := hk
    exact h.val.but hb (fun b hb' hm => by cases hb'; exact (hL gv hm).2 (by simp))
theorem RD.keep {w' : World} (h : RD w W P X K V N db gk gv Sb OB OS ks bs E rows B rowsB) (hb : But [] W w') : RD w w' P X K V N db gk gv Sb OB OS ks bs E rows B rowsB :=
  h.step (h.dl.keep hb (by simp)) ⟨[], hb, by simp⟩
theorem RD.ksees (h : RD w W P X K V N db gk gv Sb OB OS ks bs E rows B rowsB) : Sees W (.slice (some ⟨gk, 0, none⟩) ks.length (ks.length + 12)) (u8s ks) := h.key.sees
theorem RD.vsees (h : RD w W P X K V N db gk gv Sb OB OS ks bs E rows B rowsB) : Sees W (.slice (some ⟨gv, 0, none⟩) bs.length (bs.length + 12)) (u8s bs) := h.val.sees
theorem RD.lookT (h : RD w W P X K V N db gk gv Sb OB OS ks bs E rows B rowsB) (hk : ByteL ks) :
    Calls Try.prog 14 #[.pointer (some ⟨P, 0, none⟩), .slice (some ⟨gk, 0, none⟩) ks.length (ks.length + 12)] W fun r w' => r = .returned (.tuple #[.int .i64 (M.lookT K E ks).1, .int .i64 (M.lookT K E ks).2]) ∧ RD w w' P X K V N db gk gv Sb OB OS ks bs E rows B rowsB := by
  refine (h.dl.lookT _ _ h.ksees hk).mono ?_
  rintro r w' ⟨rfl, h1, h2⟩
  exact ⟨rfl, h.step h1 h2⟩
theorem RD.lookR (h : RD w W P X K V N db gk gv Sb OB OS ks bs E rows B rowsB) (a : Option Addr) (c : Nat) (hs : Sees w (.slice a ks.length c) (u8s ks)) (hk : ByteL ks) :
    Calls Try.prog 22 #[.pointer (some ⟨X, 0, none⟩), .slice a ks.length c] W fun r w' => r = .returned (.tuple #[.int .i64 (M.lookR K B ks).1, .int .i64 (M.lookR K B ks).2]) ∧ RD w w' P X K V N db gk gv Sb OB OS ks bs E rows B rowsB := by
  refine (h.dl.lookR a c (hs.but h.dl.but (by simp)) hk).mono ?_
  rintro r w' ⟨rfl, h1, h2⟩
  exact ⟨rfl, h.step h1 h2⟩
theorem RD.delT (h : RD w W P X K V N db gk gv Sb OB OS ks bs E rows B rowsB) (hk : ByteL ks) :
    Calls Try.prog 11 #[.pointer (some ⟨P, 0, none⟩), .slice (some ⟨gk, 0, none⟩) ks.length (ks.length + 12)] W fun r w' => r = .returned (.int .i64 (M.delT K E ks).1) ∧ RD w w' P X K V N db gk gv Sb OB OS ks bs (M.delT K E ks).2 rows B rowsB := by
  refine (h.dl.delT _ _ h.ksees hk).mono ?_
  rintro r w' ⟨rfl, h1, h2⟩
  exact ⟨rfl, h.step h1 h2⟩
theorem RD.delR (h : RD w W P X K V N db gk gv Sb OB OS ks bs E rows B rowsB) (a : Option Addr) (c : Nat) (hs : Sees w (.slice a ks.length c) (u8s ks)) (hk : ByteL ks) :
    Calls Try.prog 23 #[.pointer (some ⟨X, 0, none⟩), .slice a ks.length c] W fun r w' => r = .returned (.int .i64 (M.delR K B ks).1) ∧ RD w w' P X K V N db gk gv Sb OB OS ks bs E rows (M.delR K B ks).2 rowsB := by
  refine (h.dl.delR a c (hs.but h.dl.but (by simp)) hk).mono ?_
  rintro r w' ⟨rfl, h1, h2⟩
  exact ⟨rfl, h.step h1 h2⟩
theorem RD.updT (h : RD w W P X K V N db gk gv Sb OB OS ks bs E rows B rowsB) (hk : ByteL ks) (hv : ByteL bs) (f : Int) :
    Calls Try.prog 12 #[.pointer (some ⟨P, 0, none⟩), .slice (some ⟨gk, 0, none⟩) ks.length (ks.length + 12), .slice (some ⟨gv, 0, none⟩) bs.length (bs.length + 12), .int .u64 f] W fun r w' => r = .returned (.int .i64 (M.updT K V N E rows ks bs f).1) ∧ RD w w' P X K V N db gk gv Sb OB OS ks bs (M.updT K V N E rows ks bs f).2.1 (M.updT K V N E rows ks bs f).2.2 B rowsB := by
  refine (h.dl.updT gk gv _ _ (by simp) (by simp) h.ksees hk h.vsees hv f).mono ?_
  rintro r w' ⟨rfl, h1, h2⟩
  exact ⟨rfl, h.step h1 h2⟩
theorem RD.updR (h : RD w W P X K V N db gk gv Sb OB OS ks bs E rows B rowsB) (a vb : Option Addr) (c vc : Nat) (hs : Sees w (.slice a ks.length c) (u8s ks)) (hk : ByteL ks) (hvs : Sees w (.slice vb bs.length vc) (u8s bs)) (hv : ByteL bs) (f : Int) (hpn : (B.map (·.2)).Nodup) :
    Calls Try.prog 30 #[.pointer (some ⟨X, 0, none⟩), .slice a ks.length c, .slice vb bs.length vc, .int .u64 f] W fun r w' => r = .returned (.int .i64 (M.updR K V N B rowsB ks bs f).1) ∧ RD w w' P X K V N db gk gv Sb OB OS ks bs E rows (M.updR K V N B rowsB ks bs f).2.1 (M.updR K V N B rowsB ks bs f).2.2 := by
  refine (h.dl.updR a vb c vc hs hk hvs hv f hpn).mono ?_
  rintro r w' ⟨rfl, h1, h2⟩
  exact ⟨rfl, h.step h1 h2⟩
theorem RD.setT (h : RD w W P X K V N db gk gv Sb OB OS ks bs E rows B rowsB) (p off : Int) (hv : ByteL bs) (hn : bs.length ≤ 140737488351232) :
    Calls Try.prog 26 #[.pointer (some ⟨P, 0, none⟩), .int .i64 p, .int .i64 off, .slice (some ⟨gv, 0, none⟩) bs.length (bs.length + 12)] W fun r w' => r = .returned (.int .i64 (setA V N rows p off bs).1) ∧ RD w w' P X K V N db gk gv Sb OB OS ks bs E (setA V N rows p off bs).2 B rowsB := by
  refine (h.dl.setT p off _ _ h.vsees hv hn).mono ?_
  rintro r w' ⟨rfl, h1, h2⟩
  exact ⟨rfl, h.step h1 h2⟩
theorem RD.setR (h : RD w W P X K V N db gk gv Sb OB OS ks bs E rows B rowsB) (p off : Int) (vb : Option Addr) (vc : Nat) (hvs : Sees w (.slice vb bs.length vc) (u8s bs)) (hv : ByteL bs) (hn : bs.length ≤ 140737488351232) :
    Calls Try.prog 27 #[.pointer (some ⟨X, 0, none⟩), .int .i64 p, .int .i64 off, .slice vb bs.length vc] W fun r w' => r = .returned (.int .i64 (setA V N rowsB p off bs).1) ∧ RD w w' P X K V N db gk gv Sb OB OS ks bs E rows B (setA V N rowsB p off bs).2 := by
  refine (h.dl.setR p off vb vc (hvs.but h.dl.but (by simp)) hv hn).mono ?_
  rintro r w' ⟨rfl, h1, h2⟩
  exact ⟨rfl, h.step h1 h2⟩
/-- The lent rows are written over: the round's end. -/
theorem RD.over {w' : World} {L : List Nat} (h : RD w W P X K V N db gk gv Sb OB OS ks bs E rows B rows) (hA : AE B E) (hg : w.heap.size ≤ gk ∧ w.heap.size ≤ gv) (hne : gk ≠ Sb ∧ gv ≠ Sb) (hb : But L W w') (hL : ∀ x ∈ L, x = gk ∨ x = gv) : DoR w w' P X K V N Sb OS := by
  refine ⟨E, B, rows, hA, (h.dl.keep hb (fun x hx => ?_)).sub (by simp), hb.heap h.spec (fun hm => ?_)⟩
  · rcases hL x hx with rfl | rfl
    · exact ⟨by simp, hg.1⟩
    · exact ⟨by simp, hg.2⟩
  · rcases hL _ hm with e | e
    · exact hne.1 e.symm
    · exact hne.2 e.symm
end
end Go.Proofs.Ytpoinhfkgnkedaa.M
