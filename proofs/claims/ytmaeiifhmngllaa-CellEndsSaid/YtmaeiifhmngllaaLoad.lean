/-
  cell: Load (printed by mkload.py).
-/
import Derived.Test.YtmaeiifhmngllaaBack
import Derived.Test.YtmaeiifhmngllaaMethA
namespace Go.Proofs.Ytmaeiifhmngllaa.M
open Go.RowKit Go.Shelf
set_option linter.unusedVariables false
set_option linter.unusedSectionVars false
set_option linter.unusedSimpArgs false
attribute [local go_sem] Oper.semAt_some
theorem ofInt_u64 (a : Nat) (ha : a < 18446744073709551616) : (BitVec.ofInt 64 (a : Int)).toNat = a := by
  rw [BitVec.ofInt_natCast, BitVec.toNat_ofNat]; exact Nat.mod_eq_of_lt (by omega)
theorem joinU64 {n c : Int} (h1 : 0 ≤ n) (h2 : n < 72057594037927936) (h3 : 0 ≤ c) (h4 : c ≤ 255) : bits .or .u64 (n * 256) c = n * 256 + c := by
  obtain ⟨N, rfl⟩ := Int.eq_ofNat_of_zero_le h1
  obtain ⟨C, rfl⟩ := Int.eq_ofNat_of_zero_le h3
  rw [show ((N : Int) * 256) = ((N * 256 : Nat) : Int) from by omega]
  show IntKind.u64.wrap ((BitVec.ofInt 64 ((N * 256 : Nat) : Int) ||| BitVec.ofInt 64 (C : Int)).toNat : Int) = _
  rw [BitVec.toNat_or, ofInt_u64 _ (by omega), ofInt_u64 _ (by omega), nat_join 8 (N * 256) C (by omega) (by omega), IntKind.wrap_u64]
  omega
/-- The number that bytes are, the lowest first. -/
def leV (bs : List Int) : Int := bs.foldr (fun x n => n * 256 + x) 0
def valR (pre : List (Int × Int)) : Int := (pre.map Prod.snd).foldl (fun n x => n * 256 + x) 0
theorem valR_all {bs : List Int} {pre : List (Int × Int)} (h : BAll bs pre) : valR pre = leV bs := by
  unfold valR leV
  rw [h, List.foldl_reverse]
theorem valR_more (pre : List (Int × Int)) (x : Int × Int) : valR (pre ++ [x]) = valR pre * 256 + x.2 := by simp [valR]
theorem fold_bound : ∀ (l : List Int) (n : Int) (k : Nat), (∀ x ∈ l, 0 ≤ x ∧ x ≤ 255) → 0 ≤ n → n < 256 ^ k → 0 ≤ l.foldl (fun n x => n * 256 + x) n ∧ l.foldl (fun n x => n * 256 + x) n < 256 ^ (k + l.length)
  | [], n, k, _, h0, h1 => ⟨h0, h1⟩
  | x :: l, n, k, h, h0, h1 => by
    have hx := h x List.mem_cons_self
    have hp : (256 : Int) ^ (k + 1) = 256 ^ k * 256 := Int.pow_succ _ _
    have h2 := fold_bound l (n * 256 + x) (k + 1) (fun y hy => h y (List.mem_cons_of_mem _ hy)) (by omega) (by omega)
    rw [List.foldl_cons, List.length_cons, show k + (l.length + 1) = k + 1 + l.length from by omega]
    exact h2
theorem valR_bound {pre : List (Int × Int)} (h : ∀ x ∈ pre, 0 ≤ x.2 ∧ x.2 ≤ 255) (hl : pre.length < 8) : 0 ≤ valR pre ∧ valR pre < 72057594037927936 := by
  have h1 := fold_bound (pre.map Prod.snd) 0 0 (by simp only [List.mem_map]; rintro x ⟨y, hy, rfl⟩; exact h y hy) (by omega) (by decide)
  rw [List.length_map] at h1
  refine ⟨h1.1, Int.lt_of_lt_of_le h1.2 ?_⟩
  rw [Nat.zero_add]
  have hk : ∀ k : Nat, k < 8 → (256 : Int) ^ k ≤ 72057594037927936 := by decide
  exact hk _ hl
/-- What stands between two rounds. -/
structure WhI (w : World) (B : Nat) (pre : List (Int × Int)) (W : World) : Prop where
  box : W.heap[B]? = some (.cells #[.int .u64 (valR pre)] 31)
  res : W.heap[w.heap.size]? = some (.cells #[.int .u8 0, .int .u64 0, .int .i64 0, .int .i64 0] 33)
  ok : ∀ x ∈ pre, 0 ≤ x.2 ∧ x.2 ≤ 255
  but : But [] w W
theorem WhI.abides (w : World) (B : Nat) (hB : w.heap.size < B) : Abides (B + 1) (WhI w B) := Abides.of_but fun pre V W L h hb hL =>
  ⟨hb.heap h.box (fun hm => by have := (hL _ hm).1; omega), hb.heap h.res (fun hm => by have := (hL _ hm).1; omega), h.ok, h.but.trans hb (fun x hx => .inr (by have := (hL x hx).1; omega))⟩
theorem WhI.abides2 (w : World) (B : Nat) (hB : w.heap.size < B) : Abides (B + 2) (WhI w B) := (WhI.abides w B hB).mono (by omega)
theorem anyA_abides (B : Nat) : Abides B AnyA := ⟨fun _ _ _ h _ => h, fun _ _ _ _ _ h _ _ _ => h⟩
theorem WhI.more {w W : World} {B : Nat} {pre : List (Int × Int)} {x : Int × Int} (hB : w.heap.size < B) (h : WhI w B pre W) (hx : AnyA x W) :
    KeepsOthers W (W.setCell ⟨B, 0, none⟩ (.int .u64 (valR pre * 256 + x.2))) ∧ (∀ ok : Nat → Prop, ¬ ok B → KeepIn ok W (W.setCell ⟨B, 0, none⟩ (.int .u64 (valR pre * 256 + x.2)))) ∧ WhI w B (pre ++ [x]) (W.setCell ⟨B, 0, none⟩ (.int .u64 (valR pre * 256 + x.2))) := by
  have hs : But [B] W (W.setCell ⟨B, 0, none⟩ (.int .u64 (valR pre * 256 + x.2))) := (But.refl _ _).setCell (.inl (by simp)) _
  refine ⟨keepsOthers_of_but hs (fun y hy => ?_), fun ok hok => KeepIn.of_but hs (fun y hy => by simp at hy; subst hy; exact hok), ?_, hs.heap h.res (fun hm => by simp at hm; omega), fun y hy => ?_, h.but.trans hs (fun y hy => .inr (by simp at hy; omega))⟩
  · simp only [List.mem_singleton] at hy
    subst hy
    exact ⟨_, _, _, h.box⟩
  · rw [valR_more]
    simp [World.setCell, Array.getElem?_modify, h.box]
  · rcases List.mem_append.1 hy with hy | hy
    · exact h.ok y hy
    · simp only [List.mem_singleton] at hy
      subst hy
      exact hx
/-- Behind read. -/
theorem readp_c (P o n : Nat) (S : Stk) (w : World) (hI : Inv S) (hon : o + n ≤ 512) (hB : Blk w P 57 833 (S.val true)) : Calls Try.prog 28 #[.pointer (some ⟨P, 0, none⟩), .int .i64 (o : Int), .int .i64 (n : Int)] w fun e w' =>
    (bitsOn S o n = true ∧ (∃ a c, e = .returned (.tuple #[.slice a (rowB S o n).length c, .int .i64 0]) ∧ SeesB w' (.slice a (rowB S o n).length c) (rowB S o n) ∧ (∀ b, (Value.slice a (rowB S o n).length c).ownBlock = some b → b < w'.heap.size)) ∧ But [] w w') ∨
    (bitsOn S o n = false ∧ e = .returned (.tuple #[.slice none 0 0, .int .i64 30]) ∧ But [] w w') := by
  refine (read_c P o n S true w hon hB).mono ?_
  rintro e w' (⟨hok, a, c, rfl, ho, hb⟩ | ⟨⟨j, hj, hno⟩, rfl, hb⟩)
  · refine .inl ⟨bitsOn_iff.2 ((ok_all hI hon).1 hok), ?_, hb⟩
    rw [row_all] at ho ⊢
    refine ⟨a, c, rfl, ⟨a, c, rfl, fun i x hx => ?_⟩, fun b hb => (World.ownsRow.lt ho b hb).2⟩
    rcases ho.2 with ⟨h1, h2⟩ | ⟨g, cap, cur, h1, _⟩
    · rw [List.eq_nil_of_length_eq_zero h2] at hx
      cases hx
    · cases h1
      exact ⟨g, 0, rfl, by rw [← add_at]; exact ho.cells (g := g) rfl i _ (u8s_at hx)⟩
  · refine .inr ⟨?_, rfl, hb⟩
    rw [Bool.eq_false_iff]
    exact fun h => hno ((ok_all hI hon).2 (bitsOn_iff.1 h) j hj)
theorem back_of (W : World) (a : Option Addr) (c : Nat) (bs : List Int) (hs : SeesB W (.slice a bs.length c) bs) (hr : ByteL bs) (hl : bs.length ≤ 8) (hsn : ∀ b, (Value.slice a bs.length c).ownBlock = some b → b < W.heap.size) :
    SeqB Fence.wide 2 Try.prog 41 #[.pointer (some ⟨W.heap.size + 1, 0, none⟩)] encB AnyA (KeepIn (fun b => b ≠ W.heap.size ∧ b < W.heap.size + 2)) (BAll bs) (fun _ => True) NoT bs.length ((W.alloc (.cells #[.int .u64 0] 31)).alloc (.cells #[.slice a bs.length c] 37)) := by
  have hb1 : But [] W ((W.alloc (.cells #[.int .u64 0] 31)).alloc (.cells #[.slice a bs.length c] 37)) := ((But.refl [] W).alloc _).alloc _
  exact back_seq 2 (by omega) (W.heap.size + 1) _ (.slice a bs.length c) bs _ (al_eq _ _ _ (by rw [size_alloc])) (hs.but hb1 (by simp)) hr (by omega) ⟨by omega, by omega⟩ (fun b hb => by have := hsn b hb; omega)
theorem whI_0 (w W : World) (hb : But [] (w.alloc (.cells #[.int .u8 0, .int .u64 0, .int .i64 0, .int .i64 0] 33)) W) (v : Value) : WhI w W.heap.size [] ((W.alloc (.cells #[.int .u64 0] 31)).alloc (.cells #[v] 37)) :=
  ⟨al_keep (al_at _ _) _, al_keep (al_keep (hb.heap (al_at _ _) (by simp)) _) _, by simp, (((But.refl [] w).alloc _).trans hb (by simp)).alloc _ |>.alloc _⟩
theorem set4 {W : World} {R : Nat} {T : TypeId} {f : Nat × Nat} {a b c d a' b' c' d' : Value} (h : W.heap[R]? = some (.cells #[a, b, c, d] T f)) : ((((W.setCell ⟨R, 0, none⟩ a').setCell ⟨R, 1, none⟩ b').setCell ⟨R, 2, none⟩ c').setCell ⟨R, 3, none⟩ d').heap[R]? = some (.cells #[a', b', c', d'] T f) :=
  heap_set (heap_set (heap_set (heap_set h)))
theorem but4 {W : World} {R : Nat} (a' b' c' d' : Value) : But [R] W ((((W.setCell ⟨R, 0, none⟩ a').setCell ⟨R, 1, none⟩ b').setCell ⟨R, 2, none⟩ c').setCell ⟨R, 3, none⟩ d') :=
  ((((But.refl [R] W).setCell (.inl (by simp)) a').setCell (.inl (by simp)) b').setCell (.inl (by simp)) c').setCell (.inl (by simp)) d'
theorem res_load {W : World} {R : Nat} {T : TypeId} {a b c d e : Value} {tmps : Array Value} (h : W.heap[R]? = some (.cells #[a, b, c, d] T)) (h6 : tmps[6]?.getD undef = .pointer (some ⟨R, 0, none⟩)) (h7 : tmps[7]?.getD undef = e) :
    (results Try.f12 tmps).run Try.prog W = .ok (.tuple #[.agg #[a, b, c, d], e]) W := by
  have d0 := cl_of h 0
  have d1 := cl_of h 1
  have d2 := cl_of h 2
  have d3 := cl_of h 3
  simp only [List.getElem?_toArray, List.getElem?_cons_zero, List.getElem?_cons_succ] at d0 d1 d2 d3
  simp [results, Try.results12, go_sem, h6, h7, d0, d1, d2, d3]
set_option maxRecDepth 100000 in
set_option maxHeartbeats 4000000 in
theorem load_bytes0 (P o n : Nat) (S : Stk) (w : World) (hI : Inv S) (hn : sizeB n = true) (hn8 : n ≤ 8) (hon : o + n ≤ 512) (hB : Blk w P 57 833 (S.val true)) (g1 : ¬ ((n : Int) = 8)) :
    CallsIn Fence.wide 3 Try.prog 12 #[.pointer (some ⟨P, 0, none⟩), .int .i64 (o : Int), .int .i64 (n : Int)] w fun e w' => (bitsOn S o n = true ∧ e = .returned (.tuple #[(CV.mk 1 (leV (rowB S o n)) 0 0).agg, .int .i64 0]) ∧ But [] w w') ∨ (bitsOn S o n = false ∧ e = .returned (.tuple #[c0.agg, .int .i64 30]) ∧ But [] w w') := by
  have HB := Lib.hid hB
  have HON := Lib.hid hon
  have HI := Lib.hid hI
  have HN := Lib.hid hn
  have HZC := Lib.hid (show checkE o n true = 0 from by unfold checkE; rw [if_pos rfl, if_pos (by omega)])
  have ho512 : o < 512 := by
    unfold sizeB at hn
    have h := of_decide_eq_true hn
    omega
  have HO := Lib.hid ho512
  clear hB hon hI hn ho512
  refine callsIn_of_wp_marks Try.func12 rfl trivial ?_ rfl
  simp only [Try.ntmps12, List.size_toArray, List.length_cons, List.length_nil, Nat.reduceAdd, Nat.reduceSub, Array.replicate_succ, Array.replicate_zero, List.push_toArray, List.append_toArray, List.nil_append, List.cons_append]
  gi_wp2
  refine ⟨trivial, ?_⟩
  refine (callsIn_wide.2 (sized_c _ _)).mono ?_
  rintro e w1 ⟨rfl, hb1⟩
  rw [HN.out]
  have HB1 : Hid (Blk w1 P 57 833 (S.val true)) := Lib.hid (((HB.out.but ((But.refl [] w).alloc _) (by simp))).but hb1 (by simp))
  have HBT1 := Lib.hid hb1
  clear hb1
  gi_wp2
  refine ⟨trivial, ?_⟩
  refine (callsIn_wide.2 (check_c P S o n true w1 HB1.out (fun _ => by omega))).mono ?_
  rintro e w2 ⟨rfl, rfl⟩
  rw [HZC.out]
  gi_wp2
  refine ⟨trivial, ?_⟩
  refine (callsIn_wide.2 (rowAt P o w1 HO.out)).mono ?_
  rintro e w2 ⟨rfl, rfl⟩
  gi_wp2
  refine ⟨trivial, ?_⟩
  refine (callsIn_wide.2 (readp_c P o n S w1 HI.out HON.out HB1.out)).mono ?_
  rintro e w3 (⟨hbon, ⟨a, c, rfl, hsee, hown⟩, hb3⟩ | ⟨hboff, rfl, hb3⟩)
  · have hlen : (rowB S o n).length = n := rowB_len S o n
    have hbyte : ByteL (rowB S o n) := rowB_byte HI.out HON.out
    have HLEV : Hid (∃ bs, bs = rowB S o n) := Lib.hid ⟨_, rfl⟩
    obtain ⟨bs, hbs⟩ := HLEV.out
    rw [← hbs] at hsee hown hlen hbyte ⊢
    have HBS := Lib.hid hbs
    have hbl : bs.length ≤ 8 := by omega
    obtain ⟨W4, hW4⟩ : ∃ W4, W4 = (w3.alloc (.cells #[.int .u64 0] 31)).alloc (.cells #[.slice a bs.length c] 37) := ⟨_, rfl⟩
    have hz4 : W4.heap.size = w3.heap.size + 2 := by rw [hW4, size_alloc, size_alloc]
    have HS := Lib.hid (back_of w3 a c bs hsee hbyte hbl hown)
    have hb03 := HBT1.out.trans hb3 (by simp)
    have hlt : w.heap.size < w3.heap.size := by have h := hb03.size; rw [size_alloc] at h; omega
    have HI0 := Lib.hid (whI_0 w w3 hb03 (.slice a bs.length c))
    rw [← hW4] at HS HI0
    have HW4 : Hid ((w3.alloc (.cells #[.int .u64 0] 31)).alloc (.cells #[.slice a bs.length c] 37) = W4) := Lib.hid hW4.symm
    have HZ := Lib.hid hz4
    have HLT := Lib.hid hlt
    have HBON := Lib.hid hbon
    clear hbs hsee hown hlen hbyte hW4 hz4 hb03 hlt hbon hb3 g1
    gi_wp2
    refine ⟨trivial, ?_⟩
    refine (callsIn_wide.2 (back_c _ _ _ _)).mono ?_
    rintro e w5 ⟨rfl, rfl⟩
    gi_wp2
    rw [HW4.out]
    refine wpIn_rangeFunc_but rfl (by omega) (gf := 41) (lb := #[.pointer (some ⟨w3.heap.size + 1, 0, none⟩)]) rfl trivial (enters_of Try.func41 (by kernel_rfl) rfl) HS.out
      (fun h k => h.trans k) (fun hz hb => KeepIn.of_but hb (by simp)) (fun V l o o' hl hV ho => KeepIn.of_but (but_putObj o' hV) (by have := HZ.out; simp only [List.mem_singleton]; rintro x rfl ⟨h1, h2⟩; omega)) (anyA_abides _) (But.refl _ _) (fun _ => rfl)
      (WhI w w3.heap.size) (fun _ _ _ => False) (HZ.out ▸ WhI.abides2 w w3.heap.size HLT.out) (fun _ => Abides.none _) HI0.out
      (fun x a' W => ∃ (u0 u1 u2 u3 u4 u5 u7 u8 u9 u10 u11 u13 u15 u16 u17 u18 u19 u20 u21 u22 u23 u24 u25 u26 u27 u28 u29 u30 u31 u32 u33 u34 u35 u36 u37 u38 u39 u40 u41 u42 u43 u44 u45 u46 u47 u48 u49 u50 u51 u52 u53 u54 u55 u56 u57 u58 u59 u60 u61 u62 u63 u64 u65 u66 u67 u68 u69 u70 : Value), a' = { tmps := List.toArray (u0 :: u1 :: u2 :: u3 :: u4 :: u5 :: .pointer (some ⟨w.heap.size, 0, none⟩) :: u7 :: u8 :: u9 :: u10 :: u11 :: .pointer (some ⟨w3.heap.size, 0, none⟩) :: u13 :: .int .u8 x.2 :: u15 :: u16 :: u17 :: u18 :: u19 :: u20 :: u21 :: u22 :: u23 :: u24 :: u25 :: u26 :: u27 :: u28 :: u29 :: u30 :: u31 :: u32 :: u33 :: u34 :: u35 :: u36 :: u37 :: u38 :: u39 :: u40 :: u41 :: u42 :: u43 :: u44 :: u45 :: u46 :: u47 :: u48 :: u49 :: u50 :: u51 :: u52 :: u53 :: u54 :: u55 :: u56 :: u57 :: u58 :: u59 :: u60 :: u61 :: u62 :: u63 :: u64 :: u65 :: u66 :: u67 :: u68 :: u69 :: u70 :: []), defers := [] })
      (fun a' => ⟨fun _ _ _ h _ => h, fun _ _ _ _ _ h _ _ _ => h⟩) ?assign ?body ?done ?stop ?throw
    case assign =>
      intro l pre x W K _ _ _ hK
      simp only [encB]
      gi_wp2
      exact hK _ _ (But.refl _ _) ⟨_, _, _, _, _, _, _, _, _, _, _, _, _, _, _, _, _, _, _, _, _, _, _, _, _, _, _, _, _, _, _, _, _, _, _, _, _, _, _, _, _, _, _, _, _, _, _, _, _, _, _, _, _, _, _, _, _, _, _, _, _, _, _, _, _, _, _, _, rfl⟩
    case body =>
      rintro l pre x a' W ⟨u0, u1, u2, u3, u4, u5, u7, u8, u9, u10, u11, u13, u15, u16, u17, u18, u19, u20, u21, u22, u23, u24, u25, u26, u27, u28, u29, u30, u31, u32, u33, u34, u35, u36, u37, u38, u39, u40, u41, u42, u43, u44, u45, u46, u47, u48, u49, u50, u51, u52, u53, u54, u55, u56, u57, u58, u59, u60, u61, u62, u63, u64, u65, u66, u67, u68, u69, u70, rfl⟩ hI hx _ hlt
      have hc : W.cell? ⟨w3.heap.size, 0, none⟩ = some (.int .u64 (valR pre)) := cl_of hI.box 0
      have hf : W.frozen? ⟨w3.heap.size, 0, none⟩ = false := by (unfold World.frozen?; rw [hI.box]; simp)
      have hv := valR_bound hI.ok (by omega)
      obtain ⟨hv0, hv1⟩ := hv
      obtain ⟨i, c'⟩ := x
      obtain ⟨hx0, hx1⟩ := id hx
      simp only at hx0 hx1
      have HRES := Lib.hid (hI.more HLT.out hx)
      have hj : bits .or .u64 (valR pre * 256) c' = valR pre * 256 + c' := joinU64 hv0 (by omega) hx0 (by omega)
      have hw8 : IntKind.u64.wrap (valR pre * 256) = valR pre * 256 := by rw [IntKind.wrap_u64]; omega
      have hwc : IntKind.u64.wrap c' = c' := by rw [IntKind.wrap_u64]; omega
      clear hI hx
      gi_wp2
      exact ⟨HRES.out.1, HRES.out.2.1 _ (fun h => h.1 rfl), HRES.out.2.2⟩
    case done =>
      rintro D ys W rfl hS hI hK
      have hv : valR ys = leV bs := valR_all hS
      have hc : W.cell? ⟨w3.heap.size, 0, none⟩ = some (.int .u64 (leV bs)) := by rw [← hv]; exact cl_of hI.box 0
      have HIW := Lib.hid hI
      have HK := Lib.hid hK
      clear hI hS hK hv
      gi_wp2
      refine ⟨trivial, ?_⟩
      refine (callsIn_wide.2 (word_c _ _)).mono ?_
      rintro e w6 ⟨rfl, hb6⟩
      have r := hb6.heap HIW.out.res (by simp)
      have hf : ∀ i, w6.frozen? ⟨w.heap.size, i, none⟩ = false := fun i => by (unfold World.frozen?; rw [r]; simp)
      have f0 := hf 0
      have f1 := hf 1
      have f2 := hf 2
      have f3 := hf 3
      have d0 := cl_of r 0
      have d1 := cl_of r 1
      have d2 := cl_of r 2
      have d3 := cl_of r 3
      simp only [List.getElem?_toArray, List.getElem?_cons_zero, List.getElem?_cons_succ] at d0 d1 d2 d3
      have HR := Lib.hid r
      have HB6 := Lib.hid hb6
      have HK6 := Lib.hid (hb6.heap HK.out (by simp))
      clear r hb6 hf hc
      gi_wp2
      have h4 := set4 (a' := .int .u8 1) (b' := .int .u64 (leV bs)) (c' := .int .i64 0) (d' := .int .i64 0) HR.out
      have hbb := but4 (W := w6) (R := w.heap.size) (.int .u8 1) (.int .u64 (leV bs)) (.int .i64 0) (.int .i64 0)
      have hk9 := hbb.heap HK6.out (by have := HZ.out; have := HLT.out; simp only [List.mem_singleton]; omega)
      have hbp := but_putObj (.deferred none) hk9
      refine ⟨by simp, .inl ⟨_, _, rfl, run_takeDeferred hk9, ?_⟩⟩
      refine ⟨_, res_load (hbp.heap h4 (by have := HZ.out; have := HLT.out; simp only [List.mem_singleton]; omega)) rfl rfl, ?_⟩
      refine .inl ⟨HBON.out, by rw [← HBS.out]; rfl, ?_⟩
      exact (((HIW.out.but.trans HB6.out (by simp)).trans hbb (fun y hy => .inr (by simp at hy; omega)))).trans hbp (fun y hy => .inr (by have := HZ.out; have := HLT.out; simp at hy; omega))
    case stop =>
      rintro D c pre W _ _ h _
      exact h.elim
    case throw =>
      rintro D pre chain W _ h _ _
      exact h.elim
  · have r := hb3.heap (HBT1.out.heap (al_at _ _) (by simp)) (by simp)
    have hf : ∀ i, w3.frozen? ⟨w.heap.size, i, none⟩ = false := fun i => by (unfold World.frozen?; rw [r]; simp)
    have f0 := hf 0
    have f1 := hf 1
    have f2 := hf 2
    have f3 := hf 3
    have d0 := cl_of r 0
    have d1 := cl_of r 1
    have d2 := cl_of r 2
    have d3 := cl_of r 3
    simp only [List.getElem?_toArray, List.getElem?_cons_zero, List.getElem?_cons_succ] at d0 d1 d2 d3
    have HR := Lib.hid r
    have HB3 := Lib.hid hb3
    have HOFF := Lib.hid hboff
    clear g1 hb3 r hf hboff
    gi_wp2
    have h4 := set4 (a' := .int .u8 0) (b' := .int .u64 0) (c' := .int .i64 0) (d' := .int .i64 0) HR.out
    have hbb := but4 (W := w3) (R := w.heap.size) (.int .u8 0) (.int .u64 0) (.int .i64 0) (.int .i64 0)
    refine ⟨_, res_load h4 rfl rfl, ?_⟩
    exact .inr ⟨HOFF.out, rfl, ((((But.refl [] w).alloc _).trans HBT1.out (by simp)).trans HB3.out (by simp)).trans hbb (fun y hy => .inr (by simp at hy; omega))⟩
set_option maxRecDepth 100000 in
set_option maxHeartbeats 4000000 in
theorem load_bytes1 (P o n : Nat) (S : Stk) (w : World) (hI : Inv S) (hn : sizeB n = true) (hn8 : n ≤ 8) (hon : o + n ≤ 512) (hB : Blk w P 57 833 (S.val true)) (g1 : ((n : Int) == 8) = true) (g2 : ¬ ((o : Int) % 8 = 0)) :
    CallsIn Fence.wide 3 Try.prog 12 #[.pointer (some ⟨P, 0, none⟩), .int .i64 (o : Int), .int .i64 (n : Int)] w fun e w' => (bitsOn S o n = true ∧ e = .returned (.tuple #[(CV.mk 1 (leV (rowB S o n)) 0 0).agg, .int .i64 0]) ∧ But [] w w') ∨ (bitsOn S o n = false ∧ e = .returned (.tuple #[c0.agg, .int .i64 30]) ∧ But [] w w') := by
  have HB := Lib.hid hB
  have HON := Lib.hid hon
  have HI := Lib.hid hI
  have HN := Lib.hid hn
  have HZC := Lib.hid (show checkE o n true = 0 from by unfold checkE; rw [if_pos rfl, if_pos (by omega)])
  have ho512 : o < 512 := by
    unfold sizeB at hn
    have h := of_decide_eq_true hn
    omega
  have HO := Lib.hid ho512
  clear hB hon hI hn ho512
  refine callsIn_of_wp_marks Try.func12 rfl trivial ?_ rfl
  simp only [Try.ntmps12, List.size_toArray, List.length_cons, List.length_nil, Nat.reduceAdd, Nat.reduceSub, Array.replicate_succ, Array.replicate_zero, List.push_toArray, List.append_toArray, List.nil_append, List.cons_append]
  gi_wp2
  refine ⟨trivial, ?_⟩
  refine (callsIn_wide.2 (sized_c _ _)).mono ?_
  rintro e w1 ⟨rfl, hb1⟩
  rw [HN.out]
  have HB1 : Hid (Blk w1 P 57 833 (S.val true)) := Lib.hid (((HB.out.but ((But.refl [] w).alloc _) (by simp))).but hb1 (by simp))
  have HBT1 := Lib.hid hb1
  clear hb1
  gi_wp2
  refine ⟨trivial, ?_⟩
  refine (callsIn_wide.2 (check_c P S o n true w1 HB1.out (fun _ => by omega))).mono ?_
  rintro e w2 ⟨rfl, rfl⟩
  rw [HZC.out]
  gi_wp2
  refine ⟨trivial, ?_⟩
  refine (callsIn_wide.2 (rowAt P o w1 HO.out)).mono ?_
  rintro e w2 ⟨rfl, rfl⟩
  gi_wp2
  refine ⟨trivial, ?_⟩
  refine (callsIn_wide.2 (readp_c P o n S w1 HI.out HON.out HB1.out)).mono ?_
  rintro e w3 (⟨hbon, ⟨a, c, rfl, hsee, hown⟩, hb3⟩ | ⟨hboff, rfl, hb3⟩)
  · have hlen : (rowB S o n).length = n := rowB_len S o n
    have hbyte : ByteL (rowB S o n) := rowB_byte HI.out HON.out
    have HLEV : Hid (∃ bs, bs = rowB S o n) := Lib.hid ⟨_, rfl⟩
    obtain ⟨bs, hbs⟩ := HLEV.out
    rw [← hbs] at hsee hown hlen hbyte ⊢
    have HBS := Lib.hid hbs
    have hbl : bs.length ≤ 8 := by omega
    obtain ⟨W4, hW4⟩ : ∃ W4, W4 = (w3.alloc (.cells #[.int .u64 0] 31)).alloc (.cells #[.slice a bs.length c] 37) := ⟨_, rfl⟩
    have hz4 : W4.heap.size = w3.heap.size + 2 := by rw [hW4, size_alloc, size_alloc]
    have HS := Lib.hid (back_of w3 a c bs hsee hbyte hbl hown)
    have hb03 := HBT1.out.trans hb3 (by simp)
    have hlt : w.heap.size < w3.heap.size := by have h := hb03.size; rw [size_alloc] at h; omega
    have HI0 := Lib.hid (whI_0 w w3 hb03 (.slice a bs.length c))
    rw [← hW4] at HS HI0
    have HW4 : Hid ((w3.alloc (.cells #[.int .u64 0] 31)).alloc (.cells #[.slice a bs.length c] 37) = W4) := Lib.hid hW4.symm
    have HZ := Lib.hid hz4
    have HLT := Lib.hid hlt
    have HBON := Lib.hid hbon
    clear hbs hsee hown hlen hbyte hW4 hz4 hb03 hlt hbon hb3 g1 g2
    gi_wp2
    refine ⟨trivial, ?_⟩
    refine (callsIn_wide.2 (back_c _ _ _ _)).mono ?_
    rintro e w5 ⟨rfl, rfl⟩
    gi_wp2
    rw [HW4.out]
    refine wpIn_rangeFunc_but rfl (by omega) (gf := 41) (lb := #[.pointer (some ⟨w3.heap.size + 1, 0, none⟩)]) rfl trivial (enters_of Try.func41 (by kernel_rfl) rfl) HS.out
      (fun h k => h.trans k) (fun hz hb => KeepIn.of_but hb (by simp)) (fun V l o o' hl hV ho => KeepIn.of_but (but_putObj o' hV) (by have := HZ.out; simp only [List.mem_singleton]; rintro x rfl ⟨h1, h2⟩; omega)) (anyA_abides _) (But.refl _ _) (fun _ => rfl)
      (WhI w w3.heap.size) (fun _ _ _ => False) (HZ.out ▸ WhI.abides2 w w3.heap.size HLT.out) (fun _ => Abides.none _) HI0.out
      (fun x a' W => ∃ (u0 u1 u2 u3 u4 u5 u7 u8 u9 u10 u11 u13 u15 u16 u17 u18 u19 u20 u21 u22 u23 u24 u25 u26 u27 u28 u29 u30 u31 u32 u33 u34 u35 u36 u37 u38 u39 u40 u41 u42 u43 u44 u45 u46 u47 u48 u49 u50 u51 u52 u53 u54 u55 u56 u57 u58 u59 u60 u61 u62 u63 u64 u65 u66 u67 u68 u69 u70 : Value), a' = { tmps := List.toArray (u0 :: u1 :: u2 :: u3 :: u4 :: u5 :: .pointer (some ⟨w.heap.size, 0, none⟩) :: u7 :: u8 :: u9 :: u10 :: u11 :: .pointer (some ⟨w3.heap.size, 0, none⟩) :: u13 :: .int .u8 x.2 :: u15 :: u16 :: u17 :: u18 :: u19 :: u20 :: u21 :: u22 :: u23 :: u24 :: u25 :: u26 :: u27 :: u28 :: u29 :: u30 :: u31 :: u32 :: u33 :: u34 :: u35 :: u36 :: u37 :: u38 :: u39 :: u40 :: u41 :: u42 :: u43 :: u44 :: u45 :: u46 :: u47 :: u48 :: u49 :: u50 :: u51 :: u52 :: u53 :: u54 :: u55 :: u56 :: u57 :: u58 :: u59 :: u60 :: u61 :: u62 :: u63 :: u64 :: u65 :: u66 :: u67 :: u68 :: u69 :: u70 :: []), defers := [] })
      (fun a' => ⟨fun _ _ _ h _ => h, fun _ _ _ _ _ h _ _ _ => h⟩) ?assign ?body ?done ?stop ?throw
    case assign =>
      intro l pre x W K _ _ _ hK
      simp only [encB]
      gi_wp2
      exact hK _ _ (But.refl _ _) ⟨_, _, _, _, _, _, _, _, _, _, _, _, _, _, _, _, _, _, _, _, _, _, _, _, _, _, _, _, _, _, _, _, _, _, _, _, _, _, _, _, _, _, _, _, _, _, _, _, _, _, _, _, _, _, _, _, _, _, _, _, _, _, _, _, _, _, _, _, rfl⟩
    case body =>
      rintro l pre x a' W ⟨u0, u1, u2, u3, u4, u5, u7, u8, u9, u10, u11, u13, u15, u16, u17, u18, u19, u20, u21, u22, u23, u24, u25, u26, u27, u28, u29, u30, u31, u32, u33, u34, u35, u36, u37, u38, u39, u40, u41, u42, u43, u44, u45, u46, u47, u48, u49, u50, u51, u52, u53, u54, u55, u56, u57, u58, u59, u60, u61, u62, u63, u64, u65, u66, u67, u68, u69, u70, rfl⟩ hI hx _ hlt
      have hc : W.cell? ⟨w3.heap.size, 0, none⟩ = some (.int .u64 (valR pre)) := cl_of hI.box 0
      have hf : W.frozen? ⟨w3.heap.size, 0, none⟩ = false := by (unfold World.frozen?; rw [hI.box]; simp)
      have hv := valR_bound hI.ok (by omega)
      obtain ⟨hv0, hv1⟩ := hv
      obtain ⟨i, c'⟩ := x
      obtain ⟨hx0, hx1⟩ := id hx
      simp only at hx0 hx1
      have HRES := Lib.hid (hI.more HLT.out hx)
      have hj : bits .or .u64 (valR pre * 256) c' = valR pre * 256 + c' := joinU64 hv0 (by omega) hx0 (by omega)
      have hw8 : IntKind.u64.wrap (valR pre * 256) = valR pre * 256 := by rw [IntKind.wrap_u64]; omega
      have hwc : IntKind.u64.wrap c' = c' := by rw [IntKind.wrap_u64]; omega
      clear hI hx
      gi_wp2
      exact ⟨HRES.out.1, HRES.out.2.1 _ (fun h => h.1 rfl), HRES.out.2.2⟩
    case done =>
      rintro D ys W rfl hS hI hK
      have hv : valR ys = leV bs := valR_all hS
      have hc : W.cell? ⟨w3.heap.size, 0, none⟩ = some (.int .u64 (leV bs)) := by rw [← hv]; exact cl_of hI.box 0
      have HIW := Lib.hid hI
      have HK := Lib.hid hK
      clear hI hS hK hv
      gi_wp2
      refine ⟨trivial, ?_⟩
      refine (callsIn_wide.2 (word_c _ _)).mono ?_
      rintro e w6 ⟨rfl, hb6⟩
      have r := hb6.heap HIW.out.res (by simp)
      have hf : ∀ i, w6.frozen? ⟨w.heap.size, i, none⟩ = false := fun i => by (unfold World.frozen?; rw [r]; simp)
      have f0 := hf 0
      have f1 := hf 1
      have f2 := hf 2
      have f3 := hf 3
      have d0 := cl_of r 0
      have d1 := cl_of r 1
      have d2 := cl_of r 2
      have d3 := cl_of r 3
      simp only [List.getElem?_toArray, List.getElem?_cons_zero, List.getElem?_cons_succ] at d0 d1 d2 d3
      have HR := Lib.hid r
      have HB6 := Lib.hid hb6
      have HK6 := Lib.hid (hb6.heap HK.out (by simp))
      clear r hb6 hf hc
      gi_wp2
      have h4 := set4 (a' := .int .u8 1) (b' := .int .u64 (leV bs)) (c' := .int .i64 0) (d' := .int .i64 0) HR.out
      have hbb := but4 (W := w6) (R := w.heap.size) (.int .u8 1) (.int .u64 (leV bs)) (.int .i64 0) (.int .i64 0)
      have hk9 := hbb.heap HK6.out (by have := HZ.out; have := HLT.out; simp only [List.mem_singleton]; omega)
      have hbp := but_putObj (.deferred none) hk9
      refine ⟨by simp, .inl ⟨_, _, rfl, run_takeDeferred hk9, ?_⟩⟩
      refine ⟨_, res_load (hbp.heap h4 (by have := HZ.out; have := HLT.out; simp only [List.mem_singleton]; omega)) rfl rfl, ?_⟩
      refine .inl ⟨HBON.out, by rw [← HBS.out]; rfl, ?_⟩
      exact (((HIW.out.but.trans HB6.out (by simp)).trans hbb (fun y hy => .inr (by simp at hy; omega)))).trans hbp (fun y hy => .inr (by have := HZ.out; have := HLT.out; simp at hy; omega))
    case stop =>
      rintro D c pre W _ _ h _
      exact h.elim
    case throw =>
      rintro D pre chain W _ h _ _
      exact h.elim
  · have r := hb3.heap (HBT1.out.heap (al_at _ _) (by simp)) (by simp)
    have hf : ∀ i, w3.frozen? ⟨w.heap.size, i, none⟩ = false := fun i => by (unfold World.frozen?; rw [r]; simp)
    have f0 := hf 0
    have f1 := hf 1
    have f2 := hf 2
    have f3 := hf 3
    have d0 := cl_of r 0
    have d1 := cl_of r 1
    have d2 := cl_of r 2
    have d3 := cl_of r 3
    simp only [List.getElem?_toArray, List.getElem?_cons_zero, List.getElem?_cons_succ] at d0 d1 d2 d3
    have HR := Lib.hid r
    have HB3 := Lib.hid hb3
    have HOFF := Lib.hid hboff
    clear g1 g2 hb3 r hf hboff
    gi_wp2
    have h4 := set4 (a' := .int .u8 0) (b' := .int .u64 0) (c' := .int .i64 0) (d' := .int .i64 0) HR.out
    have hbb := but4 (W := w3) (R := w.heap.size) (.int .u8 0) (.int .u64 0) (.int .i64 0) (.int .i64 0)
    refine ⟨_, res_load h4 rfl rfl, ?_⟩
    exact .inr ⟨HOFF.out, rfl, ((((But.refl [] w).alloc _).trans HBT1.out (by simp)).trans HB3.out (by simp)).trans hbb (fun y hy => .inr (by simp at hy; omega))⟩
set_option maxRecDepth 100000 in
set_option maxHeartbeats 4000000 in
theorem load_bytes2 (P o n : Nat) (S : Stk) (w : World) (hI : Inv S) (hn : sizeB n = true) (hn8 : n ≤ 8) (hon : o + n ≤ 512) (hB : Blk w P 57 833 (S.val true)) (g1 : ((n : Int) == 8) = true) (g2 : (o : Int) % 8 = 0) (g3 : (S.whole (o / 8)).k = 0) :
    CallsIn Fence.wide 3 Try.prog 12 #[.pointer (some ⟨P, 0, none⟩), .int .i64 (o : Int), .int .i64 (n : Int)] w fun e w' => (bitsOn S o n = true ∧ e = .returned (.tuple #[(CV.mk 1 (leV (rowB S o n)) 0 0).agg, .int .i64 0]) ∧ But [] w w') ∨ (bitsOn S o n = false ∧ e = .returned (.tuple #[c0.agg, .int .i64 30]) ∧ But [] w w') := by
  have HB := Lib.hid hB
  have HON := Lib.hid hon
  have HI := Lib.hid hI
  have HN := Lib.hid hn
  have HZC := Lib.hid (show checkE o n true = 0 from by unfold checkE; rw [if_pos rfl, if_pos (by omega)])
  have ho512 : o < 512 := by
    unfold sizeB at hn
    have h := of_decide_eq_true hn
    omega
  have HO := Lib.hid ho512
  clear hB hon hI hn ho512
  refine callsIn_of_wp_marks Try.func12 rfl trivial ?_ rfl
  simp only [Try.ntmps12, List.size_toArray, List.length_cons, List.length_nil, Nat.reduceAdd, Nat.reduceSub, Array.replicate_succ, Array.replicate_zero, List.push_toArray, List.append_toArray, List.nil_append, List.cons_append]
  gi_wp2
  refine ⟨trivial, ?_⟩
  refine (callsIn_wide.2 (sized_c _ _)).mono ?_
  rintro e w1 ⟨rfl, hb1⟩
  rw [HN.out]
  have HB1 : Hid (Blk w1 P 57 833 (S.val true)) := Lib.hid (((HB.out.but ((But.refl [] w).alloc _) (by simp))).but hb1 (by simp))
  have HBT1 := Lib.hid hb1
  clear hb1
  gi_wp2
  refine ⟨trivial, ?_⟩
  refine (callsIn_wide.2 (check_c P S o n true w1 HB1.out (fun _ => by omega))).mono ?_
  rintro e w2 ⟨rfl, rfl⟩
  rw [HZC.out]
  gi_wp2
  refine ⟨trivial, ?_⟩
  refine (callsIn_wide.2 (rowAt P o w1 HO.out)).mono ?_
  rintro e w2 ⟨rfl, rfl⟩
  have c9 : w1.cell? ⟨P, o / 8 * 13, none⟩ = some (.int .u8 0) := HB1.out.cell' (by have := HO.out; omega) (by rw [show o / 8 * 13 = o / 8 * 13 + 0 by omega, val_whole _ _ (by have := HO.out; omega) (by omega)]; show Value.int .u8 (S.whole (o / 8)).k = _; rw [g3])
  clear g3
  gi_wp2
  refine ⟨trivial, ?_⟩
  refine (callsIn_wide.2 (readp_c P o n S w1 HI.out HON.out HB1.out)).mono ?_
  rintro e w3 (⟨hbon, ⟨a, c, rfl, hsee, hown⟩, hb3⟩ | ⟨hboff, rfl, hb3⟩)
  · have hlen : (rowB S o n).length = n := rowB_len S o n
    have hbyte : ByteL (rowB S o n) := rowB_byte HI.out HON.out
    have HLEV : Hid (∃ bs, bs = rowB S o n) := Lib.hid ⟨_, rfl⟩
    obtain ⟨bs, hbs⟩ := HLEV.out
    rw [← hbs] at hsee hown hlen hbyte ⊢
    have HBS := Lib.hid hbs
    have hbl : bs.length ≤ 8 := by omega
    obtain ⟨W4, hW4⟩ : ∃ W4, W4 = (w3.alloc (.cells #[.int .u64 0] 31)).alloc (.cells #[.slice a bs.length c] 37) := ⟨_, rfl⟩
    have hz4 : W4.heap.size = w3.heap.size + 2 := by rw [hW4, size_alloc, size_alloc]
    have HS := Lib.hid (back_of w3 a c bs hsee hbyte hbl hown)
    have hb03 := HBT1.out.trans hb3 (by simp)
    have hlt : w.heap.size < w3.heap.size := by have h := hb03.size; rw [size_alloc] at h; omega
    have HI0 := Lib.hid (whI_0 w w3 hb03 (.slice a bs.length c))
    rw [← hW4] at HS HI0
    have HW4 : Hid ((w3.alloc (.cells #[.int .u64 0] 31)).alloc (.cells #[.slice a bs.length c] 37) = W4) := Lib.hid hW4.symm
    have HZ := Lib.hid hz4
    have HLT := Lib.hid hlt
    have HBON := Lib.hid hbon
    clear hbs hsee hown hlen hbyte hW4 hz4 hb03 hlt hbon hb3 g1 g2 c9
    gi_wp2
    refine ⟨trivial, ?_⟩
    refine (callsIn_wide.2 (back_c _ _ _ _)).mono ?_
    rintro e w5 ⟨rfl, rfl⟩
    gi_wp2
    rw [HW4.out]
    refine wpIn_rangeFunc_but rfl (by omega) (gf := 41) (lb := #[.pointer (some ⟨w3.heap.size + 1, 0, none⟩)]) rfl trivial (enters_of Try.func41 (by kernel_rfl) rfl) HS.out
      (fun h k => h.trans k) (fun hz hb => KeepIn.of_but hb (by simp)) (fun V l o o' hl hV ho => KeepIn.of_but (but_putObj o' hV) (by have := HZ.out; simp only [List.mem_singleton]; rintro x rfl ⟨h1, h2⟩; omega)) (anyA_abides _) (But.refl _ _) (fun _ => rfl)
      (WhI w w3.heap.size) (fun _ _ _ => False) (HZ.out ▸ WhI.abides2 w w3.heap.size HLT.out) (fun _ => Abides.none _) HI0.out
      (fun x a' W => ∃ (u0 u1 u2 u3 u4 u5 u7 u8 u9 u10 u11 u13 u15 u16 u17 u18 u19 u20 u21 u22 u23 u24 u25 u26 u27 u28 u29 u30 u31 u32 u33 u34 u35 u36 u37 u38 u39 u40 u41 u42 u43 u44 u45 u46 u47 u48 u49 u50 u51 u52 u53 u54 u55 u56 u57 u58 u59 u60 u61 u62 u63 u64 u65 u66 u67 u68 u69 u70 : Value), a' = { tmps := List.toArray (u0 :: u1 :: u2 :: u3 :: u4 :: u5 :: .pointer (some ⟨w.heap.size, 0, none⟩) :: u7 :: u8 :: u9 :: u10 :: u11 :: .pointer (some ⟨w3.heap.size, 0, none⟩) :: u13 :: .int .u8 x.2 :: u15 :: u16 :: u17 :: u18 :: u19 :: u20 :: u21 :: u22 :: u23 :: u24 :: u25 :: u26 :: u27 :: u28 :: u29 :: u30 :: u31 :: u32 :: u33 :: u34 :: u35 :: u36 :: u37 :: u38 :: u39 :: u40 :: u41 :: u42 :: u43 :: u44 :: u45 :: u46 :: u47 :: u48 :: u49 :: u50 :: u51 :: u52 :: u53 :: u54 :: u55 :: u56 :: u57 :: u58 :: u59 :: u60 :: u61 :: u62 :: u63 :: u64 :: u65 :: u66 :: u67 :: u68 :: u69 :: u70 :: []), defers := [] })
      (fun a' => ⟨fun _ _ _ h _ => h, fun _ _ _ _ _ h _ _ _ => h⟩) ?assign ?body ?done ?stop ?throw
    case assign =>
      intro l pre x W K _ _ _ hK
      simp only [encB]
      gi_wp2
      exact hK _ _ (But.refl _ _) ⟨_, _, _, _, _, _, _, _, _, _, _, _, _, _, _, _, _, _, _, _, _, _, _, _, _, _, _, _, _, _, _, _, _, _, _, _, _, _, _, _, _, _, _, _, _, _, _, _, _, _, _, _, _, _, _, _, _, _, _, _, _, _, _, _, _, _, _, _, rfl⟩
    case body =>
      rintro l pre x a' W ⟨u0, u1, u2, u3, u4, u5, u7, u8, u9, u10, u11, u13, u15, u16, u17, u18, u19, u20, u21, u22, u23, u24, u25, u26, u27, u28, u29, u30, u31, u32, u33, u34, u35, u36, u37, u38, u39, u40, u41, u42, u43, u44, u45, u46, u47, u48, u49, u50, u51, u52, u53, u54, u55, u56, u57, u58, u59, u60, u61, u62, u63, u64, u65, u66, u67, u68, u69, u70, rfl⟩ hI hx _ hlt
      have hc : W.cell? ⟨w3.heap.size, 0, none⟩ = some (.int .u64 (valR pre)) := cl_of hI.box 0
      have hf : W.frozen? ⟨w3.heap.size, 0, none⟩ = false := by (unfold World.frozen?; rw [hI.box]; simp)
      have hv := valR_bound hI.ok (by omega)
      obtain ⟨hv0, hv1⟩ := hv
      obtain ⟨i, c'⟩ := x
      obtain ⟨hx0, hx1⟩ := id hx
      simp only at hx0 hx1
      have HRES := Lib.hid (hI.more HLT.out hx)
      have hj : bits .or .u64 (valR pre * 256) c' = valR pre * 256 + c' := joinU64 hv0 (by omega) hx0 (by omega)
      have hw8 : IntKind.u64.wrap (valR pre * 256) = valR pre * 256 := by rw [IntKind.wrap_u64]; omega
      have hwc : IntKind.u64.wrap c' = c' := by rw [IntKind.wrap_u64]; omega
      clear hI hx
      gi_wp2
      exact ⟨HRES.out.1, HRES.out.2.1 _ (fun h => h.1 rfl), HRES.out.2.2⟩
    case done =>
      rintro D ys W rfl hS hI hK
      have hv : valR ys = leV bs := valR_all hS
      have hc : W.cell? ⟨w3.heap.size, 0, none⟩ = some (.int .u64 (leV bs)) := by rw [← hv]; exact cl_of hI.box 0
      have HIW := Lib.hid hI
      have HK := Lib.hid hK
      clear hI hS hK hv
      gi_wp2
      refine ⟨trivial, ?_⟩
      refine (callsIn_wide.2 (word_c _ _)).mono ?_
      rintro e w6 ⟨rfl, hb6⟩
      have r := hb6.heap HIW.out.res (by simp)
      have hf : ∀ i, w6.frozen? ⟨w.heap.size, i, none⟩ = false := fun i => by (unfold World.frozen?; rw [r]; simp)
      have f0 := hf 0
      have f1 := hf 1
      have f2 := hf 2
      have f3 := hf 3
      have d0 := cl_of r 0
      have d1 := cl_of r 1
      have d2 := cl_of r 2
      have d3 := cl_of r 3
      simp only [List.getElem?_toArray, List.getElem?_cons_zero, List.getElem?_cons_succ] at d0 d1 d2 d3
      have HR := Lib.hid r
      have HB6 := Lib.hid hb6
      have HK6 := Lib.hid (hb6.heap HK.out (by simp))
      clear r hb6 hf hc
      gi_wp2
      have h4 := set4 (a' := .int .u8 1) (b' := .int .u64 (leV bs)) (c' := .int .i64 0) (d' := .int .i64 0) HR.out
      have hbb := but4 (W := w6) (R := w.heap.size) (.int .u8 1) (.int .u64 (leV bs)) (.int .i64 0) (.int .i64 0)
      have hk9 := hbb.heap HK6.out (by have := HZ.out; have := HLT.out; simp only [List.mem_singleton]; omega)
      have hbp := but_putObj (.deferred none) hk9
      refine ⟨by simp, .inl ⟨_, _, rfl, run_takeDeferred hk9, ?_⟩⟩
      refine ⟨_, res_load (hbp.heap h4 (by have := HZ.out; have := HLT.out; simp only [List.mem_singleton]; omega)) rfl rfl, ?_⟩
      refine .inl ⟨HBON.out, by rw [← HBS.out]; rfl, ?_⟩
      exact (((HIW.out.but.trans HB6.out (by simp)).trans hbb (fun y hy => .inr (by simp at hy; omega)))).trans hbp (fun y hy => .inr (by have := HZ.out; have := HLT.out; simp at hy; omega))
    case stop =>
      rintro D c pre W _ _ h _
      exact h.elim
    case throw =>
      rintro D pre chain W _ h _ _
      exact h.elim
  · have r := hb3.heap (HBT1.out.heap (al_at _ _) (by simp)) (by simp)
    have hf : ∀ i, w3.frozen? ⟨w.heap.size, i, none⟩ = false := fun i => by (unfold World.frozen?; rw [r]; simp)
    have f0 := hf 0
    have f1 := hf 1
    have f2 := hf 2
    have f3 := hf 3
    have d0 := cl_of r 0
    have d1 := cl_of r 1
    have d2 := cl_of r 2
    have d3 := cl_of r 3
    simp only [List.getElem?_toArray, List.getElem?_cons_zero, List.getElem?_cons_succ] at d0 d1 d2 d3
    have HR := Lib.hid r
    have HB3 := Lib.hid hb3
    have HOFF := Lib.hid hboff
    clear g1 g2 c9 hb3 r hf hboff
    gi_wp2
    have h4 := set4 (a' := .int .u8 0) (b' := .int .u64 0) (c' := .int .i64 0) (d' := .int .i64 0) HR.out
    have hbb := but4 (W := w3) (R := w.heap.size) (.int .u8 0) (.int .u64 0) (.int .i64 0) (.int .i64 0)
    refine ⟨_, res_load h4 rfl rfl, ?_⟩
    exact .inr ⟨HOFF.out, rfl, ((((But.refl [] w).alloc _).trans HBT1.out (by simp)).trans HB3.out (by simp)).trans hbb (fun y hy => .inr (by simp at hy; omega))⟩
end Go.Proofs.Ytmaeiifhmngllaa.M
