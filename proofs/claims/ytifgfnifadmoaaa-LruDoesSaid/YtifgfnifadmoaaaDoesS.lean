/-
  LruDoes, plain: both lrus, and what stands beside them; a step of each.
-/
import Derived.Test.YtifgfnifadmoaaaRefLBll
import Derived.Test.YtifgfnifadmoaaaOverF
import Derived.Test.YtifgfnifadmoaaaLruO
import Derived.Test.YtifgfnifadmoaaaSameR
namespace Go.Proofs.Ytifgfnifadmoaaa.M
open Go.RowKit
set_option linter.unusedVariables false
set_option linter.unusedSectionVars false
set_option linter.unusedSimpArgs false
/-- What turns is new since w, and none of Bx. -/
def KeptX (Bx : List Nat) (w W W' : World) : Prop := ∃ L, But L W W' ∧ ∀ x ∈ L, w.heap.size ≤ x ∧ x ∉ Bx
theorem KeptX.heap {Bx : List Nat} {w W W' : World} (h : KeptX Bx w W W') {g : Nat} {o : Obj} (hg : W.heap[g]? = some o) (hm : g ∈ Bx) : W'.heap[g]? = some o := by
  obtain ⟨L, hb, hL⟩ := h
  exact hb.heap hg (fun hm2 => (hL _ hm2).2 hm)
theorem KeptX.but {Bx : List Nat} {w W W' : World} (h : KeptX Bx w W W') (hw : But [] w W) : But [] w W' := by
  obtain ⟨L, hb, hL⟩ := h
  exact hw.trans hb (fun x hx => .inr (hL x hx).1)
/-- Both lrus; Bx: blocks of neither. -/
def DL (w W : World) (Bx : List Nat) (P R K V N : Nat) (A : LSt) (rows : List (List Int)) (B : LSt) (rowsB : List (List Int)) : Prop :=
  ∃ (S T : Nat → Prop), LO w W S P K V N A rows ∧ RefL W T R K V N B rowsB ∧ (∀ b, T b → w.heap.size ≤ b ∧ b < W.heap.size) ∧ (∀ b, S b → ¬ T b) ∧ ∀ b ∈ Bx, ¬ S b ∧ ¬ T b ∧ b < W.heap.size
section
variable {w W : World} {Bx : List Nat} {P R K V N : Nat} {A B : LSt} {rows rowsB : List (List Int)}
theorem DL.but (h : DL w W Bx P R K V N A rows B rowsB) : But [] w W := by
  obtain ⟨S, T, h1, _⟩ := h
  exact h1.but
theorem DL.keep {W' : World} {L : List Nat} (h : DL w W Bx P R K V N A rows B rowsB) (hb : But L W W') (hL : ∀ x ∈ L, x ∈ Bx ∧ w.heap.size ≤ x) : DL w W' Bx P R K V N A rows B rowsB := by
  obtain ⟨S, T, h1, h2, h3, h4, h5⟩ := h
  exact ⟨S, T, h1.keep hb (fun x hx => ⟨(h5 x (hL x hx).1).1, (hL x hx).2⟩), h2.keep hb (fun x hx => (h5 x (hL x hx).1).2.1), fun b hb' => ⟨(h3 b hb').1, Nat.lt_of_lt_of_le (h3 b hb').2 hb.size⟩, h4, fun b hb' => ⟨(h5 b hb').1, (h5 b hb').2.1, Nat.lt_of_lt_of_le (h5 b hb').2.2 hb.size⟩⟩
theorem DL.box {W' : World} (h : DL w W Bx P R K V N A rows B rowsB) (hb : But [] W W') {g : Nat} (hg : W.heap.size ≤ g) (hg2 : g < W'.heap.size) : DL w W' (g :: Bx) P R K V N A rows B rowsB := by
  obtain ⟨S, T, h1, h2, h3, h4, h5⟩ := h.keep hb (by simp)
  obtain ⟨S0, T0, k1, k2, k3, k4, k5⟩ := h
  refine ⟨S0, T0, k1.keep hb (by simp), k2.keep hb (by simp), fun b hb' => ⟨(k3 b hb').1, Nat.lt_of_lt_of_le (k3 b hb').2 hb.size⟩, k4, fun b hb' => ?_⟩
  rcases List.mem_cons.1 hb' with rfl | hb'
  · exact ⟨fun hs => by have := (k1.low _ hs).2; omega, fun ht => by have := (k3 _ ht).2; omega, hg2⟩
  · exact ⟨(k5 b hb').1, (k5 b hb').2.1, Nat.lt_of_lt_of_le (k5 b hb').2.2 hb.size⟩
theorem DL.sub {Bx' : List Nat} (h : DL w W Bx P R K V N A rows B rowsB) (hs : ∀ b ∈ Bx', b ∈ Bx) : DL w W Bx' P R K V N A rows B rowsB := by
  obtain ⟨S, T, h1, h2, h3, h4, h5⟩ := h
  exact ⟨S, T, h1, h2, h3, h4, fun b hb => h5 b (hs b hb)⟩
theorem DL.turnT {w' : World} {A' : LSt} {rows' : List (List Int)} {S T : Nat → Prop} (h1 : LO w W S P K V N A rows) (h2 : RefL W T R K V N B rowsB) (h3 : ∀ b, T b → w.heap.size ≤ b ∧ b < W.heap.size) (h4 : ∀ b, S b → ¬ T b) (h5 : ∀ b ∈ Bx, ¬ S b ∧ ¬ T b ∧ b < W.heap.size) (hr : ∃ S', LO w w' S' P K V N A' rows' ∧ TurnsO S S' W w') : DL w w' Bx P R K V N A' rows' B rowsB ∧ KeptX Bx w W w' := by
  obtain ⟨S', k1, kS, L, kL, kb⟩ := hr
  have hT : ∀ x ∈ L, ¬ T x := fun x hx ht => by
    rcases kL x hx with h | h
    · exact h4 x h ht
    · have := (h3 x ht).2; omega
  refine ⟨⟨S', T, k1, h2.keep kb hT, fun b hb => ⟨(h3 b hb).1, Nat.lt_of_lt_of_le (h3 b hb).2 kb.size⟩, fun b hs ht => h4 b (kS b (h3 b ht).2 hs) ht, fun b hb => ⟨fun hs => (h5 b hb).1 (kS b (h5 b hb).2.2 hs), (h5 b hb).2.1, Nat.lt_of_lt_of_le (h5 b hb).2.2 kb.size⟩⟩, L, kb, fun x hx => ⟨?_, fun hm => ?_⟩⟩
  · rcases kL x hx with h | h
    · exact (h1.low x h).1
    · exact Nat.le_trans h1.but.size h
  · rcases kL x hx with h | h
    · exact (h5 x hm).1 h
    · have := (h5 x hm).2.2; omega
theorem DL.turnR {w' : World} {B' : LSt} {rowsB' : List (List Int)} {S T : Nat → Prop} (h1 : LO w W S P K V N A rows) (h3 : ∀ b, T b → w.heap.size ≤ b ∧ b < W.heap.size) (h4 : ∀ b, S b → ¬ T b) (h5 : ∀ b ∈ Bx, ¬ S b ∧ ¬ T b ∧ b < W.heap.size) (hr : RefL w' (fun b => T b ∨ W.heap.size ≤ b) R K V N B' rowsB') (ht : Turns (fun b => T b ∨ W.heap.size ≤ b) W w') : DL w w' Bx P R K V N A rows B' rowsB' ∧ KeptX Bx w W w' := by
  obtain ⟨L, kL, kb⟩ := ht
  have hlow : ∀ x ∈ L, w.heap.size ≤ x := fun x hx => by
    rcases kL x hx with h | h
    · exact (h3 x h).1
    · exact Nat.le_trans h1.but.size h
  have hS : ∀ x ∈ L, ¬ S x := fun x hx hs => by
    rcases kL x hx with h | h
    · exact h4 x hs h
    · have := (h1.low x hs).2; omega
  refine ⟨⟨S, fun b => (T b ∨ W.heap.size ≤ b) ∧ b < w'.heap.size, h1.keep kb (fun x hx => ⟨hS x hx, hlow x hx⟩), hr.also (fun x hx h => ⟨h, hx⟩), fun b hb => ⟨?_, hb.2⟩, fun b hs hb => ?_, fun b hb => ⟨(h5 b hb).1, fun ht => ?_, Nat.lt_of_lt_of_le (h5 b hb).2.2 kb.size⟩⟩, L, kb, fun x hx => ⟨hlow x hx, fun hm => ?_⟩⟩
  · rcases hb.1 with h | h
    · exact (h3 b h).1
    · exact Nat.le_trans h1.but.size h
  · rcases hb.1 with h | h
    · exact h4 b hs h
    · have := (h1.low b hs).2; omega
  · rcases ht.1 with h | h
    · exact (h5 b hb).2.1 h
    · have := (h5 b hb).2.2; omega
  · rcases kL x hx with h | h
    · exact (h5 x hm).2.1 h
    · have := (h5 x hm).2.2; omega
theorem DL.lookT (h : DL w W Bx P R K V N A rows B rowsB) (a : Option Addr) (c : Nat) {ks : List Int} (hs : Sees W (.slice a ks.length c) (u8s ks)) (hk : ByteL ks) :
    Calls Try.prog 11 #[.pointer (some ⟨P, 0, none⟩), .slice a ks.length c] W fun r w' => r = .returned (.tuple #[.int .i64 (lookA K A ks).1, .int .i64 (lookA K A ks).2.1]) ∧ DL w w' Bx P R K V N (lookA K A ks).2.2 rows B rowsB ∧ KeptX Bx w W w' := by
  obtain ⟨S, T, h1, h2, h3, h4, h5⟩ := h
  refine (h1.lookup a c hs hk).mono ?_
  rintro r w' ⟨rfl, hr⟩
  exact ⟨rfl, DL.turnT h1 h2 h3 h4 h5 hr⟩
theorem DL.delT (h : DL w W Bx P R K V N A rows B rowsB) (a : Option Addr) (c : Nat) {ks : List Int} (hs : Sees W (.slice a ks.length c) (u8s ks)) (hk : ByteL ks) :
    Calls Try.prog 15 #[.pointer (some ⟨P, 0, none⟩), .slice a ks.length c] W fun r w' => r = .returned (.int .i64 (delA K A ks).1) ∧ DL w w' Bx P R K V N (delA K A ks).2 rows B rowsB ∧ KeptX Bx w W w' := by
  obtain ⟨S, T, h1, h2, h3, h4, h5⟩ := h
  refine (h1.delete a c hs hk).mono ?_
  rintro r w' ⟨rfl, hr⟩
  exact ⟨rfl, DL.turnT h1 h2 h3 h4 h5 hr⟩
theorem DL.updT (h : DL w W Bx P R K V N A rows B rowsB) (g gv : Nat) (c vc : Nat) (hg : g ∈ Bx) (hgv : gv ∈ Bx) {ks vs : List Int} (hs : Sees W (.slice (some ⟨g, 0, none⟩) ks.length c) (u8s ks)) (hk : ByteL ks) (hvs : Sees W (.slice (some ⟨gv, 0, none⟩) vs.length vc) (u8s vs)) (hv : ByteL vs) (f : Int) (hf0 : 0 ≤ f) (hK : 1 ≤ K) (hV : 1 ≤ V) :
    Calls Try.prog 10 #[.pointer (some ⟨P, 0, none⟩), .slice (some ⟨g, 0, none⟩) ks.length c, .slice (some ⟨gv, 0, none⟩) vs.length vc, .int .u64 f] W fun r w' => r = .returned (.int .i64 (updA K V N A rows ks vs f).1) ∧ DL w w' Bx P R K V N (updA K V N A rows ks vs f).2.1 (updA K V N A rows ks vs f).2.2 B rowsB ∧ KeptX Bx w W w' := by
  obtain ⟨S, T, h1, h2, h3, h4, h5⟩ := h
  have off : ∀ g ∈ Bx, ¬ (S g ∨ W.heap.size ≤ g) := fun g hg hk => by
    rcases hk with hk | hk
    · exact (h5 g hg).1 hk
    · have := (h5 g hg).2.2; omega
  refine (h1.at'.update (some ⟨g, 0, none⟩) c hs hk (some ⟨gv, 0, none⟩) vc hvs hv f hf0 (fun _ b hb => by cases hb; exact off g hg) (fun _ b hb => by cases hb; exact off gv hgv) hK hV (fun b hb => .inr hb)).mono ?_
  rintro r w' ⟨rfl, k1, k2⟩
  exact ⟨rfl, DL.turnT h1 h2 h3 h4 h5 (h1.back k1 k2)⟩
theorem DL.setT (h : DL w W Bx P R K V N A rows B rowsB) (p off : Int) (a : Option Addr) (c : Nat) {bs : List Int} (hs : Sees W (.slice a bs.length c) (u8s bs)) (hby : ByteL bs) (hn : bs.length ≤ 140737488351232) :
    Calls Try.prog 25 #[.pointer (some ⟨P, 0, none⟩), .int .i64 p, .int .i64 off, .slice a bs.length c] W fun e w' => e = .returned (.int .i64 (setA V N rows p off bs).1) ∧ DL w w' Bx P R K V N A (setA V N rows p off bs).2 B rowsB ∧ KeptX Bx w W w' := by
  obtain ⟨S, T, h1, h2, h3, h4, h5⟩ := h
  refine (h1.at'.set p off a c hs hby hn).mono ?_
  rintro r w' ⟨rfl, k1, k2⟩
  exact ⟨rfl, DL.turnT h1 h2 h3 h4 h5 (h1.back k1 k2)⟩
theorem DL.ref (h : DL w W Bx P R K V N A rows B rowsB) : ∃ T : Nat → Prop, RefL W (fun b => T b ∨ W.heap.size ≤ b) R K V N B rowsB ∧ (∀ b, T b → w.heap.size ≤ b) ∧ ∀ (w' : World) (B' : LSt) (rowsB' : List (List Int)), RefL w' (fun b => T b ∨ W.heap.size ≤ b) R K V N B' rowsB' → Turns (fun b => T b ∨ W.heap.size ≤ b) W w' → DL w w' Bx P R K V N A rows B' rowsB' ∧ KeptX Bx w W w' := by
  obtain ⟨S, T, h1, h2, h3, h4, h5⟩ := h
  exact ⟨T, h2.also (fun x _ hx => .inl hx), fun b hb => (h3 b hb).1, fun w' B' rowsB' hr ht => DL.turnR h1 h3 h4 h5 hr ht⟩
theorem DL.lookR (h : DL w W Bx P R K V N A rows B rowsB) (a : Option Addr) (c : Nat) {ks : List Int} (hs : Sees W (.slice a ks.length c) (u8s ks)) (hk : ByteL ks) :
    Calls Try.prog 20 #[.pointer (some ⟨R, 0, none⟩), .slice a ks.length c] W fun e w' => e = .returned (.tuple #[.int .i64 (lookA K B ks).1, .int .i64 (lookA K B ks).2.1]) ∧ DL w w' Bx P R K V N A rows (lookA K B ks).2.2 rowsB ∧ KeptX Bx w W w' := by
  obtain ⟨T, h1, h2, h3⟩ := h.ref
  refine (h1.lookup (fun b hb => .inr hb) a c hs hk).mono ?_
  rintro r w' ⟨rfl, k1, k2⟩
  exact ⟨rfl, h3 _ _ _ k1 k2⟩
theorem DL.delR (h : DL w W Bx P R K V N A rows B rowsB) (a : Option Addr) (c : Nat) {ks : List Int} (hs : Sees W (.slice a ks.length c) (u8s ks)) (hk : ByteL ks) :
    Calls Try.prog 21 #[.pointer (some ⟨R, 0, none⟩), .slice a ks.length c] W fun e w' => e = .returned (.int .i64 (delA K B ks).1) ∧ DL w w' Bx P R K V N A rows (delA K B ks).2 rowsB ∧ KeptX Bx w W w' := by
  obtain ⟨T, h1, h2, h3⟩ := h.ref
  refine (h1.delete (fun b hb => .inr hb) a c hs hk).mono ?_
  rintro r w' ⟨rfl, k1, k2⟩
  exact ⟨rfl, h3 _ _ _ k1 k2⟩
theorem DL.setR (h : DL w W Bx P R K V N A rows B rowsB) (p off : Int) (a : Option Addr) (c : Nat) {bs : List Int} (hs : Sees W (.slice a bs.length c) (u8s bs)) (hby : ByteL bs) (hn : bs.length ≤ 140737488351232) :
    Calls Try.prog 26 #[.pointer (some ⟨R, 0, none⟩), .int .i64 p, .int .i64 off, .slice a bs.length c] W fun e w' => e = .returned (.int .i64 (setA V N rowsB p off bs).1) ∧ DL w w' Bx P R K V N A rows B (setA V N rowsB p off bs).2 ∧ KeptX Bx w W w' := by
  obtain ⟨T, h1, h2, h3⟩ := h.ref
  refine (h1.set p off a c hs hby hn).mono ?_
  rintro r w' ⟨rfl, k1, k2⟩
  exact ⟨rfl, h3 _ _ _ k1 k2⟩
/-- Arguments that came in. -/
theorem DL.updR (h : DL w W Bx P R K V N A rows B rowsB) (a vb : Option Addr) (c vc : Nat) {ks vs : List Int} (hs : Sees w (.slice a ks.length c) (u8s ks)) (hk : ByteL ks) (hvs : Sees w (.slice vb vs.length vc) (u8s vs)) (hv : ByteL vs) (f : Int) (hpn : (B.map (·.2)).Nodup) :
    Calls Try.prog 28 #[.pointer (some ⟨R, 0, none⟩), .slice a ks.length c, .slice vb vs.length vc, .int .u64 f] W fun e w' => e = .returned (.int .i64 (updA K V N B rowsB ks vs f).1) ∧ DL w w' Bx P R K V N A rows (updA K V N B rowsB ks vs f).2.1 (updA K V N B rowsB ks vs f).2.2 ∧ KeptX Bx w W w' := by
  have hb := h.but
  obtain ⟨T, h1, h2, h3⟩ := h.ref
  have off : ∀ {a : Option Addr} {c : Nat} {ks : List Int}, Sees w (.slice a ks.length c) (u8s ks) → 0 < ks.length → ∀ b, (Value.slice a ks.length c).ownBlock = some b → ¬ (T b ∨ W.heap.size ≤ b) := fun hs h0 b hbb hk => by
    have h9 := offU' (W := W) hs hb.size h0 b hbb
    have := hb.size
    rcases hk with hk | hk
    · have := h2 b hk; omega
    · omega
  refine (h1.update (fun b hb => .inr hb) a vb c vc (hs.but hb (by simp)) hk (hvs.but hb (by simp)) hv (off hs) (off hvs) f hpn).mono ?_
  rintro r w' ⟨rfl, k1, k2⟩
  exact ⟨rfl, h3 _ _ _ k1 k2⟩
theorem DL.valT (h : DL w W Bx P R K V N A rows B rowsB) (p : Int) :
    Calls Try.prog 17 #[.pointer (some ⟨P, 0, none⟩), .int .i64 p] W fun e w' => ∃ v, e = .returned (.tuple #[v, .int .i64 (valA N rows p).2]) ∧ NewRow W w' v (valA N rows p).1 ∧ But [] W w' := by
  obtain ⟨S, T, h1, _⟩ := h
  exact h1.ls.value p
theorem DL.valR (h : DL w W Bx P R K V N A rows B rowsB) (p : Int) :
    Calls Try.prog 22 #[.pointer (some ⟨R, 0, none⟩), .int .i64 p] W fun e w' => ∃ v, e = .returned (.tuple #[v, .int .i64 (valA N rowsB p).2]) ∧ NewRow W w' v (valA N rowsB p).1 ∧ But [] W w' := by
  obtain ⟨S, T, _, h2, _⟩ := h
  exact h2.value p
theorem DL.keysT (h : DL w W Bx P R K V N A rows B rowsB) (hN : N ≤ 1024) :
    Calls Try.prog 12 #[.pointer (some ⟨P, 0, none⟩)] W fun e w' => ∃ a c, e = .returned (.slice a A.length c) ∧ SeesRows w' (.slice a A.length c) ((A.map (·.1)).map u8s) ∧ (∃ vals, OwnQ w' 25 (.slice a A.length c) vals ∧ vals.length = A.length ∧ ∀ v ∈ vals, OverRow W.heap.size w' v) ∧ But [] W w' := by
  obtain ⟨S, T, h1, _⟩ := h
  exact h1.ls.keys hN
theorem DL.keysR (h : DL w W Bx P R K V N A rows B rowsB) :
    Calls Try.prog 27 #[.pointer (some ⟨R, 0, none⟩)] W fun e w' => ∃ a c, e = .returned (.slice a B.length c) ∧ SeesRows w' (.slice a B.length c) ((B.map (·.1)).map u8s) ∧ But [] W w' := by
  obtain ⟨S, T, _, h2, _⟩ := h
  exact h2.keysR
theorem DL.places (h : DL w W Bx P R K V N A rows B rowsB) : (A.map (·.2)).Nodup := by
  obtain ⟨S, T, h1, _⟩ := h
  exact h1.ls.places.1
theorem DL.rowsLen (h : DL w W Bx P R K V N A rows B rowsB) : A.length ≤ N ∧ (∀ x ∈ A, x.1.length = K) ∧ ∀ (p : Int), (valA N rows p).1.length ≤ 1048576 := by
  obtain ⟨S, T, h1, _⟩ := h
  refine ⟨?_, ?_, fun p => ?_⟩
  · obtain ⟨p1, p2, p3⟩ := h1.ls.places
    have := nodup_below N (A.map (·.2)) p1 (fun x hx => by obtain ⟨y, hy, rfl⟩ := List.mem_map.1 hx; exact p2 y hy)
    simpa using this
  · intro x hx
    obtain ⟨M, U, Rm, g, E, k1, k2, k3, k4⟩ := h1.ls
    have h5 : (strOfNums x.1, x.2) ∈ enc A := List.mem_map_of_mem (f := fun x : List Int × Nat => (strOfNums x.1, x.2)) hx
    rw [← k2] at h5
    obtain ⟨e, he, h6⟩ := List.mem_map.1 h5
    simp only [Prod.mk.injEq] at h6
    have h7 := k1.keys.2 e he
    rw [h6.1, strOfNums_size] at h7
    exact h7
  · unfold valA
    split
    · simp
    · rename_i hp
      obtain ⟨r, hr, hrl, _⟩ := h1.ls.rowAt hp
      obtain ⟨M, U, Rm, g, E, k1, _⟩ := h1.ls
      have := k1.bounds.2.2.2
      simp [hr]
      omega
end
theorem zeros_u8 (n : Nat) : zeros n = u8s (List.replicate n 0) := by
  refine List.ext_getElem? fun i => ?_
  unfold zeros u8s
  rw [List.getElem?_map, Array.getElem?_toList]
  by_cases hi : i < n
  · simp [madeCells, hi, Nat.mod_one]
  · simp [madeCells, hi]
/-- The reference's lru, as New leaves it. -/
theorem refL_new {K V N : Nat} {w w' : World} {X : Nat} {a : Option Addr} {c : Nat} {vals : List Value} (h : NewR K N w w' X V a c vals) (hl : vals.length = N) (hb : (1 ≤ K ∧ K ≤ 64) ∧ (1 ≤ V ∧ V ≤ 1024) ∧ (1 ≤ N ∧ N ≤ 1024)) : RefL w' (fun b => w.heap.size ≤ b) X K V N [] (List.replicate N (List.replicate V 0)) := by
  refine ⟨h.hA, ⟨none, 0, a, c, vals, h.at', OwnP.nil _ _, (fun x hx => by cases hx), ⟨h.own, h.low, ⟨hl, by simp⟩, fun i v r hv hr => ?_, h.apart⟩⟩, (by simp), (by simp), hb⟩
  obtain ⟨h1, h2⟩ := h.each i v hv
  obtain rfl : r = List.replicate V 0 := by
    have := List.mem_of_getElem? hr
    exact List.eq_of_mem_replicate this
  refine ⟨by rw [← zeros_u8]; exact h1, h2, by simp, fun x hx => ?_⟩
  rw [List.eq_of_mem_replicate hx]
  omega
end Go.Proofs.Ytifgfnifadmoaaa.M
