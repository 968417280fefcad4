/-
  Plain: bytes that come in, as numbers in their range; an append of whatever slice to a row of one's own.
-/
import Derived.Test.YtddeckkcfcodbaaGreatPuts
import Derived.BigFrame
namespace Go.Proofs.YtddeckkcfcodbaaGreat.M
open Go.RowKit Go.Shelf
set_option linter.unusedVariables false
set_option linter.unusedSectionVars false
set_option linter.unusedSimpArgs false
section
variable {H : Type} {enc : TypeId × Value → H} {P : Program} {w : World}
theorem bytes8_of {t e : TypeId} (ht : P.underlying t = some (.slice e)) (he : P.underlying e = some (.int .u8)) (hc : P.cellsOf e = 1) (h1 : P.bytesOf e = 1) {base : Nat} {v : Value} {d : DataW H} {ps : List MemPlace}
    (hval : Value.okWide P w .any base t v) (h : DataW.Trod enc P w 0 (fun _ => true) true t v d ps) (hsz : ∀ n ∈ d.weights P t, n ≤ reachBytes) :
    ∃ l : List Int, (Sees w v (u8s l) ∧ ByteL l) ∧ l.length ≤ 140737488351232 := by
  obtain ⟨a1, len, cap, rfl⟩ := WideShapes.okWide_slice ht hval
  obtain ⟨fuel, hf⟩ := h
  rcases ChangeShapes.open_ints ht he hc hf with ⟨hcs, hx⟩ | ⟨a, len', cap', zs, hcs, _, hl, hm, hz, hx, hcell, hwz⟩
  · simp [Value.cells] at hcs
    obtain ⟨rfl, rfl, rfl⟩ := hcs
    exact ⟨[], ⟨.inl ⟨rfl, rfl⟩, (fun u hu => by cases hu)⟩, Nat.zero_le _⟩
  · simp [Value.cells] at hcs
    obtain ⟨rfl, rfl, rfl⟩ := hcs
    simp only [Prod.mk.injEq] at hx
    obtain ⟨rfl, rfl⟩ := hx
    simp only [if_true] at hz
    have hw := hsz (cap * P.bytesOf e) (by
      simp only [DataW.weights, ht, List.mem_cons]
      left
      simp only [ChangeShapes.lits, List.length_map, List.length_take, List.length_drop, hz]
      congr 1
      omega)
    rw [h1] at hw
    have hr : reachBytes = 140737488351232 := rfl
    refine ⟨zs.take len, ⟨.inr ⟨a, cap, ?_, ?_, fun j u hu => ?_⟩, fun z hz => ?_⟩, ?_⟩
    · simp [u8s]; omega
    · simp [u8s]; omega
    · unfold u8s at hu
      rw [List.getElem?_map] at hu
      obtain ⟨z, hz2, rfl⟩ := Option.map_eq_some_iff.1 hu
      have hj : j < zs.length := by
        have := (List.getElem?_eq_some_iff.1 hz2).1
        simp at this
        omega
      rw [hcell j hj]
      rw [List.getElem?_take] at hz2
      split at hz2
      · simp [List.getD, hz2]
      · cases hz2
    · exact wf_u8 (hwz z (List.mem_of_mem_take hz))
    · simp; omega
end
section
variable {H : Type} {enc : TypeId × Value → H} {w : World}
set_option maxRecDepth 100000 in
theorem bytes8_in {base : Nat} {v : Value} {d : DataW H} {ps : List MemPlace} (hval : Value.okWide Tryz.prog w .any base 22 v) (h : DataW.Trod enc Tryz.prog w 0 (fun _ => true) true 22 v d ps) (hsz : ∀ n ∈ d.weights Tryz.prog 22, n ≤ reachBytes) :
    ∃ l : List Int, (Sees w v (u8s l) ∧ ByteL l) ∧ l.length ≤ 140737488351232 :=
  bytes8_of Tryz.underlying22 Tryz.underlying5 (by kernel_rfl) (by kernel_rfl) hval h hsz
end
theorem seesD_sees {w : World} {v : Value} {bs : List Int} (h : Sees w v (u8s bs)) : ∃ a c, v = .slice a bs.length c ∧ SeesD w a c bs := by
  rcases h with ⟨rfl, h0⟩ | ⟨ad, c, rfl, hc, hx⟩
  · obtain rfl : bs = [] := by cases bs with | nil => rfl | cons => cases h0
    exact ⟨none, 0, rfl, by simp, fun i x hx => by simp at hx⟩
  · rw [u8s_len] at hc ⊢
    refine ⟨some ad, c, rfl, hc, fun i x hi => ?_⟩
    have hsp : ad.spot = none := by
      have h0 : 0 < bs.length := by have := (List.getElem?_eq_some_iff.1 hi).1; omega
      have h1 := hx 0 (.int .u8 bs[0]) (by unfold u8s; rw [List.getElem?_map, List.getElem?_eq_getElem h0]; rfl)
      have h2 : ad.add 0 = ad := by simp [Addr.add]
      rw [h2] at h1
      cases hs : ad.spot with
      | none => rfl
      | some k =>
        exfalso
        unfold World.cell? at h1
        split at h1
        · simp [hs] at h1
        · cases h1
    obtain ⟨b, o, sp⟩ := ad
    simp only at hsp
    subst hsp
    refine ⟨b, o, rfl, ?_⟩
    have h1 := hx i (.int .u8 x) (by unfold u8s; rw [List.getElem?_map, hi]; rfl)
    rw [add_at] at h1
    exact h1
section
variable {P : Program}
theorem wpList_append_own_any (w : World) {ops : Array Oper} {rest : List Oper} {o : Oper} {a : Act} {Q : Exit → Act → World → Prop}
    (hg : o.guard = none) (s x : Operand) (t : TypeId) (hop : o.op = Op.call { callee := Callee.builtin Builtin.append, args := #[s, x], argTypes := #[t, t] })
    (base : Nat) (e : TypeId) (i : TypeInfo) (z : Value) (size bytes : Nat) (h1 : P.underlying t = some (.slice e)) (h2 : P.info? e = some i) (h3 : i.zero = some z) (h4 : i.size = size) (h5 : i.bytes = bytes) (h6 : z.cells.size = size) (h7 : 0 < size)
    (v : Value) (k : Nat) (xs : List Value) (hs : a.eval s = v) (hown : w.ownsRow base e size v k xs) (ao : Option Addr) (m c : Nat) (news : List Value) (hx : a.eval x = .slice ao m c) (hn : news.length = m * size)
    (hnone : ao = none → m = 0 ∧ c = 0) (hc : ∀ ad, ao = some ad → ∀ j u, news[j]? = some u → w.cell? (ad.add j) = some u) (h1c : ∀ u ∈ news, u.oneCell' = true) (b1 : k + m ≤ maxLen) (b2 : (k + m) * bytes ≤ 140737488355328) (b3 : base ≤ w.heap.size)
    (hK : ∀ v' w', w'.ownsRow base e size v' (k + m) (xs ++ news) → w.grownBy w' v.ownBlock → wpList P ops Q rest (a.put o.dst v') w') :
    wpList P ops Q (o :: rest) a w := by
  cases ao with
  | some ad => exact wpList_append_own w hg s x t hop base e i z size bytes h1 h2 h3 h4 h5 h6 h7 v k xs hs hown ad m c news hx hn (hc ad rfl) h1c b1 b2 b3 (fun v' w' q1 q2 _ => hK v' w' q1 q2)
  | none =>
    obtain ⟨rfl, rfl⟩ := hnone rfl
    have hnews : news = [] := List.eq_nil_of_length_eq_zero (by simpa using hn)
    subst hnews
    refine wpList_plain hg fun K hK' => ?_
    have hrun := run_append_owned_none (P := P) w base t o.type e i size h1 h2 _ k xs hown
    unfold Oper.wp
    simp [execOp, hop, resolve, invoke, builtin, hs, hx, hrun, Result.andThen]
    exact hK' _ _ (by simpa using hK v w (by simpa using hown) (World.grownBy.refl _ _))
theorem wpList_append_row_g {w : World} {ops : Array Oper} {rest : List Oper} {op : Oper} {a : Act} {Q : Exit → Act → World → Prop} (hw : Region.wanted op (yielded ops a.tmps) = true) (s x : Operand) (t : TypeId)
    (ho : op.op = .call { callee := .builtin .append, args := #[s, x], argTypes := #[t, t] })
    (e : TypeId) (i : TypeInfo) (z : Value) (bytes : Nat) (ht : P.underlying t = some (.slice e)) (hi : P.info? e = some i) (hz : i.zero = some z)
    (hsize : i.size = 1) (hby : i.bytes = bytes) (hzs : z.cells.size = 1)
    (v : Value) (xs : List Value) (hs : a.eval s = v) (hown : OwnQ w e v xs) (news : List Value) (y : Value) (hx : a.eval x = y) (hsrc : Src P i.size t y news.length news w)
    (h63 : xs.length + news.length ≤ maxLen) (hbytes : (xs.length + news.length) * bytes ≤ 140737488355328)
    (h : ∀ v' w', Appended w w' e v v' xs news → wpList P ops Q rest (a.put op.dst v') w') :
    wpList P ops Q (op :: rest) a w := by
  refine BigFrame.wpList_want hw fun K hK => ?_
  obtain ⟨v', w', hr, h2⟩ := run_append_row (P := P) t op.type e i z bytes ht hi hz hsize hby hzs v xs hown y news hsrc h63 hbytes
  unfold Oper.wp execOp
  simp only [ho, resolve, invoke, builtin, Sem.run_bind, Sem.run_pure, Result.andThen_ok, List.map_toArray, List.map_cons, List.map_nil, hs, hx, hr]
  exact hK _ _ (h v' w' h2)
end
/-- Behind an append to slots of one's own. -/
theorem rowI_more {w' : World} {B : Nat} {v' : Value} {l m : List Ins} (hown : w'.ownsRow B 27 5 v' (l.length + m.length) (l.flatMap Ins.cells ++ m.flatMap Ins.cells)) : RowI B w' v' (l ++ m) := by
  unfold RowI
  rw [List.length_append, List.flatMap_append]
  exact hown
theorem getErr_is {n : Nat} (h : n ≤ 32768) : getErr n = if n % 8 = 0 then 0 else 4 := by
  unfold getErr; rw [if_neg (by omega)]
theorem good_dec {bs : List Int} (h : ByteL bs) (n : Nat) : ∀ x ∈ decL bs n, InsOk x ∧ Good x := fun x hx => by
  obtain ⟨i, _, rfl⟩ := List.mem_map.1 hx
  exact decI_ok (atI_byte h i)
theorem putErr_app {l m : List Ins} (hl : l.length + m.length ≤ 4096) : putErr (l ++ m) = if putErr l = 0 ∧ putErr m = 0 then 0 else 21 := by
  have h1 : putErr l = if l.all goodB then 0 else 21 := by unfold putErr; rw [if_neg (by omega)]
  have h2 : putErr m = if m.all goodB then 0 else 21 := by unfold putErr; rw [if_neg (by omega)]
  have h3 : putErr (l ++ m) = if (l ++ m).all goodB then 0 else 21 := by unfold putErr; rw [if_neg (by rw [List.length_append]; omega)]
  rw [h1, h2, h3, List.all_append]
  cases l.all goodB <;> cases m.all goodB <;> simp
theorem putErr_all {l : List Ins} (h : putErr l = 0) : (∀ x ∈ l, Good x) ∧ l.length ≤ 4096 := by
  unfold putErr at h
  split at h
  · cases h
  · split at h
    · rename_i h1 h2
      exact ⟨fun x hx => (goodB_iff x).1 (List.all_eq_true.1 h2 x hx), by omega⟩
    · cases h
/-- The bytes of a program whose slots are right are it again. -/
theorem get_put {l : List Ins} (hok : ∀ x ∈ l, InsOk x) (h : putErr l = 0) : getErr (putRow l).length = 0 ∧ getRow (putRow l) = l := by
  obtain ⟨hg, hl⟩ := putErr_all h
  have hr : putRow l = (l.map enc).flatten := by unfold putRow; rw [if_pos h]
  have hn : (putRow l).length = 8 * l.length := by rw [hr, enc_all]
  have he : getErr (putRow l).length = 0 := by rw [hn, getErr_is (by omega), if_pos (by omega)]
  refine ⟨he, ?_⟩
  unfold getRow
  rw [if_pos he, hn, show 8 * l.length / 8 = l.length by omega, hr, dec_all hok hg]
/-- .. and the other way round. -/
theorem put_get {bs : List Int} (hb : ByteL bs) (h : getErr bs.length = 0) : putErr (getRow bs) = 0 ∧ putRow (getRow bs) = bs := by
  obtain ⟨hl, hm⟩ := getErr_zero h
  have hr : getRow bs = decL bs (bs.length / 8) := by unfold getRow; rw [if_pos h]
  have he : putErr (getRow bs) = 0 := by
    rw [hr]
    exact putErr_good (by rw [decL_len]; omega) (fun x hx => (good_dec hb _ x hx).2)
  refine ⟨he, ?_⟩
  unfold putRow
  rw [if_pos he, hr, enc_decL hb _ (by omega), List.take_of_length_le (by omega)]
theorem byteL_put {l : List Ins} (hok : ∀ x ∈ l, InsOk x) : ByteL (putRow l) := by
  unfold putRow
  split
  · rename_i h
    obtain ⟨hg, _⟩ := putErr_all h
    intro y hy
    obtain ⟨r, hr, hy⟩ := List.mem_flatten.1 hy
    obtain ⟨x, hx, rfl⟩ := List.mem_map.1 hr
    have h1 := hok x hx
    have h2 := hg x hx
    obtain ⟨o1, o2, o3, o4, o5⟩ := h1
    obtain ⟨g1, g2⟩ := h2
    rw [enc_eq] at hy
    simp only [List.mem_cons, List.not_mem_nil, or_false] at hy
    rcases hy with rfl | rfl | rfl | rfl | rfl | rfl | rfl | rfl <;> omega
  · intro y hy; cases hy
theorem putRow_app {l m : List Ins} (hl : l.length + m.length ≤ 4096) (h1 : putErr l = 0) (h2 : putErr m = 0) : putRow (l ++ m) = putRow l ++ putRow m := by
  have h3 : putErr (l ++ m) = 0 := by rw [putErr_app hl, if_pos ⟨h1, h2⟩]
  unfold putRow
  rw [if_pos h3, if_pos h1, if_pos h2, List.map_append, List.flatten_append]
end Go.Proofs.YtddeckkcfcodbaaGreat.M
