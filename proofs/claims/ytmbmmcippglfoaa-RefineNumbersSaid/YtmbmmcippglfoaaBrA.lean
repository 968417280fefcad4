/-
  refine.Branch: the ways that compare nothing.
-/
import Derived.Test.YtmbmmcippglfoaaSides
namespace Go.Proofs.Ytmbmmcippglfoaa.M
open Go.RowKit Go.Shelf
set_option linter.unusedVariables false
set_option linter.unusedSectionVars false
set_option linter.unusedSimpArgs false

def brC (r : Option (Sc × Sc)) : Sc × Sc := r.getD (zeroSc, zeroSc)
def BrPost (r : Option (Sc × Sc)) (w : World) (e : Ending) (w' : World) : Prop := e = .returned (.tuple #[(brC r).1.val, (brC r).2.val, .bool r.isSome]) ∧ But [] w w'
set_option maxRecDepth 100000 in
set_option maxHeartbeats 4000000 in
theorem br0 (op : Nat) (wide taken : Bool) (v m lo hi xv xm xlo xhi : Nat) (sl sh xsl xsh : Int) (w : World) (hop : op < 256) (hr : Rg ⟨⟨v, m⟩, ⟨lo, hi, sl, sh⟩⟩) (hx : Rg ⟨⟨xv, xm⟩, ⟨xlo, xhi, xsl, xsh⟩⟩) (h : rightB ⟨⟨v, m⟩, ⟨lo, hi, sl, sh⟩⟩ = false) : Calls Try.prog 12 #[.int .u8 op, .bool wide, .agg #[.int .u64 v, .int .u64 m, .int .u64 lo, .int .u64 hi, .int .i64 sl, .int .i64 sh], .agg #[.int .u64 xv, .int .u64 xm, .int .u64 xlo, .int .u64 xhi, .int .i64 xsl, .int .i64 xsh], .bool taken] w (BrPost (branchT op wide ⟨⟨v, m⟩, ⟨lo, hi, sl, sh⟩⟩ ⟨⟨xv, xm⟩, ⟨xlo, xhi, xsl, xsh⟩⟩ taken) w) := by
  have G0 := Lib.hid (fun w => scRight0 v m lo hi sl sh w hr)
  have G1 := Lib.hid (fun w => scRight0 xv xm xlo xhi xsl xsh w hx)
  have G2 := Lib.hid (fun w => opposite_c op w hop)
  clear hr hx hop
  have HE : Hid (branchT op wide ⟨⟨v, m⟩, ⟨lo, hi, sl, sh⟩⟩ ⟨⟨xv, xm⟩, ⟨xlo, xhi, xsl, xsh⟩⟩ taken = none) := Lib.hid (by unfold branchT; rw [if_neg (by simp [h])])
  rw [h] at G0
  clear h
  go_enter Try.func12, Try.ntmps12
  go_wp2_with fail
  refine (G0.out _).mono ?_
  rintro e w8 ⟨rfl, hb8⟩
  have hO : w8.heap[w.heap.size]? = some (.cells #[.int .u8 op] 5) := hb8.heap (by repeat (first | (with_reducible refine al_eq _ _ _ ?_; (simp only [size_alloc]; done)) | with_reducible refine al_keep ?_ _ | with_reducible refine dr_keep ?_)) (by simp)
  have hA : w8.heap[w.heap.size + 1]? = some (.cells #[.int .u64 v, .int .u64 m, .int .u64 lo, .int .u64 hi, .int .i64 sl, .int .i64 sh] 28) := hb8.heap (by repeat (first | (with_reducible refine al_eq _ _ _ ?_; (simp only [size_alloc]; done)) | with_reducible refine al_keep ?_ _ | with_reducible refine dr_keep ?_)) (by simp)
  have hX : w8.heap[w.heap.size + 1 + 1]? = some (.cells #[.int .u64 xv, .int .u64 xm, .int .u64 xlo, .int .u64 xhi, .int .i64 xsl, .int .i64 xsh] 28) := hb8.heap (by repeat (first | (with_reducible refine al_eq _ _ _ ?_; (simp only [size_alloc]; done)) | with_reducible refine al_keep ?_ _ | with_reducible refine dr_keep ?_)) (by simp)
  have hR : w8.heap[w.heap.size + 1 + 1 + 1]? = some (.cells #[.int .u64 0, .int .u64 0, .int .u64 0, .int .u64 0, .int .i64 0, .int .i64 0] 28) := hb8.heap (by repeat (first | (with_reducible refine al_eq _ _ _ ?_; (simp only [size_alloc]; done)) | with_reducible refine al_keep ?_ _ | with_reducible refine dr_keep ?_)) (by simp)
  have hQ : w8.heap[w.heap.size + 1 + 1 + 1 + 1]? = some (.cells #[.int .u64 0, .int .u64 0, .int .u64 0, .int .u64 0, .int .i64 0, .int .i64 0] 28) := hb8.heap (by repeat (first | (with_reducible refine al_eq _ _ _ ?_; (simp only [size_alloc]; done)) | with_reducible refine al_keep ?_ _ | with_reducible refine dr_keep ?_)) (by simp)
  have hK : w8.heap[w.heap.size + 1 + 1 + 1 + 1 + 1]? = some (.cells #[.bool false] 4) := hb8.heap (by repeat (first | (with_reducible refine al_eq _ _ _ ?_; (simp only [size_alloc]; done)) | with_reducible refine al_keep ?_ _ | with_reducible refine dr_keep ?_)) (by simp)
  have cO0 : w8.cell? ⟨w.heap.size, 0, none⟩ = some (.int .u8 op) := cl_of hO 0
  have zO := lt_of hO
  obtain ⟨cA0, cA1, cA2, cA3, cA4, cA5⟩ := c6_of hA
  have zA := lt_of hA
  obtain ⟨cX0, cX1, cX2, cX3, cX4, cX5⟩ := c6_of hX
  have zX := lt_of hX
  obtain ⟨cR0, cR1, cR2, cR3, cR4, cR5⟩ := c6_of hR
  obtain ⟨fR0, fR1, fR2, fR3, fR4, fR5⟩ := f6_of hR
  have zR := lt_of hR
  obtain ⟨cQ0, cQ1, cQ2, cQ3, cQ4, cQ5⟩ := c6_of hQ
  obtain ⟨fQ0, fQ1, fQ2, fQ3, fQ4, fQ5⟩ := f6_of hQ
  have zQ := lt_of hQ
  have cK0 : w8.cell? ⟨w.heap.size + 1 + 1 + 1 + 1 + 1, 0, none⟩ = some (.bool false) := cl_of hK 0
  have fK0 : w8.frozen? ⟨w.heap.size + 1 + 1 + 1 + 1 + 1, 0, none⟩ = false := fz_of hK 0
  have zK := lt_of hK
  have HB : Hid (But [] w w8) := Lib.hid ((by repeat (first | with_reducible exact But.refl _ _ | with_reducible refine But.drew ?_ | with_reducible refine But.alloc ?_ _) : But [] w _).trans hb8 (by simp))
  have HO := Lib.hid hO
  have HA := Lib.hid hA
  have HX := Lib.hid hX
  have HR := Lib.hid hR
  have HQ := Lib.hid hQ
  have HK := Lib.hid hK
  clear hO hA hX hR hQ hK hb8
  clear cO0 cA0 cA1 cA2 cA3 cA4 cA5 cX0 cX1 cX2 cX3 cX4 cX5
  go_wp2_with fail
  go_region
  all_goals (go_wp2_with fail)
  all_goals exact bodyPost_ret (v := .tuple #[.agg #[.int .u64 0, .int .u64 0, .int .u64 0, .int .u64 0, .int .i64 0, .int .i64 0], .agg #[.int .u64 0, .int .u64 0, .int .u64 0, .int .u64 0, .int .i64 0, .int .i64 0], .bool false]) (by simp [results, Try.results12, go_sem, cR0, cR1, cR2, cR3, cR4, cR5, cQ0, cQ1, cQ2, cQ3, cQ4, cQ5, cK0]) rfl ⟨by rw [HE.out]; rfl, by
    repeat (first | with_reducible exact HB.out | with_reducible refine But.alloc ?_ _ | with_reducible refine But.drew ?_ | (with_reducible refine But.setCell ?_ (.inr ?_) _; rotate_left; (simp only []; omega)))⟩
set_option maxRecDepth 100000 in
set_option maxHeartbeats 4000000 in
theorem br1 (op : Nat) (wide taken : Bool) (v m lo hi xv xm xlo xhi : Nat) (sl sh xsl xsh : Int) (w : World) (hop : op < 256) (hr : Rg ⟨⟨v, m⟩, ⟨lo, hi, sl, sh⟩⟩) (hx : Rg ⟨⟨xv, xm⟩, ⟨xlo, xhi, xsl, xsh⟩⟩) (h0 : rightB ⟨⟨v, m⟩, ⟨lo, hi, sl, sh⟩⟩ = true) (h : rightB ⟨⟨xv, xm⟩, ⟨xlo, xhi, xsl, xsh⟩⟩ = false) : Calls Try.prog 12 #[.int .u8 op, .bool wide, .agg #[.int .u64 v, .int .u64 m, .int .u64 lo, .int .u64 hi, .int .i64 sl, .int .i64 sh], .agg #[.int .u64 xv, .int .u64 xm, .int .u64 xlo, .int .u64 xhi, .int .i64 xsl, .int .i64 xsh], .bool taken] w (BrPost (branchT op wide ⟨⟨v, m⟩, ⟨lo, hi, sl, sh⟩⟩ ⟨⟨xv, xm⟩, ⟨xlo, xhi, xsl, xsh⟩⟩ taken) w) := by
  have G0 := Lib.hid (fun w => scRight0 v m lo hi sl sh w hr)
  have G1 := Lib.hid (fun w => scRight0 xv xm xlo xhi xsl xsh w hx)
  have G2 := Lib.hid (fun w => opposite_c op w hop)
  clear hr hx hop
  have HE : Hid (branchT op wide ⟨⟨v, m⟩, ⟨lo, hi, sl, sh⟩⟩ ⟨⟨xv, xm⟩, ⟨xlo, xhi, xsl, xsh⟩⟩ taken = none) := Lib.hid (by unfold branchT; rw [if_neg (by simp [h])])
  rw [h0] at G0
  rw [h] at G1
  clear h h0
  go_enter Try.func12, Try.ntmps12
  go_wp2_with fail
  refine (G0.out _).mono ?_
  rintro e w8 ⟨rfl, hb8⟩
  have hO : w8.heap[w.heap.size]? = some (.cells #[.int .u8 op] 5) := hb8.heap (by repeat (first | (with_reducible refine al_eq _ _ _ ?_; (simp only [size_alloc]; done)) | with_reducible refine al_keep ?_ _ | with_reducible refine dr_keep ?_)) (by simp)
  have hA : w8.heap[w.heap.size + 1]? = some (.cells #[.int .u64 v, .int .u64 m, .int .u64 lo, .int .u64 hi, .int .i64 sl, .int .i64 sh] 28) := hb8.heap (by repeat (first | (with_reducible refine al_eq _ _ _ ?_; (simp only [size_alloc]; done)) | with_reducible refine al_keep ?_ _ | with_reducible refine dr_keep ?_)) (by simp)
  have hX : w8.heap[w.heap.size + 1 + 1]? = some (.cells #[.int .u64 xv, .int .u64 xm, .int .u64 xlo, .int .u64 xhi, .int .i64 xsl, .int .i64 xsh] 28) := hb8.heap (by repeat (first | (with_reducible refine al_eq _ _ _ ?_; (simp only [size_alloc]; done)) | with_reducible refine al_keep ?_ _ | with_reducible refine dr_keep ?_)) (by simp)
  have hR : w8.heap[w.heap.size + 1 + 1 + 1]? = some (.cells #[.int .u64 0, .int .u64 0, .int .u64 0, .int .u64 0, .int .i64 0, .int .i64 0] 28) := hb8.heap (by repeat (first | (with_reducible refine al_eq _ _ _ ?_; (simp only [size_alloc]; done)) | with_reducible refine al_keep ?_ _ | with_reducible refine dr_keep ?_)) (by simp)
  have hQ : w8.heap[w.heap.size + 1 + 1 + 1 + 1]? = some (.cells #[.int .u64 0, .int .u64 0, .int .u64 0, .int .u64 0, .int .i64 0, .int .i64 0] 28) := hb8.heap (by repeat (first | (with_reducible refine al_eq _ _ _ ?_; (simp only [size_alloc]; done)) | with_reducible refine al_keep ?_ _ | with_reducible refine dr_keep ?_)) (by simp)
  have hK : w8.heap[w.heap.size + 1 + 1 + 1 + 1 + 1]? = some (.cells #[.bool false] 4) := hb8.heap (by repeat (first | (with_reducible refine al_eq _ _ _ ?_; (simp only [size_alloc]; done)) | with_reducible refine al_keep ?_ _ | with_reducible refine dr_keep ?_)) (by simp)
  have cO0 : w8.cell? ⟨w.heap.size, 0, none⟩ = some (.int .u8 op) := cl_of hO 0
  have zO := lt_of hO
  obtain ⟨cA0, cA1, cA2, cA3, cA4, cA5⟩ := c6_of hA
  have zA := lt_of hA
  obtain ⟨cX0, cX1, cX2, cX3, cX4, cX5⟩ := c6_of hX
  have zX := lt_of hX
  obtain ⟨cR0, cR1, cR2, cR3, cR4, cR5⟩ := c6_of hR
  obtain ⟨fR0, fR1, fR2, fR3, fR4, fR5⟩ := f6_of hR
  have zR := lt_of hR
  obtain ⟨cQ0, cQ1, cQ2, cQ3, cQ4, cQ5⟩ := c6_of hQ
  obtain ⟨fQ0, fQ1, fQ2, fQ3, fQ4, fQ5⟩ := f6_of hQ
  have zQ := lt_of hQ
  have cK0 : w8.cell? ⟨w.heap.size + 1 + 1 + 1 + 1 + 1, 0, none⟩ = some (.bool false) := cl_of hK 0
  have fK0 : w8.frozen? ⟨w.heap.size + 1 + 1 + 1 + 1 + 1, 0, none⟩ = false := fz_of hK 0
  have zK := lt_of hK
  have HB : Hid (But [] w w8) := Lib.hid ((by repeat (first | with_reducible exact But.refl _ _ | with_reducible refine But.drew ?_ | with_reducible refine But.alloc ?_ _) : But [] w _).trans hb8 (by simp))
  have HO := Lib.hid hO
  have HA := Lib.hid hA
  have HX := Lib.hid hX
  have HR := Lib.hid hR
  have HQ := Lib.hid hQ
  have HK := Lib.hid hK
  clear hO hA hX hR hQ hK hb8
  go_wp2_with fail
  refine (G1.out _).mono ?_
  rintro e w9 ⟨rfl, hb9⟩
  have hO : w9.heap[w.heap.size]? = some (.cells #[.int .u8 op] 5) := hb9.heap (HO.out) (by simp)
  have hA : w9.heap[w.heap.size + 1]? = some (.cells #[.int .u64 v, .int .u64 m, .int .u64 lo, .int .u64 hi, .int .i64 sl, .int .i64 sh] 28) := hb9.heap (HA.out) (by simp)
  have hX : w9.heap[w.heap.size + 1 + 1]? = some (.cells #[.int .u64 xv, .int .u64 xm, .int .u64 xlo, .int .u64 xhi, .int .i64 xsl, .int .i64 xsh] 28) := hb9.heap (HX.out) (by simp)
  have hR : w9.heap[w.heap.size + 1 + 1 + 1]? = some (.cells #[.int .u64 0, .int .u64 0, .int .u64 0, .int .u64 0, .int .i64 0, .int .i64 0] 28) := hb9.heap (HR.out) (by simp)
  have hQ : w9.heap[w.heap.size + 1 + 1 + 1 + 1]? = some (.cells #[.int .u64 0, .int .u64 0, .int .u64 0, .int .u64 0, .int .i64 0, .int .i64 0] 28) := hb9.heap (HQ.out) (by simp)
  have hK : w9.heap[w.heap.size + 1 + 1 + 1 + 1 + 1]? = some (.cells #[.bool false] 4) := hb9.heap (HK.out) (by simp)
  clear zO zA zX zR zQ zK
  clear cO0 cA0 cA1 cA2 cA3 cA4 cA5 cX0 cX1 cX2 cX3 cX4 cX5 cR0 cR1 cR2 cR3 cR4 cR5 cQ0 cQ1 cQ2 cQ3 cQ4 cQ5 cK0
  clear fR0 fR1 fR2 fR3 fR4 fR5 fQ0 fQ1 fQ2 fQ3 fQ4 fQ5 fK0
  have cO0 : w9.cell? ⟨w.heap.size, 0, none⟩ = some (.int .u8 op) := cl_of hO 0
  have zO := lt_of hO
  obtain ⟨cA0, cA1, cA2, cA3, cA4, cA5⟩ := c6_of hA
  have zA := lt_of hA
  obtain ⟨cX0, cX1, cX2, cX3, cX4, cX5⟩ := c6_of hX
  have zX := lt_of hX
  obtain ⟨cR0, cR1, cR2, cR3, cR4, cR5⟩ := c6_of hR
  obtain ⟨fR0, fR1, fR2, fR3, fR4, fR5⟩ := f6_of hR
  have zR := lt_of hR
  obtain ⟨cQ0, cQ1, cQ2, cQ3, cQ4, cQ5⟩ := c6_of hQ
  obtain ⟨fQ0, fQ1, fQ2, fQ3, fQ4, fQ5⟩ := f6_of hQ
  have zQ := lt_of hQ
  have cK0 : w9.cell? ⟨w.heap.size + 1 + 1 + 1 + 1 + 1, 0, none⟩ = some (.bool false) := cl_of hK 0
  have fK0 : w9.frozen? ⟨w.heap.size + 1 + 1 + 1 + 1 + 1, 0, none⟩ = false := fz_of hK 0
  have zK := lt_of hK
  have HB : Hid (But [] w w9) := Lib.hid ((HB.out).trans hb9 (by simp))
  have HO := Lib.hid hO
  have HA := Lib.hid hA
  have HX := Lib.hid hX
  have HR := Lib.hid hR
  have HQ := Lib.hid hQ
  have HK := Lib.hid hK
  clear hO hA hX hR hQ hK hb9
  clear cO0 cA0 cA1 cA2 cA3 cA4 cA5 cX0 cX1 cX2 cX3 cX4 cX5
  go_wp2_with fail
  go_region
  all_goals (go_wp2_with fail)
  all_goals exact bodyPost_ret (v := .tuple #[.agg #[.int .u64 0, .int .u64 0, .int .u64 0, .int .u64 0, .int .i64 0, .int .i64 0], .agg #[.int .u64 0, .int .u64 0, .int .u64 0, .int .u64 0, .int .i64 0, .int .i64 0], .bool false]) (by simp [results, Try.results12, go_sem, cR0, cR1, cR2, cR3, cR4, cR5, cQ0, cQ1, cQ2, cQ3, cQ4, cQ5, cK0]) rfl ⟨by rw [HE.out]; rfl, by
    repeat (first | with_reducible exact HB.out | with_reducible refine But.alloc ?_ _ | with_reducible refine But.drew ?_ | (with_reducible refine But.setCell ?_ (.inr ?_) _; rotate_left; (simp only []; omega)))⟩
set_option maxRecDepth 100000 in
set_option maxHeartbeats 4000000 in
theorem br2 (op : Nat) (wide taken : Bool) (v m lo hi xv xm xlo xhi : Nat) (sl sh xsl xsh : Int) (w : World) (hop : op < 256) (hr : Rg ⟨⟨v, m⟩, ⟨lo, hi, sl, sh⟩⟩) (hx : Rg ⟨⟨xv, xm⟩, ⟨xlo, xhi, xsl, xsh⟩⟩) (h0 : rightB ⟨⟨v, m⟩, ⟨lo, hi, sl, sh⟩⟩ = true) (h1 : rightB ⟨⟨xv, xm⟩, ⟨xlo, xhi, xsl, xsh⟩⟩ = true) (h : opp op = 0) : Calls Try.prog 12 #[.int .u8 op, .bool wide, .agg #[.int .u64 v, .int .u64 m, .int .u64 lo, .int .u64 hi, .int .i64 sl, .int .i64 sh], .agg #[.int .u64 xv, .int .u64 xm, .int .u64 xlo, .int .u64 xhi, .int .i64 xsl, .int .i64 xsh], .bool taken] w (BrPost (branchT op wide ⟨⟨v, m⟩, ⟨lo, hi, sl, sh⟩⟩ ⟨⟨xv, xm⟩, ⟨xlo, xhi, xsl, xsh⟩⟩ taken) w) := by
  have G0 := Lib.hid (fun w => scRight0 v m lo hi sl sh w hr)
  have G1 := Lib.hid (fun w => scRight0 xv xm xlo xhi xsl xsh w hx)
  have G2 := Lib.hid (fun w => opposite_c op w hop)
  clear hr hx hop
  have HE : Hid (branchT op wide ⟨⟨v, m⟩, ⟨lo, hi, sl, sh⟩⟩ ⟨⟨xv, xm⟩, ⟨xlo, xhi, xsl, xsh⟩⟩ taken = none) := Lib.hid (by unfold branchT; rw [if_neg (by simp [h])])
  rw [h0] at G0
  rw [h1] at G1
  rw [h] at G2
  clear h h0 h1
  go_enter Try.func12, Try.ntmps12
  go_wp2_with fail
  refine (G0.out _).mono ?_
  rintro e w8 ⟨rfl, hb8⟩
  have hO : w8.heap[w.heap.size]? = some (.cells #[.int .u8 op] 5) := hb8.heap (by repeat (first | (with_reducible refine al_eq _ _ _ ?_; (simp only [size_alloc]; done)) | with_reducible refine al_keep ?_ _ | with_reducible refine dr_keep ?_)) (by simp)
  have hA : w8.heap[w.heap.size + 1]? = some (.cells #[.int .u64 v, .int .u64 m, .int .u64 lo, .int .u64 hi, .int .i64 sl, .int .i64 sh] 28) := hb8.heap (by repeat (first | (with_reducible refine al_eq _ _ _ ?_; (simp only [size_alloc]; done)) | with_reducible refine al_keep ?_ _ | with_reducible refine dr_keep ?_)) (by simp)
  have hX : w8.heap[w.heap.size + 1 + 1]? = some (.cells #[.int .u64 xv, .int .u64 xm, .int .u64 xlo, .int .u64 xhi, .int .i64 xsl, .int .i64 xsh] 28) := hb8.heap (by repeat (first | (with_reducible refine al_eq _ _ _ ?_; (simp only [size_alloc]; done)) | with_reducible refine al_keep ?_ _ | with_reducible refine dr_keep ?_)) (by simp)
  have hR : w8.heap[w.heap.size + 1 + 1 + 1]? = some (.cells #[.int .u64 0, .int .u64 0, .int .u64 0, .int .u64 0, .int .i64 0, .int .i64 0] 28) := hb8.heap (by repeat (first | (with_reducible refine al_eq _ _ _ ?_; (simp only [size_alloc]; done)) | with_reducible refine al_keep ?_ _ | with_reducible refine dr_keep ?_)) (by simp)
  have hQ : w8.heap[w.heap.size + 1 + 1 + 1 + 1]? = some (.cells #[.int .u64 0, .int .u64 0, .int .u64 0, .int .u64 0, .int .i64 0, .int .i64 0] 28) := hb8.heap (by repeat (first | (with_reducible refine al_eq _ _ _ ?_; (simp only [size_alloc]; done)) | with_reducible refine al_keep ?_ _ | with_reducible refine dr_keep ?_)) (by simp)
  have hK : w8.heap[w.heap.size + 1 + 1 + 1 + 1 + 1]? = some (.cells #[.bool false] 4) := hb8.heap (by repeat (first | (with_reducible refine al_eq _ _ _ ?_; (simp only [size_alloc]; done)) | with_reducible refine al_keep ?_ _ | with_reducible refine dr_keep ?_)) (by simp)
  have cO0 : w8.cell? ⟨w.heap.size, 0, none⟩ = some (.int .u8 op) := cl_of hO 0
  have zO := lt_of hO
  obtain ⟨cA0, cA1, cA2, cA3, cA4, cA5⟩ := c6_of hA
  have zA := lt_of hA
  obtain ⟨cX0, cX1, cX2, cX3, cX4, cX5⟩ := c6_of hX
  have zX := lt_of hX
  obtain ⟨cR0, cR1, cR2, cR3, cR4, cR5⟩ := c6_of hR
  obtain ⟨fR0, fR1, fR2, fR3, fR4, fR5⟩ := f6_of hR
  have zR := lt_of hR
  obtain ⟨cQ0, cQ1, cQ2, cQ3, cQ4, cQ5⟩ := c6_of hQ
  obtain ⟨fQ0, fQ1, fQ2, fQ3, fQ4, fQ5⟩ := f6_of hQ
  have zQ := lt_of hQ
  have cK0 : w8.cell? ⟨w.heap.size + 1 + 1 + 1 + 1 + 1, 0, none⟩ = some (.bool false) := cl_of hK 0
  have fK0 : w8.frozen? ⟨w.heap.size + 1 + 1 + 1 + 1 + 1, 0, none⟩ = false := fz_of hK 0
  have zK := lt_of hK
  have HB : Hid (But [] w w8) := Lib.hid ((by repeat (first | with_reducible exact But.refl _ _ | with_reducible refine But.drew ?_ | with_reducible refine But.alloc ?_ _) : But [] w _).trans hb8 (by simp))
  have HO := Lib.hid hO
  have HA := Lib.hid hA
  have HX := Lib.hid hX
  have HR := Lib.hid hR
  have HQ := Lib.hid hQ
  have HK := Lib.hid hK
  clear hO hA hX hR hQ hK hb8
  go_wp2_with fail
  refine (G1.out _).mono ?_
  rintro e w9 ⟨rfl, hb9⟩
  have hO : w9.heap[w.heap.size]? = some (.cells #[.int .u8 op] 5) := hb9.heap (HO.out) (by simp)
  have hA : w9.heap[w.heap.size + 1]? = some (.cells #[.int .u64 v, .int .u64 m, .int .u64 lo, .int .u64 hi, .int .i64 sl, .int .i64 sh] 28) := hb9.heap (HA.out) (by simp)
  have hX : w9.heap[w.heap.size + 1 + 1]? = some (.cells #[.int .u64 xv, .int .u64 xm, .int .u64 xlo, .int .u64 xhi, .int .i64 xsl, .int .i64 xsh] 28) := hb9.heap (HX.out) (by simp)
  have hR : w9.heap[w.heap.size + 1 + 1 + 1]? = some (.cells #[.int .u64 0, .int .u64 0, .int .u64 0, .int .u64 0, .int .i64 0, .int .i64 0] 28) := hb9.heap (HR.out) (by simp)
  have hQ : w9.heap[w.heap.size + 1 + 1 + 1 + 1]? = some (.cells #[.int .u64 0, .int .u64 0, .int .u64 0, .int .u64 0, .int .i64 0, .int .i64 0] 28) := hb9.heap (HQ.out) (by simp)
  have hK : w9.heap[w.heap.size + 1 + 1 + 1 + 1 + 1]? = some (.cells #[.bool false] 4) := hb9.heap (HK.out) (by simp)
  clear zO zA zX zR zQ zK
  clear cO0 cA0 cA1 cA2 cA3 cA4 cA5 cX0 cX1 cX2 cX3 cX4 cX5 cR0 cR1 cR2 cR3 cR4 cR5 cQ0 cQ1 cQ2 cQ3 cQ4 cQ5 cK0
  clear fR0 fR1 fR2 fR3 fR4 fR5 fQ0 fQ1 fQ2 fQ3 fQ4 fQ5 fK0
  have cO0 : w9.cell? ⟨w.heap.size, 0, none⟩ = some (.int .u8 op) := cl_of hO 0
  have zO := lt_of hO
  obtain ⟨cA0, cA1, cA2, cA3, cA4, cA5⟩ := c6_of hA
  have zA := lt_of hA
  obtain ⟨cX0, cX1, cX2, cX3, cX4, cX5⟩ := c6_of hX
  have zX := lt_of hX
  obtain ⟨cR0, cR1, cR2, cR3, cR4, cR5⟩ := c6_of hR
  obtain ⟨fR0, fR1, fR2, fR3, fR4, fR5⟩ := f6_of hR
  have zR := lt_of hR
  obtain ⟨cQ0, cQ1, cQ2, cQ3, cQ4, cQ5⟩ := c6_of hQ
  obtain ⟨fQ0, fQ1, fQ2, fQ3, fQ4, fQ5⟩ := f6_of hQ
  have zQ := lt_of hQ
  have cK0 : w9.cell? ⟨w.heap.size + 1 + 1 + 1 + 1 + 1, 0, none⟩ = some (.bool false) := cl_of hK 0
  have fK0 : w9.frozen? ⟨w.heap.size + 1 + 1 + 1 + 1 + 1, 0, none⟩ = false := fz_of hK 0
  have zK := lt_of hK
  have HB : Hid (But [] w w9) := Lib.hid ((HB.out).trans hb9 (by simp))
  have HO := Lib.hid hO
  have HA := Lib.hid hA
  have HX := Lib.hid hX
  have HR := Lib.hid hR
  have HQ := Lib.hid hQ
  have HK := Lib.hid hK
  clear hO hA hX hR hQ hK hb9
  go_wp2_with fail
  refine (G2.out _).mono ?_
  rintro e w10 ⟨rfl, hb10⟩
  have hO : w10.heap[w.heap.size]? = some (.cells #[.int .u8 op] 5) := hb10.heap (HO.out) (by simp)
  have hA : w10.heap[w.heap.size + 1]? = some (.cells #[.int .u64 v, .int .u64 m, .int .u64 lo, .int .u64 hi, .int .i64 sl, .int .i64 sh] 28) := hb10.heap (HA.out) (by simp)
  have hX : w10.heap[w.heap.size + 1 + 1]? = some (.cells #[.int .u64 xv, .int .u64 xm, .int .u64 xlo, .int .u64 xhi, .int .i64 xsl, .int .i64 xsh] 28) := hb10.heap (HX.out) (by simp)
  have hR : w10.heap[w.heap.size + 1 + 1 + 1]? = some (.cells #[.int .u64 0, .int .u64 0, .int .u64 0, .int .u64 0, .int .i64 0, .int .i64 0] 28) := hb10.heap (HR.out) (by simp)
  have hQ : w10.heap[w.heap.size + 1 + 1 + 1 + 1]? = some (.cells #[.int .u64 0, .int .u64 0, .int .u64 0, .int .u64 0, .int .i64 0, .int .i64 0] 28) := hb10.heap (HQ.out) (by simp)
  have hK : w10.heap[w.heap.size + 1 + 1 + 1 + 1 + 1]? = some (.cells #[.bool false] 4) := hb10.heap (HK.out) (by simp)
  clear zO zA zX zR zQ zK
  clear cO0 cA0 cA1 cA2 cA3 cA4 cA5 cX0 cX1 cX2 cX3 cX4 cX5 cR0 cR1 cR2 cR3 cR4 cR5 cQ0 cQ1 cQ2 cQ3 cQ4 cQ5 cK0
  clear fR0 fR1 fR2 fR3 fR4 fR5 fQ0 fQ1 fQ2 fQ3 fQ4 fQ5 fK0
  have cO0 : w10.cell? ⟨w.heap.size, 0, none⟩ = some (.int .u8 op) := cl_of hO 0
  have zO := lt_of hO
  obtain ⟨cA0, cA1, cA2, cA3, cA4, cA5⟩ := c6_of hA
  have zA := lt_of hA
  obtain ⟨cX0, cX1, cX2, cX3, cX4, cX5⟩ := c6_of hX
  have zX := lt_of hX
  obtain ⟨cR0, cR1, cR2, cR3, cR4, cR5⟩ := c6_of hR
  obtain ⟨fR0, fR1, fR2, fR3, fR4, fR5⟩ := f6_of hR
  have zR := lt_of hR
  obtain ⟨cQ0, cQ1, cQ2, cQ3, cQ4, cQ5⟩ := c6_of hQ
  obtain ⟨fQ0, fQ1, fQ2, fQ3, fQ4, fQ5⟩ := f6_of hQ
  have zQ := lt_of hQ
  have cK0 : w10.cell? ⟨w.heap.size + 1 + 1 + 1 + 1 + 1, 0, none⟩ = some (.bool false) := cl_of hK 0
  have fK0 : w10.frozen? ⟨w.heap.size + 1 + 1 + 1 + 1 + 1, 0, none⟩ = false := fz_of hK 0
  have zK := lt_of hK
  have HB : Hid (But [] w w10) := Lib.hid ((HB.out).trans hb10 (by simp))
  have HO := Lib.hid hO
  have HA := Lib.hid hA
  have HX := Lib.hid hX
  have HR := Lib.hid hR
  have HQ := Lib.hid hQ
  have HK := Lib.hid hK
  clear hO hA hX hR hQ hK hb10
  clear cO0 cA0 cA1 cA2 cA3 cA4 cA5 cX0 cX1 cX2 cX3 cX4 cX5
  go_wp2_with fail
  go_region
  all_goals (go_wp2_with fail)
  all_goals exact bodyPost_ret (v := .tuple #[.agg #[.int .u64 0, .int .u64 0, .int .u64 0, .int .u64 0, .int .i64 0, .int .i64 0], .agg #[.int .u64 0, .int .u64 0, .int .u64 0, .int .u64 0, .int .i64 0, .int .i64 0], .bool false]) (by simp [results, Try.results12, go_sem, cR0, cR1, cR2, cR3, cR4, cR5, cQ0, cQ1, cQ2, cQ3, cQ4, cQ5, cK0]) rfl ⟨by rw [HE.out]; rfl, by
    repeat (first | with_reducible exact HB.out | with_reducible refine But.alloc ?_ _ | with_reducible refine But.drew ?_ | (with_reducible refine But.setCell ?_ (.inr ?_) _; rotate_left; (simp only []; omega)))⟩
set_option maxRecDepth 100000 in
set_option maxHeartbeats 4000000 in
theorem br3 (op : Nat) (wide taken : Bool) (v m lo hi xv xm xlo xhi : Nat) (sl sh xsl xsh : Int) (w : World) (hop : op < 256) (hr : Rg ⟨⟨v, m⟩, ⟨lo, hi, sl, sh⟩⟩) (hx : Rg ⟨⟨xv, xm⟩, ⟨xlo, xhi, xsl, xsh⟩⟩) (h0 : rightB ⟨⟨v, m⟩, ⟨lo, hi, sl, sh⟩⟩ = true) (h1 : rightB ⟨⟨xv, xm⟩, ⟨xlo, xhi, xsl, xsh⟩⟩ = true) (h : opp op ≠ 0) (hw : wide = false) (hm : 2147483648 ≤ max hi xhi) : Calls Try.prog 12 #[.int .u8 op, .bool wide, .agg #[.int .u64 v, .int .u64 m, .int .u64 lo, .int .u64 hi, .int .i64 sl, .int .i64 sh], .agg #[.int .u64 xv, .int .u64 xm, .int .u64 xlo, .int .u64 xhi, .int .i64 xsl, .int .i64 xsh], .bool taken] w (BrPost (branchT op wide ⟨⟨v, m⟩, ⟨lo, hi, sl, sh⟩⟩ ⟨⟨xv, xm⟩, ⟨xlo, xhi, xsl, xsh⟩⟩ taken) w) := by
  have G0 := Lib.hid (fun w => scRight0 v m lo hi sl sh w hr)
  have G1 := Lib.hid (fun w => scRight0 xv xm xlo xhi xsl xsh w hx)
  have G2 := Lib.hid (fun w => opposite_c op w hop)
  clear hr hx hop
  have HE : Hid (branchT op wide ⟨⟨v, m⟩, ⟨lo, hi, sl, sh⟩⟩ ⟨⟨xv, xm⟩, ⟨xlo, xhi, xsl, xsh⟩⟩ taken = some (⟨⟨v, m⟩, ⟨lo, hi, sl, sh⟩⟩, ⟨⟨xv, xm⟩, ⟨xlo, xhi, xsl, xsh⟩⟩)) := Lib.hid (by unfold branchT; rw [if_pos (by simp [h0, h1, h]), if_pos (by simp only [hw]; simpa using hm)])
  subst hw
  obtain ⟨p, hp⟩ : ∃ p, p = max hi xhi := ⟨_, rfl⟩
  rw [← hp] at hm
  have hpm : max (hi : Int) (xhi : Int) = (p : Int) := by rw [hp]; first | done | omega
  have hge : (2147483648 : Int) ≤ (p : Int) := by omega
  obtain ⟨q, hq⟩ : ∃ q, q = opp op := ⟨_, rfl⟩
  rw [← hq] at G2 h
  have hqz : ((q : Int) == 0) = false := by rw [beq_eq_false_iff_ne]; omega
  rw [h0] at G0
  rw [h1] at G1
  clear h h0 h1 hp hq hm
  go_enter Try.func12, Try.ntmps12
  go_wp2_with fail
  refine (G0.out _).mono ?_
  rintro e w8 ⟨rfl, hb8⟩
  have hO : w8.heap[w.heap.size]? = some (.cells #[.int .u8 op] 5) := hb8.heap (by repeat (first | (with_reducible refine al_eq _ _ _ ?_; (simp only [size_alloc]; done)) | with_reducible refine al_keep ?_ _ | with_reducible refine dr_keep ?_)) (by simp)
  have hA : w8.heap[w.heap.size + 1]? = some (.cells #[.int .u64 v, .int .u64 m, .int .u64 lo, .int .u64 hi, .int .i64 sl, .int .i64 sh] 28) := hb8.heap (by repeat (first | (with_reducible refine al_eq _ _ _ ?_; (simp only [size_alloc]; done)) | with_reducible refine al_keep ?_ _ | with_reducible refine dr_keep ?_)) (by simp)
  have hX : w8.heap[w.heap.size + 1 + 1]? = some (.cells #[.int .u64 xv, .int .u64 xm, .int .u64 xlo, .int .u64 xhi, .int .i64 xsl, .int .i64 xsh] 28) := hb8.heap (by repeat (first | (with_reducible refine al_eq _ _ _ ?_; (simp only [size_alloc]; done)) | with_reducible refine al_keep ?_ _ | with_reducible refine dr_keep ?_)) (by simp)
  have hR : w8.heap[w.heap.size + 1 + 1 + 1]? = some (.cells #[.int .u64 0, .int .u64 0, .int .u64 0, .int .u64 0, .int .i64 0, .int .i64 0] 28) := hb8.heap (by repeat (first | (with_reducible refine al_eq _ _ _ ?_; (simp only [size_alloc]; done)) | with_reducible refine al_keep ?_ _ | with_reducible refine dr_keep ?_)) (by simp)
  have hQ : w8.heap[w.heap.size + 1 + 1 + 1 + 1]? = some (.cells #[.int .u64 0, .int .u64 0, .int .u64 0, .int .u64 0, .int .i64 0, .int .i64 0] 28) := hb8.heap (by repeat (first | (with_reducible refine al_eq _ _ _ ?_; (simp only [size_alloc]; done)) | with_reducible refine al_keep ?_ _ | with_reducible refine dr_keep ?_)) (by simp)
  have hK : w8.heap[w.heap.size + 1 + 1 + 1 + 1 + 1]? = some (.cells #[.bool false] 4) := hb8.heap (by repeat (first | (with_reducible refine al_eq _ _ _ ?_; (simp only [size_alloc]; done)) | with_reducible refine al_keep ?_ _ | with_reducible refine dr_keep ?_)) (by simp)
  have cO0 : w8.cell? ⟨w.heap.size, 0, none⟩ = some (.int .u8 op) := cl_of hO 0
  have zO := lt_of hO
  obtain ⟨cA0, cA1, cA2, cA3, cA4, cA5⟩ := c6_of hA
  have zA := lt_of hA
  obtain ⟨cX0, cX1, cX2, cX3, cX4, cX5⟩ := c6_of hX
  have zX := lt_of hX
  obtain ⟨cR0, cR1, cR2, cR3, cR4, cR5⟩ := c6_of hR
  obtain ⟨fR0, fR1, fR2, fR3, fR4, fR5⟩ := f6_of hR
  have zR := lt_of hR
  obtain ⟨cQ0, cQ1, cQ2, cQ3, cQ4, cQ5⟩ := c6_of hQ
  obtain ⟨fQ0, fQ1, fQ2, fQ3, fQ4, fQ5⟩ := f6_of hQ
  have zQ := lt_of hQ
  have cK0 : w8.cell? ⟨w.heap.size + 1 + 1 + 1 + 1 + 1, 0, none⟩ = some (.bool false) := cl_of hK 0
  have fK0 : w8.frozen? ⟨w.heap.size + 1 + 1 + 1 + 1 + 1, 0, none⟩ = false := fz_of hK 0
  have zK := lt_of hK
  have HB : Hid (But [] w w8) := Lib.hid ((by repeat (first | with_reducible exact But.refl _ _ | with_reducible refine But.drew ?_ | with_reducible refine But.alloc ?_ _) : But [] w _).trans hb8 (by simp))
  have HO := Lib.hid hO
  have HA := Lib.hid hA
  have HX := Lib.hid hX
  have HR := Lib.hid hR
  have HQ := Lib.hid hQ
  have HK := Lib.hid hK
  clear hO hA hX hR hQ hK hb8
  go_wp2_with fail
  refine (G1.out _).mono ?_
  rintro e w9 ⟨rfl, hb9⟩
  have hO : w9.heap[w.heap.size]? = some (.cells #[.int .u8 op] 5) := hb9.heap (HO.out) (by simp)
  have hA : w9.heap[w.heap.size + 1]? = some (.cells #[.int .u64 v, .int .u64 m, .int .u64 lo, .int .u64 hi, .int .i64 sl, .int .i64 sh] 28) := hb9.heap (HA.out) (by simp)
  have hX : w9.heap[w.heap.size + 1 + 1]? = some (.cells #[.int .u64 xv, .int .u64 xm, .int .u64 xlo, .int .u64 xhi, .int .i64 xsl, .int .i64 xsh] 28) := hb9.heap (HX.out) (by simp)
  have hR : w9.heap[w.heap.size + 1 + 1 + 1]? = some (.cells #[.int .u64 0, .int .u64 0, .int .u64 0, .int .u64 0, .int .i64 0, .int .i64 0] 28) := hb9.heap (HR.out) (by simp)
  have hQ : w9.heap[w.heap.size + 1 + 1 + 1 + 1]? = some (.cells #[.int .u64 0, .int .u64 0, .int .u64 0, .int .u64 0, .int .i64 0, .int .i64 0] 28) := hb9.heap (HQ.out) (by simp)
  have hK : w9.heap[w.heap.size + 1 + 1 + 1 + 1 + 1]? = some (.cells #[.bool false] 4) := hb9.heap (HK.out) (by simp)
  clear zO zA zX zR zQ zK
  clear cO0 cA0 cA1 cA2 cA3 cA4 cA5 cX0 cX1 cX2 cX3 cX4 cX5 cR0 cR1 cR2 cR3 cR4 cR5 cQ0 cQ1 cQ2 cQ3 cQ4 cQ5 cK0
  clear fR0 fR1 fR2 fR3 fR4 fR5 fQ0 fQ1 fQ2 fQ3 fQ4 fQ5 fK0
  have cO0 : w9.cell? ⟨w.heap.size, 0, none⟩ = some (.int .u8 op) := cl_of hO 0
  have zO := lt_of hO
  obtain ⟨cA0, cA1, cA2, cA3, cA4, cA5⟩ := c6_of hA
  have zA := lt_of hA
  obtain ⟨cX0, cX1, cX2, cX3, cX4, cX5⟩ := c6_of hX
  have zX := lt_of hX
  obtain ⟨cR0, cR1, cR2, cR3, cR4, cR5⟩ := c6_of hR
  obtain ⟨fR0, fR1, fR2, fR3, fR4, fR5⟩ := f6_of hR
  have zR := lt_of hR
  obtain ⟨cQ0, cQ1, cQ2, cQ3, cQ4, cQ5⟩ := c6_of hQ
  obtain ⟨fQ0, fQ1, fQ2, fQ3, fQ4, fQ5⟩ := f6_of hQ
  have zQ := lt_of hQ
  have cK0 : w9.cell? ⟨w.heap.size + 1 + 1 + 1 + 1 + 1, 0, none⟩ = some (.bool false) := cl_of hK 0
  have fK0 : w9.frozen? ⟨w.heap.size + 1 + 1 + 1 + 1 + 1, 0, none⟩ = false := fz_of hK 0
  have zK := lt_of hK
  have HB : Hid (But [] w w9) := Lib.hid ((HB.out).trans hb9 (by simp))
  have HO := Lib.hid hO
  have HA := Lib.hid hA
  have HX := Lib.hid hX
  have HR := Lib.hid hR
  have HQ := Lib.hid hQ
  have HK := Lib.hid hK
  clear hO hA hX hR hQ hK hb9
  go_wp2_with fail
  refine (G2.out _).mono ?_
  rintro e w10 ⟨rfl, hb10⟩
  have hO : w10.heap[w.heap.size]? = some (.cells #[.int .u8 op] 5) := hb10.heap (HO.out) (by simp)
  have hA : w10.heap[w.heap.size + 1]? = some (.cells #[.int .u64 v, .int .u64 m, .int .u64 lo, .int .u64 hi, .int .i64 sl, .int .i64 sh] 28) := hb10.heap (HA.out) (by simp)
  have hX : w10.heap[w.heap.size + 1 + 1]? = some (.cells #[.int .u64 xv, .int .u64 xm, .int .u64 xlo, .int .u64 xhi, .int .i64 xsl, .int .i64 xsh] 28) := hb10.heap (HX.out) (by simp)
  have hR : w10.heap[w.heap.size + 1 + 1 + 1]? = some (.cells #[.int .u64 0, .int .u64 0, .int .u64 0, .int .u64 0, .int .i64 0, .int .i64 0] 28) := hb10.heap (HR.out) (by simp)
  have hQ : w10.heap[w.heap.size + 1 + 1 + 1 + 1]? = some (.cells #[.int .u64 0, .int .u64 0, .int .u64 0, .int .u64 0, .int .i64 0, .int .i64 0] 28) := hb10.heap (HQ.out) (by simp)
  have hK : w10.heap[w.heap.size + 1 + 1 + 1 + 1 + 1]? = some (.cells #[.bool false] 4) := hb10.heap (HK.out) (by simp)
  clear zO zA zX zR zQ zK
  clear cO0 cA0 cA1 cA2 cA3 cA4 cA5 cX0 cX1 cX2 cX3 cX4 cX5 cR0 cR1 cR2 cR3 cR4 cR5 cQ0 cQ1 cQ2 cQ3 cQ4 cQ5 cK0
  clear fR0 fR1 fR2 fR3 fR4 fR5 fQ0 fQ1 fQ2 fQ3 fQ4 fQ5 fK0
  have cO0 : w10.cell? ⟨w.heap.size, 0, none⟩ = some (.int .u8 op) := cl_of hO 0
  have zO := lt_of hO
  obtain ⟨cA0, cA1, cA2, cA3, cA4, cA5⟩ := c6_of hA
  have zA := lt_of hA
  obtain ⟨cX0, cX1, cX2, cX3, cX4, cX5⟩ := c6_of hX
  have zX := lt_of hX
  obtain ⟨cR0, cR1, cR2, cR3, cR4, cR5⟩ := c6_of hR
  obtain ⟨fR0, fR1, fR2, fR3, fR4, fR5⟩ := f6_of hR
  have zR := lt_of hR
  obtain ⟨cQ0, cQ1, cQ2, cQ3, cQ4, cQ5⟩ := c6_of hQ
  obtain ⟨fQ0, fQ1, fQ2, fQ3, fQ4, fQ5⟩ := f6_of hQ
  have zQ := lt_of hQ
  have cK0 : w10.cell? ⟨w.heap.size + 1 + 1 + 1 + 1 + 1, 0, none⟩ = some (.bool false) := cl_of hK 0
  have fK0 : w10.frozen? ⟨w.heap.size + 1 + 1 + 1 + 1 + 1, 0, none⟩ = false := fz_of hK 0
  have zK := lt_of hK
  have HB : Hid (But [] w w10) := Lib.hid ((HB.out).trans hb10 (by simp))
  have HO := Lib.hid hO
  have HA := Lib.hid hA
  have HX := Lib.hid hX
  have HR := Lib.hid hR
  have HQ := Lib.hid hQ
  have HK := Lib.hid hK
  clear hO hA hX hR hQ hK hb10
  go_wp2_with fail
  go_region
  all_goals (go_wp2_with fail)
  all_goals exact bodyPost_ret (v := .tuple #[.agg #[.int .u64 v, .int .u64 m, .int .u64 lo, .int .u64 hi, .int .i64 sl, .int .i64 sh], .agg #[.int .u64 xv, .int .u64 xm, .int .u64 xlo, .int .u64 xhi, .int .i64 xsl, .int .i64 xsh], .bool true]) (by simp [results, Try.results12, go_sem, cR0, cR1, cR2, cR3, cR4, cR5, cQ0, cQ1, cQ2, cQ3, cQ4, cQ5, cK0]) rfl ⟨by rw [HE.out]; rfl, by
    repeat (first | with_reducible exact HB.out | with_reducible refine But.alloc ?_ _ | with_reducible refine But.drew ?_ | (with_reducible refine But.setCell ?_ (.inr ?_) _; rotate_left; (simp only []; omega)))⟩
end Go.Proofs.Ytmbmmcippglfoaa.M
