/- The program's Solutions returns what the reference's returns, for all arguments. Condition: none. -/
import Derived.Deep.Slices
import Derived.Deep.Fields
import Derived.ChangeSame
import Derived.ChangeShapes
import Derived.Below
import Derived.Carry
import Derived.Lib.SmallJoins
import Derived.RowKit
import Derived.OpenShut
import Derived.Test.YtkgaljocaapobaaRows
import Derived.WalkKit
import Derived.ProofKit
import Derived.ShutString
import Derived.ChangeOld
import Derived.SizedLaws
import Derived.ChangeSlices
import Derived.Test.YtkgaljocaapobaaKFnExactSolutions0
import Derived.Test.YtkgaljocaapobaaKFnExactSolutions1
import Derived.Test.YtkgaljocaapobaaKFnExactSolutions2
import Derived.Test.YtkgaljocaapobaaKFnExactSolutions3
import Derived.Test.YtkgaljocaapobaaKFnExactSolutions4
set_option linter.unusedVariables false
set_option linter.unusedSimpArgs false
namespace Go.Proofs.Ytkgaljocaapobaa.Pr
open Go.RowKit Go.Proofs.YtkgaljocaapobaaW.PrintWords Go.Proofs.YtkgaljocaapobaaW.PrintLast Go.Proofs.YtkgaljocaapobaaW.PrintMore
attribute [local go_sem] max2_int min2_int max_two min_two max_three min_three max_four min_four
mutual
def laws_FnExactSolutions.j0 : Nat → List (S37) → Bool → List (S37) → Bool → Bool → List (S72) → List (S67) → Option (Bool)
 | 0, _, _, _, _, _, _, _ => none
 | k + 1, x4, x5, x7, x8, x40, x430000, x442000 => if x40 = true then (some false) else ((laws_toPuzzle.f k x430000).bind fun t447 => ((laws_eqPuzzle.f k x442000 t447).bind fun t450 => (if t450 = true then ((laws_markPuzzle.f k x442000 1).bind fun bt451 => (if bt451.1 < 0 then (laws_FnExactSolutions.j1 k x4 x5 x7 true x430000) else ((laws_eqStarS.f k x7 x4).bind fun t453 => (if t453 = true then (laws_FnExactSolutions.j1 k x4 x5 x7 (x8 != x5) x430000) else (laws_FnExactSolutions.j1 k x4 x5 x7 true x430000))))) else (some false))))
def laws_FnExactSolutions.j1 : Nat → List (S37) → Bool → List (S37) → Bool → List (S72) → Option (Bool)
 | 0, _, _, _, _, _ => none
 | k + 1, x4, x5, x7, x61, x430000 => if x61 = true then (some false) else ((laws_markStarS.f k x7 1).bind fun bt454 => ((laws_heldStarS.f k bt454.2 1).bind fun t456 => (if t456 < 0 then (some false) else (if t456 = bt454.1 then ((laws_toPuzzle.f k x430000).bind fun t457 => ((impl_Solutions.f t457).bind fun bt460 => ((laws_eqStarS.f k bt460.1 x4).bind fun t464 => (if t464 = true then (laws_FnExactSolutions.j2 k bt454.2 bt454.1 (bt460.2 != x5)) else (laws_FnExactSolutions.j2 k bt454.2 bt454.1 true))))) else (some false)))))
def laws_FnExactSolutions.j2 : Nat → List (S37) → Int → Bool → Option (Bool)
 | 0, _, _, _ => none
 | k + 1, x7, x10, x87 => if x87 = true then (some false) else ((laws_heldStarS.f k x7 1).bind fun t465 => (if t465 < 0 then (some false) else (if t465 = x10 then (some true) else (some false))))
end
def laws_FnExactSolutions.f (k : Nat) (l0_0 : List (S72)) : Option (Bool) := (laws_szPuzzle.f l0_0 1048576).bind fun t430 => (if t430 < 0 then (some true) else ((laws_toPuzzle.f k l0_0).bind fun t431 => ((spec_Solutions.f k t431).bind fun bt434 => ((laws_toPuzzle.f k l0_0).bind fun t438 => ((impl_Solutions.f t438).bind fun bt442 => ((laws_eqStarS.f k bt442.1 bt434.1).bind fun t446 => (if t446 = true then (laws_FnExactSolutions.j0 k bt434.1 bt434.2 bt442.1 bt442.2 (bt442.2 != bt434.2) l0_0 t438) else (laws_FnExactSolutions.j0 k bt434.1 bt434.2 bt442.1 bt442.2 true l0_0 t438))))))))
theorem laws_FnExactSolutions.mono_l : ∀ k, (∀ y0 y1 y2 y3 y4 y5 y6, LeO (laws_FnExactSolutions.j0 k y0 y1 y2 y3 y4 y5 y6) (laws_FnExactSolutions.j0 (k + 1) y0 y1 y2 y3 y4 y5 y6)) ∧ (∀ y0 y1 y2 y3 y4, LeO (laws_FnExactSolutions.j1 k y0 y1 y2 y3 y4) (laws_FnExactSolutions.j1 (k + 1) y0 y1 y2 y3 y4)) ∧ (∀ y0 y1 y2, LeO (laws_FnExactSolutions.j2 k y0 y1 y2) (laws_FnExactSolutions.j2 (k + 1) y0 y1 y2))
 | 0 => ⟨fun _ _ _ _ _ _ _ r h => by simp [laws_FnExactSolutions.j0] at h, fun _ _ _ _ _ r h => by simp [laws_FnExactSolutions.j1] at h, fun _ _ _ r h => by simp [laws_FnExactSolutions.j2] at h⟩
 | k + 1 => by
  obtain ⟨ih0, ih1, ih2⟩ := laws_FnExactSolutions.mono_l k
  refine ⟨?_, ?_, ?_⟩
  ·intro y0 y1 y2 y3 y4 y5 y6
   unfold laws_FnExactSolutions.j0
   repeat' first
   | (with_reducible exact ih0 _ _ _ _ _ _ _)
   | (with_reducible exact ih1 _ _ _ _ _)
   | (with_reducible exact ih2 _ _ _)
   | (with_reducible exact laws_eqPuzzle.mono _ _ _)
   | (with_reducible exact laws_eqStarS.mono _ _ _)
   | (with_reducible exact laws_heldStarS.mono _ _ _)
   | (with_reducible exact laws_markPuzzle.mono _ _ _)
   | (with_reducible exact laws_markStarS.mono _ _ _)
   | (with_reducible exact laws_toPuzzle.mono _ _)
   | (with_reducible exact spec_Solutions.mono _ _)
   | (with_reducible exact LeO.refl _)
   | (with_reducible exact LeO.none _)
   | (with_reducible refine LeO.ite ?_ ?_)
   | (with_reducible refine LeO.bind ?_ (fun _ => ?_))
   | exact ih0 _ _ _ _ _ _ _
   | exact ih1 _ _ _ _ _
   | exact ih2 _ _ _
   | exact laws_eqPuzzle.mono _ _ _
   | exact laws_eqStarS.mono _ _ _
   | exact laws_heldStarS.mono _ _ _
   | exact laws_markPuzzle.mono _ _ _
   | exact laws_markStarS.mono _ _ _
   | exact laws_toPuzzle.mono _ _
   | exact spec_Solutions.mono _ _
   | exact LeO.none _
   | refine LeO.ite ?_ ?_
   | refine LeO.bind ?_ (fun _ => ?_)
  ·intro y0 y1 y2 y3 y4
   unfold laws_FnExactSolutions.j1
   repeat' first
   | (with_reducible exact ih0 _ _ _ _ _ _ _)
   | (with_reducible exact ih1 _ _ _ _ _)
   | (with_reducible exact ih2 _ _ _)
   | (with_reducible exact laws_eqPuzzle.mono _ _ _)
   | (with_reducible exact laws_eqStarS.mono _ _ _)
   | (with_reducible exact laws_heldStarS.mono _ _ _)
   | (with_reducible exact laws_markPuzzle.mono _ _ _)
   | (with_reducible exact laws_markStarS.mono _ _ _)
   | (with_reducible exact laws_toPuzzle.mono _ _)
   | (with_reducible exact spec_Solutions.mono _ _)
   | (with_reducible exact LeO.refl _)
   | (with_reducible exact LeO.none _)
   | (with_reducible refine LeO.ite ?_ ?_)
   | (with_reducible refine LeO.bind ?_ (fun _ => ?_))
   | exact ih0 _ _ _ _ _ _ _
   | exact ih1 _ _ _ _ _
   | exact ih2 _ _ _
   | exact laws_eqPuzzle.mono _ _ _
   | exact laws_eqStarS.mono _ _ _
   | exact laws_heldStarS.mono _ _ _
   | exact laws_markPuzzle.mono _ _ _
   | exact laws_markStarS.mono _ _ _
   | exact laws_toPuzzle.mono _ _
   | exact spec_Solutions.mono _ _
   | exact LeO.none _
   | refine LeO.ite ?_ ?_
   | refine LeO.bind ?_ (fun _ => ?_)
  ·intro y0 y1 y2
   unfold laws_FnExactSolutions.j2
   repeat' first
   | (with_reducible exact ih0 _ _ _ _ _ _ _)
   | (with_reducible exact ih1 _ _ _ _ _)
   | (with_reducible exact ih2 _ _ _)
   | (with_reducible exact laws_eqPuzzle.mono _ _ _)
   | (with_reducible exact laws_eqStarS.mono _ _ _)
   | (with_reducible exact laws_heldStarS.mono _ _ _)
   | (with_reducible exact laws_markPuzzle.mono _ _ _)
   | (with_reducible exact laws_markStarS.mono _ _ _)
   | (with_reducible exact laws_toPuzzle.mono _ _)
   | (with_reducible exact spec_Solutions.mono _ _)
   | (with_reducible exact LeO.refl _)
   | (with_reducible exact LeO.none _)
   | (with_reducible refine LeO.ite ?_ ?_)
   | (with_reducible refine LeO.bind ?_ (fun _ => ?_))
   | exact ih0 _ _ _ _ _ _ _
   | exact ih1 _ _ _ _ _
   | exact ih2 _ _ _
   | exact laws_eqPuzzle.mono _ _ _
   | exact laws_eqStarS.mono _ _ _
   | exact laws_heldStarS.mono _ _ _
   | exact laws_markPuzzle.mono _ _ _
   | exact laws_markStarS.mono _ _ _
   | exact laws_toPuzzle.mono _ _
   | exact spec_Solutions.mono _ _
   | exact LeO.none _
   | refine LeO.ite ?_ ?_
   | refine LeO.bind ?_ (fun _ => ?_)
theorem laws_FnExactSolutions.mono : ∀ a0 k, LeO (laws_FnExactSolutions.f k a0) (laws_FnExactSolutions.f (k + 1) a0) := by
 intro a0 k
 obtain ⟨ih0, ih1, ih2⟩ := laws_FnExactSolutions.mono_l k
 unfold laws_FnExactSolutions.f
 repeat' first
   | (with_reducible exact ih0 _ _ _ _ _ _ _)
   | (with_reducible exact ih1 _ _ _ _ _)
   | (with_reducible exact ih2 _ _ _)
   | (with_reducible exact laws_eqPuzzle.mono _ _ _)
   | (with_reducible exact laws_eqStarS.mono _ _ _)
   | (with_reducible exact laws_heldStarS.mono _ _ _)
   | (with_reducible exact laws_markPuzzle.mono _ _ _)
   | (with_reducible exact laws_markStarS.mono _ _ _)
   | (with_reducible exact laws_toPuzzle.mono _ _)
   | (with_reducible exact spec_Solutions.mono _ _)
   | (with_reducible exact LeO.refl _)
   | (with_reducible exact LeO.none _)
   | (with_reducible refine LeO.ite ?_ ?_)
   | (with_reducible refine LeO.bind ?_ (fun _ => ?_))
   | exact ih0 _ _ _ _ _ _ _
   | exact ih1 _ _ _ _ _
   | exact ih2 _ _ _
   | exact laws_eqPuzzle.mono _ _ _
   | exact laws_eqStarS.mono _ _ _
   | exact laws_heldStarS.mono _ _ _
   | exact laws_markPuzzle.mono _ _ _
   | exact laws_markStarS.mono _ _ _
   | exact laws_toPuzzle.mono _ _
   | exact spec_Solutions.mono _ _
   | exact LeO.none _
   | refine LeO.ite ?_ ?_
   | refine LeO.bind ?_ (fun _ => ?_)
set_option maxHeartbeats 8000000 in
set_option maxRecDepth 100000 in
theorem laws_FnExactSolutions.calls (k : Nat) (A0_0 : Option Addr) (c0_0 : Nat) (l0_0 : List (S72)) (r : Bool) (w : World) (hr0_0 : Kd.C k72 w A0_0 l0_0.length l0_0) (hc0_0 : l0_0.length ≤ c0_0) (h : laws_FnExactSolutions.f k l0_0 = some r) :
  Calls Try.prog 9 #[.agg #[.slice A0_0 l0_0.length c0_0]] w fun e w' => e = .returned (.bool r) ∧ Below w.heap.size w w' := by
 have hu24 := Try.underlying24
 have hu30 := Try.underlying30
 have HR0_0 := Aside0.mk hr0_0
 have HC0_0 := Aside0.mk hc0_0
 clear hr0_0 hc0_0
 have HB := Aside0.mk (Below.refl w.heap.size w)
 have H : ((laws_szPuzzle.f l0_0 1048576).bind fun t430 => (if t430 < 0 then (some true) else ((laws_toPuzzle.f k l0_0).bind fun t431 => ((spec_Solutions.f k t431).bind fun bt434 => ((laws_toPuzzle.f k l0_0).bind fun t438 => ((impl_Solutions.f t438).bind fun bt442 => ((laws_eqStarS.f k bt442.1 bt434.1).bind fun t446 => (if t446 = true then (laws_FnExactSolutions.j0 k bt434.1 bt434.2 bt442.1 bt442.2 (bt442.2 != bt434.2) l0_0 t438) else (laws_FnExactSolutions.j0 k bt434.1 bt434.2 bt442.1 bt442.2 true l0_0 t438))))))))) = some r := h
 clear h
 replace H := bI H
 obtain ⟨t430, A20, H⟩ := H
 replace H : (if t430 < 0 then (some true) else ((laws_toPuzzle.f k l0_0).bind fun t431 => ((spec_Solutions.f k t431).bind fun bt434 => ((laws_toPuzzle.f k l0_0).bind fun t438 => ((impl_Solutions.f t438).bind fun bt442 => ((laws_eqStarS.f k bt442.1 bt434.1).bind fun t446 => (if t446 = true then (laws_FnExactSolutions.j0 k bt434.1 bt434.2 bt442.1 bt442.2 (bt442.2 != bt434.2) l0_0 t438) else (laws_FnExactSolutions.j0 k bt434.1 bt434.2 bt442.1 bt442.2 true l0_0 t438)))))))) = some r := H
 have A2 := Aside0.mk A20
 clear A20
 by_cases c3 : t430 < 0
 ·rw [if_pos c3] at H
  have c3b0 : decide (t430 < 0) = true := decide_eq_true c3
  clear c3
  obtain rfl := oI H
  go_enter Try.func9, Try.ntmps9
  go_wp2_with (first | ((with_reducible refine gate_dst (N := 1) rfl ?_); refine box_event ?hg (N := 1) ?hd (cs := #[.slice A0_0 l0_0.length c0_0]) (t := 24) ?hr ?_; (case hd => rfl); (case hg => rfl); (case hr => first | (go_simp; done) | (go_simp; rfl)); intro gb429 hg w4 hbox hb; have n0_ := Aside0.mk (below_step hb_ hb); have n1_ := Aside0.mk (hbox); have n2_ := Aside0.mk ((by rw [hg]; exact (below_size hb_) : w.heap.size ≤ gb429)); have n3_ := Aside0.mk ((by rw [hg]; exact (below_size hb_) : w.heap.size ≤ gb429)); clear HB; have HB := n0_; have BK429 := n1_; have GW429 := n2_; have GE429 := n3_; clear n0_ n1_ n2_ n3_; clear hb hbox hg; have hcz5_0 : w4.cell? ⟨gb429, 0, none⟩ = some (.slice A0_0 l0_0.length c0_0) := (blk_cell BK429.out 0).trans rfl; have hfz5_0 := blk_frozen BK429.out 0) | ((with_reducible refine gate_callee (f := 12) rfl ?_); refine goesL_ (some 16) rfl rfl Try.func12 (by kernel_rfl) rfl #[.agg #[.slice A0_0 l0_0.length c0_0], .int .i64 1048576] rfl ar_ ?_; (with_reducible refine (laws_szPuzzle.calls _ _ l0_0 1048576 t430 _ ?side1 ?side2 A2.out).mono ?_); (case side1 => repeat (first | exact (Kd.C_below HR0_0.out HB.out) | (with_reducible refine Kd.C_alloc ?_ _) | (with_reducible refine Kd.C_drewN ?_ _) | (with_reducible refine Kd.C_drew ?_))); (case side2 => exact HC0_0.out); rintro e w6 ⟨rfl, hb⟩; refine ⟨_, rfl, ?_⟩; have n0_ := Aside0.mk (blk_below (g := gb429) (o := .cells #[.slice A0_0 l0_0.length c0_0] 24 (0, 0)) (kx_ BK429.out) hb); have n1_ := Aside0.mk (below_step (hs_ GE429.out) hb); clear BK429; clear HB; have BK429 := n0_; have HB := n1_; clear n0_ n1_; (try clear hb); (try clear hb2); (try clear hk); (try clear hi)))
  go_ret
  exact ⟨by first | rfl | (simp [errW_none, errW_some] <;> rfl) | (simp [*, errW_none, errW_some] <;> rfl), hs_ GE429.out⟩
 ·rw [if_neg c3] at H
  have c3b0 : decide (t430 < 0) = false := decide_eq_false c3
  clear c3
  replace H := bI H
  obtain ⟨t431, A70, H⟩ := H
  replace H : ((spec_Solutions.f k t431).bind fun bt434 => ((laws_toPuzzle.f k l0_0).bind fun t438 => ((impl_Solutions.f t438).bind fun bt442 => ((laws_eqStarS.f k bt442.1 bt434.1).bind fun t446 => (if t446 = true then (laws_FnExactSolutions.j0 k bt434.1 bt434.2 bt442.1 bt442.2 (bt442.2 != bt434.2) l0_0 t438) else (laws_FnExactSolutions.j0 k bt434.1 bt434.2 bt442.1 bt442.2 true l0_0 t438)))))) = some r := H
  have A7 := Aside0.mk A70
  clear A70
  replace H := bI H
  obtain ⟨⟨t434, t437⟩, A80, H⟩ := H
  replace H : ((laws_toPuzzle.f k l0_0).bind fun t438 => ((impl_Solutions.f t438).bind fun bt442 => ((laws_eqStarS.f k bt442.1 t434).bind fun t446 => (if t446 = true then (laws_FnExactSolutions.j0 k t434 t437 bt442.1 bt442.2 (bt442.2 != t437) l0_0 t438) else (laws_FnExactSolutions.j0 k t434 t437 bt442.1 bt442.2 true l0_0 t438))))) = some r := H
  have A8 := Aside0.mk A80
  clear A80
  replace H := bI H
  obtain ⟨t438, A90, H⟩ := H
  replace H : ((impl_Solutions.f t438).bind fun bt442 => ((laws_eqStarS.f k bt442.1 t434).bind fun t446 => (if t446 = true then (laws_FnExactSolutions.j0 k t434 t437 bt442.1 bt442.2 (bt442.2 != t437) l0_0 t438) else (laws_FnExactSolutions.j0 k t434 t437 bt442.1 bt442.2 true l0_0 t438)))) = some r := H
  have A9 := Aside0.mk A90
  clear A90
  replace H := bI H
  obtain ⟨⟨t442, t445⟩, A100, H⟩ := H
  replace H : ((laws_eqStarS.f k t442 t434).bind fun t446 => (if t446 = true then (laws_FnExactSolutions.j0 k t434 t437 t442 t445 (t445 != t437) l0_0 t438) else (laws_FnExactSolutions.j0 k t434 t437 t442 t445 true l0_0 t438))) = some r := H
  have A10 := Aside0.mk A100
  clear A100
  have HC11 := Aside0.mk H
  clear H
  go_enter Try.func9, Try.ntmps9
  go_upto_region 8 with (first | ((with_reducible refine gate_dst (N := 1) rfl ?_); refine box_event ?hg (N := 1) ?hd (cs := #[.slice A0_0 l0_0.length c0_0]) (t := 24) ?hr ?_; (case hd => rfl); (case hg => rfl); (case hr => first | (go_simp; done) | (go_simp; rfl)); intro gb429 hg w12 hbox hb; have n0_ := Aside0.mk (below_step hb_ hb); have n1_ := Aside0.mk (hbox); have n2_ := Aside0.mk ((by rw [hg]; exact (below_size hb_) : w.heap.size ≤ gb429)); have n3_ := Aside0.mk ((by rw [hg]; exact (below_size hb_) : w.heap.size ≤ gb429)); clear HB; have HB := n0_; have BK429 := n1_; have GW429 := n2_; have GE429 := n3_; clear n0_ n1_ n2_ n3_; clear hb hbox hg; have hcz13_0 : w12.cell? ⟨gb429, 0, none⟩ = some (.slice A0_0 l0_0.length c0_0) := (blk_cell BK429.out 0).trans rfl; have hfz13_0 := blk_frozen BK429.out 0) | ((with_reducible refine gate_callee (f := 12) rfl ?_); refine goesL_ (some 16) rfl rfl Try.func12 (by kernel_rfl) rfl #[.agg #[.slice A0_0 l0_0.length c0_0], .int .i64 1048576] rfl ar_ ?_; (with_reducible refine (laws_szPuzzle.calls _ _ l0_0 1048576 t430 _ ?side1 ?side2 A2.out).mono ?_); (case side1 => repeat (first | exact (Kd.C_below HR0_0.out HB.out) | (with_reducible refine Kd.C_alloc ?_ _) | (with_reducible refine Kd.C_drewN ?_ _) | (with_reducible refine Kd.C_drew ?_))); (case side2 => exact HC0_0.out); rintro e w14 ⟨rfl, hb⟩; refine ⟨_, rfl, ?_⟩; have n0_ := Aside0.mk (blk_below (g := gb429) (o := .cells #[.slice A0_0 l0_0.length c0_0] 24 (0, 0)) (kx_ BK429.out) hb); have n1_ := Aside0.mk (below_step (hs_ GE429.out) hb); clear BK429; clear HB; have BK429 := n0_; have HB := n1_; clear n0_ n1_; (try clear hb); (try clear hb2); (try clear hk); (try clear hi); have hcz15_0 : w14.cell? ⟨gb429, 0, none⟩ = some (.slice A0_0 l0_0.length c0_0) := (blk_cell BK429.out 0).trans rfl; have hfz15_0 := blk_frozen BK429.out 0) | ((with_reducible refine gate_callee (f := 14) rfl ?_); refine goesL_ (some 21) rfl rfl Try.func14 (by kernel_rfl) rfl #[.agg #[.slice A0_0 l0_0.length c0_0]] rfl ar_ ?_; (with_reducible refine (laws_toPuzzle.calls k _ _ l0_0 t431 _ ?side1 ?side2 A7.out).mono ?_); (case side1 => repeat (first | exact (Kd.C_below HR0_0.out HB.out) | (with_reducible refine Kd.C_alloc ?_ _) | (with_reducible refine Kd.C_drewN ?_ _) | (with_reducible refine Kd.C_drew ?_))); (case side2 => exact HC0_0.out); rintro e w16 ⟨v432, rfl, ho0, hb⟩; refine ⟨_, rfl, ?_⟩; have n0_ := Aside0.mk (Kd.R_lower ho0 (below_size (hs_ GE429.out))); have n1_ := Aside0.mk (blk_below (g := gb429) (o := .cells #[.slice A0_0 l0_0.length c0_0] 24 (0, 0)) (kx_ BK429.out) hb); have n2_ := Aside0.mk (below_step (hs_ GE429.out) hb); clear BK429; clear HB; have HO433 := n0_; have BK429 := n1_; have HB := n2_; clear n0_ n1_ n2_; (try clear hb); (try clear hb2); (try clear hk); (try clear hi); (try clear ho0); obtain ⟨Ao17, co17, eo17⟩ := Kd.R_slice HO433.out; subst eo17) | ((with_reducible refine gate_callee (f := 32) rfl ?_); refine goesL_ (some 22) rfl rfl Try.func32 (by kernel_rfl) rfl #[.agg #[.slice Ao17 t431.length co17]] rfl ar_ ?_; (with_reducible refine (spec_Solutions.calls k _ _ t431 t434 t437 _ ?side1 ?side2 A8.out).mono ?_); (case side1 => repeat (first | exact (Kd.R_reads' HO433.out).2.2 | (with_reducible refine Kd.C_alloc ?_ _) | (with_reducible refine Kd.C_drewN ?_ _) | (with_reducible refine Kd.C_drew ?_))); (case side2 => exact (Kd.R_reads' HO433.out).2.1); rintro e w18 ⟨v435, rfl, ho0, hb⟩; refine ⟨_, rfl, ?_⟩; have n0_ := Aside0.mk (Kd.R_below (by (with_reducible repeat (first | apply rA | apply rN | apply rD)); exact HO433.out) hb); have n1_ := Aside0.mk (Kd.R_lower ho0 (below_size (hs_ GE429.out))); have n2_ := Aside0.mk (blk_below (g := gb429) (o := .cells #[.slice A0_0 l0_0.length c0_0] 24 (0, 0)) (kx_ BK429.out) hb); have n3_ := Aside0.mk (below_step (hs_ GE429.out) hb); clear HO433; clear BK429; clear HB; have HO433 := n0_; have HO436 := n1_; have BK429 := n2_; have HB := n3_; clear n0_ n1_ n2_ n3_; (try clear hb); (try clear hb2); (try clear hk); (try clear hi); (try clear ho0); have hcz19_0 : w18.cell? ⟨gb429, 0, none⟩ = some (.slice A0_0 l0_0.length c0_0) := (blk_cell BK429.out 0).trans rfl; have hfz19_0 := blk_frozen BK429.out 0) | ((with_reducible refine gate_callee (f := 14) rfl ?_); refine goesL_ (some 26) rfl rfl Try.func14 (by kernel_rfl) rfl #[.agg #[.slice A0_0 l0_0.length c0_0]] rfl ar_ ?_; (with_reducible refine (laws_toPuzzle.calls k _ _ l0_0 t438 _ ?side1 ?side2 A9.out).mono ?_); (case side1 => repeat (first | exact (Kd.C_below HR0_0.out HB.out) | (with_reducible refine Kd.C_alloc ?_ _) | (with_reducible refine Kd.C_drewN ?_ _) | (with_reducible refine Kd.C_drew ?_))); (case side2 => exact HC0_0.out); rintro e w20 ⟨v439, rfl, ho0, hb⟩; refine ⟨_, rfl, ?_⟩; have n0_ := Aside0.mk (Kd.R_elder' (by (with_reducible repeat (first | apply rA | apply rN | apply rD)); exact HO433.out) (Kd.R_base ho0) hb); have n1_ := Aside0.mk (Kd.R_below (by (with_reducible repeat (first | apply rA | apply rN | apply rD)); exact HO436.out) hb); have n2_ := Aside0.mk (Kd.R_lower (Kd.R_new' ho0 (Kd.R_lt (by (with_reducible repeat (first | apply rA | apply rN | apply rD)); exact HO433.out))) (below_size (hs_ GE429.out))); have n3_ := Aside0.mk (blk_below (g := gb429) (o := .cells #[.slice A0_0 l0_0.length c0_0] 24 (0, 0)) (kx_ BK429.out) hb); have n4_ := Aside0.mk (below_step (hs_ GE429.out) hb); clear HO433; clear HO436; clear BK429; clear HB; have HO433 := n0_; have HO436 := n1_; have HO440 := n2_; have BK429 := n3_; have HB := n4_; clear n0_ n1_ n2_ n3_ n4_; (try clear hb); (try clear hb2); (try clear hk); (try clear hi); (try clear ho0)) | ((with_reducible refine gate_dst (N := 6) rfl ?_); refine box_event ?hg (N := 6) ?hd (cs := #[.slice none 0 0]) (t := 30) ?hr ?_; (case hd => rfl); (case hg => rfl); (case hr => first | (go_simp; done) | (go_simp; rfl)); intro gb441 hg w21 hbox hb; have n0_ := Aside0.mk (Kd.R_below (by (with_reducible repeat (first | apply rA | apply rN | apply rD)); exact HO433.out) hb); have n1_ := Aside0.mk (Kd.R_below (by (with_reducible repeat (first | apply rA | apply rN | apply rD)); exact HO436.out) hb); have n2_ := Aside0.mk (Kd.R_below (by (with_reducible repeat (first | apply rA | apply rN | apply rD)); exact HO440.out) hb); have n3_ := Aside0.mk (blk_below (g := gb429) (o := .cells #[.slice A0_0 l0_0.length c0_0] 24 (0, 0)) (kx_ BK429.out) hb); have n4_ := Aside0.mk (below_step (hs_ GE429.out) hb); have n5_ := Aside0.mk (hbox); have n6_ := Aside0.mk ((by rw [hg]; exact (below_size (hs_ GE429.out)) : w.heap.size ≤ gb441)); have n7_ := Aside0.mk ((by rw [hg]; exact (below_size (hs_ GE429.out)) : w.heap.size ≤ gb441)); have n8_ := Aside0.mk ((by rw [hg]; exact Nat.ne_of_lt (blk_lt (g := gb429) (o := .cells #[.slice A0_0 l0_0.length c0_0] 24 (0, 0)) (kx_ BK429.out)) : gb429 ≠ gb441)); have n9_ := Aside0.mk ((by rw [hg]; exact Nat.ne_of_gt (blk_lt (g := gb429) (o := .cells #[.slice A0_0 l0_0.length c0_0] 24 (0, 0)) (kx_ BK429.out)) : gb441 ≠ gb429)); clear HO433; clear HO436; clear HO440; clear BK429; clear HB; have HO433 := n0_; have HO436 := n1_; have HO440 := n2_; have BK429 := n3_; have HB := n4_; have BK441 := n5_; have GW441 := n6_; have GE441 := n7_; have NB429_441 := n8_; have NB441_429 := n9_; clear n0_ n1_ n2_ n3_ n4_ n5_ n6_ n7_ n8_ n9_; clear hb hbox hg; obtain ⟨Ao22, co22, eo22⟩ := Kd.R_slice HO440.out; subst eo22; have hnb23 := NB441_429.out; have hnc23 := NB429_441.out; have hcz24_0 : w21.cell? ⟨gb441, 0, none⟩ = some (.slice none 0 0) := (blk_cell BK441.out 0).trans rfl; have hfz24_0 := blk_frozen BK441.out 0) | ((with_reducible refine gate_callee (f := 33) rfl ?_); refine goesL_ (some 29) rfl rfl Try.func33 (by kernel_rfl) rfl #[.agg #[.slice Ao22 t438.length co22]] rfl ar_ ?_; (with_reducible refine (impl_Solutions.calls _ _ t438 t442 t445 _ ?side1 ?side2 A10.out).mono ?_); (case side1 => refine (Kd.R_reads' (e := 67) (base := w.heap.size) (ok := fun k_ => (True ∧ some k_ ≠ (.slice Ao17 t431.length co17 : Value).ownBlock)) (n := t438.length) (c := co22) ?_).2.2; exact (by (with_reducible repeat (first | apply rA | apply rN | apply rD)); exact (Kd.R_mono (Kd.R_far (p := ⟨gb441, 0, none⟩) (Kd.R_types HO440.out BK441.out (by decide)) (fun _ hk => hk.2) (.slice Ao22 t438.length co22)) (fun _ h_ => h_.1)))); (case side2 => exact (Kd.R_reads' HO440.out).2.1); rintro e w25 ⟨v443, rfl, ho0, hb⟩; refine ⟨_, rfl, ?_⟩; have n0_ := Aside0.mk (Kd.R_below (by (with_reducible repeat (first | apply rA | apply rN | apply rD)); exact (Kd.R_mono (Kd.R_far (p := ⟨gb441, 0, none⟩) (Kd.R_types HO433.out BK441.out (by decide)) (fun _ hk => hk.2) (.slice Ao22 t438.length co22)) (fun _ h_ => h_.1))) hb); have n1_ := Aside0.mk (Kd.R_elder' (by (with_reducible repeat (first | apply rA | apply rN | apply rD)); exact (Kd.R_mono (Kd.R_far (p := ⟨gb441, 0, none⟩) (Kd.R_types HO436.out BK441.out (by decide)) (fun _ hk => hk.2) (.slice Ao22 t438.length co22)) (fun _ h_ => h_.1))) (Kd.R_base ho0) hb); have n2_ := Aside0.mk (Kd.R_below (by (with_reducible repeat (first | apply rA | apply rN | apply rD)); exact (Kd.R_mono (Kd.R_far (p := ⟨gb441, 0, none⟩) (Kd.R_types HO440.out BK441.out (by decide)) (fun _ hk => hk.2) (.slice Ao22 t438.length co22)) (fun _ h_ => h_.1))) hb); have n3_ := Aside0.mk (Kd.R_lower (Kd.R_new' ho0 (Kd.R_lt (by (with_reducible repeat (first | apply rA | apply rN | apply rD)); exact (Kd.R_mono (Kd.R_far (p := ⟨gb441, 0, none⟩) (Kd.R_types HO436.out BK441.out (by decide)) (fun _ hk => hk.2) (.slice Ao22 t438.length co22)) (fun _ h_ => h_.1))))) (below_size (by repeat (first | (with_reducible first | exact HB.out | apply bA | apply bN | apply bD | refine below_set ?_ GE429.out | refine below_set ?_ GE441.out) | exact HB.out)))); have n4_ := Aside0.mk (blk_below (g := gb429) (o := .cells #[.slice A0_0 l0_0.length c0_0] 24 (0, 0)) (by (with_reducible repeat (first | refine kN ?_ _ | refine kD ?_ | refine kA ?_ _)); refine blk_far ?_ NB429_441.out _; (with_reducible repeat (first | refine kN ?_ _ | refine kD ?_ | refine kA ?_ _)); exact BK429.out) hb); have n5_ := Aside0.mk (blk_below (g := gb441) (o := .cells #[.slice Ao22 t438.length co22] 30 (0, 0)) (by (with_reducible repeat (first | refine kN ?_ _ | refine kD ?_ | refine kA ?_ _)); refine blk_put (cs := #[.slice none 0 0]) ?_ 0 _ rfl; (with_reducible repeat (first | refine kN ?_ _ | refine kD ?_ | refine kA ?_ _)); exact BK441.out) hb); have n6_ := Aside0.mk (below_step (by repeat (first | (with_reducible first | exact HB.out | apply bA | apply bN | apply bD | refine below_set ?_ GE429.out | refine below_set ?_ GE441.out) | exact HB.out)) hb); clear HO433; clear HO436; clear HO440; clear BK429; clear BK441; clear HB; have HO433 := n0_; have HO436 := n1_; have HO440 := n2_; have HO444 := n3_; have BK429 := n4_; have BK441 := n5_; have HB := n6_; clear n0_ n1_ n2_ n3_ n4_ n5_ n6_; (try clear hb); (try clear hb2); (try clear hk); (try clear hi); (try clear ho0)))
  (try simp only [Act.put, List.setIfInBounds_toArray, List.set_cons_zero, List.set_cons_succ])
  go_cut [40] (fun v40 wc => ∃ (kq : Nat) (x40_10 : Bool), v40 = .bool x40_10 ∧ Aside0 (laws_FnExactSolutions.j0 kq t434 t437 t442 t445 x40_10 l0_0 t438 = some r) ∧ Aside0 (kq ≤ k) ∧ Aside0 (Kd.R k37 37 wc w.heap.size (fun k_ => some k_ ≠ (v443 : Value).ownBlock) v435 t434) ∧ Aside0 (Kd.R k37 37 wc w.heap.size (fun k_ => some k_ ≠ (v435 : Value).ownBlock) v443 t442) ∧ Aside0 (Kd.R k67 67 wc w.heap.size (fun _ => True) (.slice Ao22 t438.length co22) t438) ∧ Aside0 (wc.heap[gb429]? = some (.cells #[(.slice A0_0 l0_0.length c0_0)] 24 (0, 0))) ∧ Aside0 (wc.heap[gb441]? = some (.cells #[(.slice Ao22 t438.length co22)] 30 (0, 0))) ∧ Aside0 (Below w.heap.size w wc))
  case first =>
   have H := HC11.out
   clear HC11
   replace H := bI H
   obtain ⟨t446, A260, H⟩ := H
   replace H : (if t446 = true then (laws_FnExactSolutions.j0 k t434 t437 t442 t445 (t445 != t437) l0_0 t438) else (laws_FnExactSolutions.j0 k t434 t437 t442 t445 true l0_0 t438)) = some r := H
   have A26 := Aside0.mk A260
   clear A260
   by_cases c27 : t446 = true
   ·subst c27
    have H1 : (laws_FnExactSolutions.j0 k t434 t437 t442 t445 (t445 != t437) l0_0 t438) = some r := by rw [if_pos rfl] at H; exact H
    clear H
    have H := H1
    clear H1
    have H' := Aside0.mk H
    clear H
    obtain ⟨Ao28, co28, eo28⟩ := Kd.R_slice HO444.out
    subst eo28
    obtain ⟨Ao29, co29, eo29⟩ := Kd.R_slice HO436.out
    subst eo29
    go_wp2_with (first | ((with_reducible refine gate_callee (f := 34) rfl ?_); refine goesL_ (some 34) rfl rfl Try.func34 (by kernel_rfl) rfl #[.slice Ao28 t442.length co28, .slice Ao29 t434.length co29] rfl ar_ ?_; (with_reducible refine (laws_eqStarS.calls k _ _ t442 _ _ t434 true _ ?side1 ?side2 ?side3 ?side4 A26.out).mono ?_); (case side1 => repeat (first | exact (Kd.R_reads' HO444.out).2.2 | (with_reducible refine Kd.C_alloc ?_ _) | (with_reducible refine Kd.C_drewN ?_ _) | (with_reducible refine Kd.C_drew ?_))); (case side2 => exact (Kd.R_reads' HO444.out).2.1); (case side3 => repeat (first | exact (Kd.R_reads' HO436.out).2.2 | (with_reducible refine Kd.C_alloc ?_ _) | (with_reducible refine Kd.C_drewN ?_ _) | (with_reducible refine Kd.C_drew ?_))); (case side4 => exact (Kd.R_reads' HO436.out).2.1); rintro e w30 ⟨rfl, hb⟩; refine ⟨_, rfl, ?_⟩; have n0_ := Aside0.mk (Kd.R_below (by (with_reducible repeat (first | apply rA | apply rN | apply rD)); exact HO433.out) hb); have n1_ := Aside0.mk (Kd.R_below (by (with_reducible repeat (first | apply rA | apply rN | apply rD)); exact HO436.out) hb); have n2_ := Aside0.mk (Kd.R_below (by (with_reducible repeat (first | apply rA | apply rN | apply rD)); exact HO440.out) hb); have n3_ := Aside0.mk (Kd.R_below (by (with_reducible repeat (first | apply rA | apply rN | apply rD)); exact HO444.out) hb); have n4_ := Aside0.mk (blk_below (g := gb429) (o := .cells #[.slice A0_0 l0_0.length c0_0] 24 (0, 0)) (kx_ BK429.out) hb); have n5_ := Aside0.mk (blk_below (g := gb441) (o := .cells #[.slice Ao22 t438.length co22] 30 (0, 0)) (kx_ BK441.out) hb); have n6_ := Aside0.mk (below_step (by repeat (first | (with_reducible first | exact HB.out | apply bA | apply bN | apply bD | refine below_set ?_ GE429.out | refine below_set ?_ GE441.out) | exact HB.out)) hb); clear HO433; clear HO436; clear HO440; clear HO444; clear BK429; clear BK441; clear HB; have HO433 := n0_; have HO436 := n1_; have HO440 := n2_; have HO444 := n3_; have BK429 := n4_; have BK441 := n5_; have HB := n6_; clear n0_ n1_ n2_ n3_ n4_ n5_ n6_; (try clear hb); (try clear hb2); (try clear hk); (try clear hi)))
    go_meet
    case rel => exact ⟨_, ((t445 != t437)), (by first | rfl | (simp; done) | (simp [*]; done)), H', ⟨by first | omega | exact Nat.le_refl _⟩, ⟨by (with_reducible repeat (first | apply rA | apply rN | apply rD)); exact Kd.R_mono HO436.out (fun _ hk => hk.2)⟩, ⟨by (with_reducible repeat (first | apply rA | apply rN | apply rD)); exact Kd.R_mono HO444.out (fun _ hk => hk.2)⟩, ⟨by (with_reducible repeat (first | apply rA | apply rN | apply rD)); exact Kd.R_mono HO440.out (fun _ hk => trivial)⟩, ⟨by (with_reducible repeat (first | refine kN ?_ _ | refine kD ?_ | refine kA ?_ _)); exact BK429.out⟩, ⟨by (with_reducible repeat (first | refine kN ?_ _ | refine kD ?_ | refine kA ?_ _)); exact BK441.out⟩, ⟨by repeat (first | (with_reducible first | exact HB.out | apply bA | apply bN | apply bD | refine below_set ?_ GE429.out | refine below_set ?_ GE441.out) | exact HB.out)⟩⟩
   ·replace c27 := Bool.eq_false_iff.mpr c27
    subst c27
    have H1 : (laws_FnExactSolutions.j0 k t434 t437 t442 t445 true l0_0 t438) = some r := by rw [if_neg (show ¬ (false = true) by decide)] at H; exact H
    clear H
    have H := H1
    clear H1
    have H' := Aside0.mk H
    clear H
    obtain ⟨Ao31, co31, eo31⟩ := Kd.R_slice HO444.out
    subst eo31
    obtain ⟨Ao32, co32, eo32⟩ := Kd.R_slice HO436.out
    subst eo32
    go_wp2_with (first | ((with_reducible refine gate_callee (f := 34) rfl ?_); refine goesL_ (some 34) rfl rfl Try.func34 (by kernel_rfl) rfl #[.slice Ao31 t442.length co31, .slice Ao32 t434.length co32] rfl ar_ ?_; (with_reducible refine (laws_eqStarS.calls k _ _ t442 _ _ t434 false _ ?side1 ?side2 ?side3 ?side4 A26.out).mono ?_); (case side1 => repeat (first | exact (Kd.R_reads' HO444.out).2.2 | (with_reducible refine Kd.C_alloc ?_ _) | (with_reducible refine Kd.C_drewN ?_ _) | (with_reducible refine Kd.C_drew ?_))); (case side2 => exact (Kd.R_reads' HO444.out).2.1); (case side3 => repeat (first | exact (Kd.R_reads' HO436.out).2.2 | (with_reducible refine Kd.C_alloc ?_ _) | (with_reducible refine Kd.C_drewN ?_ _) | (with_reducible refine Kd.C_drew ?_))); (case side4 => exact (Kd.R_reads' HO436.out).2.1); rintro e w33 ⟨rfl, hb⟩; refine ⟨_, rfl, ?_⟩; have n0_ := Aside0.mk (Kd.R_below (by (with_reducible repeat (first | apply rA | apply rN | apply rD)); exact HO433.out) hb); have n1_ := Aside0.mk (Kd.R_below (by (with_reducible repeat (first | apply rA | apply rN | apply rD)); exact HO436.out) hb); have n2_ := Aside0.mk (Kd.R_below (by (with_reducible repeat (first | apply rA | apply rN | apply rD)); exact HO440.out) hb); have n3_ := Aside0.mk (Kd.R_below (by (with_reducible repeat (first | apply rA | apply rN | apply rD)); exact HO444.out) hb); have n4_ := Aside0.mk (blk_below (g := gb429) (o := .cells #[.slice A0_0 l0_0.length c0_0] 24 (0, 0)) (kx_ BK429.out) hb); have n5_ := Aside0.mk (blk_below (g := gb441) (o := .cells #[.slice Ao22 t438.length co22] 30 (0, 0)) (kx_ BK441.out) hb); have n6_ := Aside0.mk (below_step (by repeat (first | (with_reducible first | exact HB.out | apply bA | apply bN | apply bD | refine below_set ?_ GE429.out | refine below_set ?_ GE441.out) | exact HB.out)) hb); clear HO433; clear HO436; clear HO440; clear HO444; clear BK429; clear BK441; clear HB; have HO433 := n0_; have HO436 := n1_; have HO440 := n2_; have HO444 := n3_; have BK429 := n4_; have BK441 := n5_; have HB := n6_; clear n0_ n1_ n2_ n3_ n4_ n5_ n6_; (try clear hb); (try clear hb2); (try clear hk); (try clear hi)))
    go_meet
    case rel => exact ⟨_, (true), (by first | rfl | (simp; done) | (simp [*]; done)), H', ⟨by first | omega | exact Nat.le_refl _⟩, ⟨by (with_reducible repeat (first | apply rA | apply rN | apply rD)); exact Kd.R_mono HO436.out (fun _ hk => hk.2)⟩, ⟨by (with_reducible repeat (first | apply rA | apply rN | apply rD)); exact Kd.R_mono HO444.out (fun _ hk => hk.2)⟩, ⟨by (with_reducible repeat (first | apply rA | apply rN | apply rD)); exact Kd.R_mono HO440.out (fun _ hk => trivial)⟩, ⟨by (with_reducible repeat (first | refine kN ?_ _ | refine kD ?_ | refine kA ?_ _)); exact BK429.out⟩, ⟨by (with_reducible repeat (first | refine kN ?_ _ | refine kD ?_ | refine kA ?_ _)); exact BK441.out⟩, ⟨by repeat (first | (with_reducible first | exact HB.out | apply bA | apply bN | apply bD | refine below_set ?_ GE429.out | refine below_set ?_ GE441.out) | exact HB.out)⟩⟩
  case rest =>
   clear HC11
   try clear c1
   try clear c2
   try clear p2
   try clear c3
   try clear c3b0
   try clear c9
   try clear c12
   try clear c14
   try clear c23
   try clear c27
   try clear c32
   try clear c33
   try clear hcz13_0
   try clear hcz15_0
   try clear hcz19_0
   try clear hcz24_0
   try clear hcz5_0
   try clear hfz13_0
   try clear hfz15_0
   try clear hfz19_0
   try clear hfz24_0
   try clear hfz5_0
   obtain ⟨kq, x40_10, rfl, HA, HJ10, HO_4, HO_7, HO_442000, BK429, BK441, HB⟩ := hcut
   cases kq with
   | zero => exact absurd HA.out (by simp [laws_FnExactSolutions.j0])
   | succ kj10 =>
    have H := HA.out
    clear HA
    simp only [laws_FnExactSolutions.j0] at H
    by_cases c34 : x40_10 = true
    ·subst c34
     have H1 : (some false) = some r := by rw [if_pos rfl] at H; exact H
     clear H
     have H := H1
     clear H1
     obtain rfl := oI H
     go_wp2
     go_ret
     exact ⟨by first | rfl | (simp [errW_none, errW_some] <;> rfl) | (simp [*, errW_none, errW_some] <;> rfl), by repeat (first | (with_reducible first | exact HB.out | apply bA | apply bN | apply bD | refine below_set ?_ GE429.out | refine below_set ?_ GE441.out) | exact HB.out)⟩
    ·replace c34 := Bool.eq_false_iff.mpr c34
     subst c34
     have H1 : ((laws_toPuzzle.f kj10 l0_0).bind fun t447 => ((laws_eqPuzzle.f kj10 t438 t447).bind fun t450 => (if t450 = true then ((laws_markPuzzle.f kj10 t438 1).bind fun bt451 => (if bt451.1 < 0 then (laws_FnExactSolutions.j1 kj10 t434 t437 t442 true l0_0) else ((laws_eqStarS.f kj10 t442 t434).bind fun t453 => (if t453 = true then (laws_FnExactSolutions.j1 kj10 t434 t437 t442 (t445 != t437) l0_0) else (laws_FnExactSolutions.j1 kj10 t434 t437 t442 true l0_0))))) else (some false)))) = some r := by rw [if_neg (show ¬ (false = true) by decide)] at H; exact H
     clear H
     have H := H1
     clear H1
     replace H := bI H
     obtain ⟨t447, A350, H⟩ := H
     replace H : ((laws_eqPuzzle.f kj10 t438 t447).bind fun t450 => (if t450 = true then ((laws_markPuzzle.f kj10 t438 1).bind fun bt451 => (if bt451.1 < 0 then (laws_FnExactSolutions.j1 kj10 t434 t437 t442 true l0_0) else ((laws_eqStarS.f kj10 t442 t434).bind fun t453 => (if t453 = true then (laws_FnExactSolutions.j1 kj10 t434 t437 t442 (t445 != t437) l0_0) else (laws_FnExactSolutions.j1 kj10 t434 t437 t442 true l0_0))))) else (some false))) = some r := H
     have A35 := Aside0.mk A350
     clear A350
     replace H := bI H
     obtain ⟨t450, A360, H⟩ := H
     replace H : (if t450 = true then ((laws_markPuzzle.f kj10 t438 1).bind fun bt451 => (if bt451.1 < 0 then (laws_FnExactSolutions.j1 kj10 t434 t437 t442 true l0_0) else ((laws_eqStarS.f kj10 t442 t434).bind fun t453 => (if t453 = true then (laws_FnExactSolutions.j1 kj10 t434 t437 t442 (t445 != t437) l0_0) else (laws_FnExactSolutions.j1 kj10 t434 t437 t442 true l0_0))))) else (some false)) = some r := H
     have A36 := Aside0.mk A360
     clear A360
     by_cases c37 : t450 = true
     ·subst c37
      have H1 : ((laws_markPuzzle.f kj10 t438 1).bind fun bt451 => (if bt451.1 < 0 then (laws_FnExactSolutions.j1 kj10 t434 t437 t442 true l0_0) else ((laws_eqStarS.f kj10 t442 t434).bind fun t453 => (if t453 = true then (laws_FnExactSolutions.j1 kj10 t434 t437 t442 (t445 != t437) l0_0) else (laws_FnExactSolutions.j1 kj10 t434 t437 t442 true l0_0))))) = some r := by rw [if_pos rfl] at H; exact H
      clear H
      have H := H1
      clear H1
      replace H := bI H
      obtain ⟨⟨t451, t452⟩, A380, H⟩ := H
      replace H : (if t451 < 0 then (laws_FnExactSolutions.j1 kj10 t434 t437 t442 true l0_0) else ((laws_eqStarS.f kj10 t442 t434).bind fun t453 => (if t453 = true then (laws_FnExactSolutions.j1 kj10 t434 t437 t442 (t445 != t437) l0_0) else (laws_FnExactSolutions.j1 kj10 t434 t437 t442 true l0_0)))) = some r := H
      have A38 := Aside0.mk A380
      clear A380
      have HC39 := Aside0.mk H
      clear H
      try go_wp2
      have n0_ := Aside0.mk (Kd.R_drew HO_4.out)
      have n1_ := Aside0.mk (Kd.R_drew HO_7.out)
      have n2_ := Aside0.mk (Kd.R_drew HO_442000.out)
      have n3_ := Aside0.mk (blk_drew BK429.out)
      have n4_ := Aside0.mk (blk_drew BK441.out)
      have n5_ := Aside0.mk (below_drew1 HB.out)
      clear HO_4
      clear HO_7
      clear HO_442000
      clear BK429
      clear BK441
      clear HB
      have HO_4 := n0_
      have HO_7 := n1_
      have HO_442000 := n2_
      have BK429 := n3_
      have BK441 := n4_
      have HB := n5_
      clear n0_ n1_ n2_ n3_ n4_ n5_
      refine start_ (n := 5) (S := fun w' => w'.cell? ⟨gb441, 0, none⟩ = some (.slice Ao22 t438.length co22) ∧ w'.cell? ⟨gb429, 0, none⟩ = some (.slice A0_0 l0_0.length c0_0)) (ds := []) #[false, false, false, false, false] (by kernel_rfl) rfl rfl ⟨(blk_cell BK441.out 0).trans rfl, (blk_cell BK429.out 0).trans rfl⟩ (fun hHeld => ?_)
      generalize wc.drew = w40 at HO_4 HO_7 HO_442000 BK429 BK441 HB hHeld ⊢
      refine take_ (i := 0) (N := some 41) (v := ?_) (a' := ?_) #[true, false, false, false, false] rfl rfl (by kernel_rfl) (fun _ _ _ h => h) (Or.inl ⟨by rfl, ?_⟩) hHeld ?_ ?_
      rotate_left
      ·rintro w' ⟨s0, s1⟩
       go_simp
       with_reducible rfl
      rotate_left
      ·simp only [Act.put, sT, sZ, sS, i64_w, i32_w]
       rfl
      refine take_ (i := 1) (N := some 42) (v := ?_) (a' := ?_) #[true, true, false, false, false] rfl rfl (by kernel_rfl) (fun _ _ _ h => h) (Or.inl ⟨by rfl, ?_⟩) hHeld ?_ ?_
      rotate_left
      ·rintro w' ⟨s0, s1⟩
       go_simp
       with_reducible rfl
      rotate_left
      ·simp only [Act.put, sT, sZ, sS, i64_w, i32_w]
       rfl
      refine one_ (i := 2) (N := some 43) #[true, true, true, false, false] rfl rfl (by kernel_rfl) (by decide) (fun K hK => ?_)
      refine goes_ Try.func14 (by kernel_rfl) rfl #[.agg #[.slice A0_0 l0_0.length c0_0]] (by rfl) rfl rfl ar_ ?_
      with_reducible refine (laws_toPuzzle.calls kj10 _ _ l0_0 t447 _ ?side1 ?side2 A35.out).mono ?_
      (case side1 => repeat (first | exact (Kd.C_below HR0_0.out HB.out) | (with_reducible refine Kd.C_alloc ?_ _) | (with_reducible refine Kd.C_drewN ?_ _) | (with_reducible refine Kd.C_drew ?_)))
      (case side2 => exact HC0_0.out)
      rintro e w41 ⟨v448, rfl, ho0, hb⟩
      refine ⟨_, rfl, ?_⟩
      have n0_ := Aside0.mk (Kd.R_below (by (with_reducible repeat (first | apply rA | apply rN | apply rD)); exact HO_4.out) hb)
      have n1_ := Aside0.mk (Kd.R_below (by (with_reducible repeat (first | apply rA | apply rN | apply rD)); exact HO_7.out) hb)
      have n2_ := Aside0.mk (Kd.R_elder' (by (with_reducible repeat (first | apply rA | apply rN | apply rD)); exact HO_442000.out) (Kd.R_base ho0) hb)
      have n3_ := Aside0.mk (Kd.R_lower (Kd.R_new' ho0 (Kd.R_lt (by (with_reducible repeat (first | apply rA | apply rN | apply rD)); exact HO_442000.out))) (below_size (by repeat (first | (with_reducible first | exact HB.out | apply bA | apply bN | apply bD | refine below_set ?_ GE429.out | refine below_set ?_ GE441.out) | exact HB.out))))
      have n4_ := Aside0.mk (blk_below (g := gb429) (o := .cells #[.slice A0_0 l0_0.length c0_0] 24 (0, 0)) (kx_ BK429.out) hb)
      have n5_ := Aside0.mk (blk_below (g := gb441) (o := .cells #[.slice Ao22 t438.length co22] 30 (0, 0)) (kx_ BK441.out) hb)
      have n6_ := Aside0.mk (below_step (by repeat (first | (with_reducible first | exact HB.out | apply bA | apply bN | apply bD | refine below_set ?_ GE429.out | refine below_set ?_ GE441.out) | exact HB.out)) hb)
      clear HO_4
      clear HO_7
      clear HO_442000
      clear BK429
      clear BK441
      clear HB
      have HO_4 := n0_
      have HO_7 := n1_
      have HO_442000 := n2_
      have HO449 := n3_
      have BK429 := n4_
      have BK441 := n5_
      have HB := n6_
      clear n0_ n1_ n2_ n3_ n4_ n5_ n6_
      (try clear hb)
      (try clear hb2)
      (try clear hk)
      (try clear hi)
      (try clear ho0)
      obtain ⟨Ao42, co42, eo42⟩ := Kd.R_slice HO449.out
      (first | subst eo42 | (injection eo42 with f1_ f2_ f3_; have f4_ := f1_.symm; have f5_ := f3_.symm; clear f1_ f2_ f3_; subst f4_; subst f5_))
      refine hK.out _ _ ⟨(blk_cell BK441.out 0).trans rfl, (blk_cell BK429.out 0).trans rfl⟩ (fun hHeld => ?_)
      clear hK K
      refine norm_ (a' := ?_) ?_ ?_
      rotate_left
      ·show Act.put _ (some 43) _ = _
       simp only [Act.put, sT, sZ, sS, i64_w, i32_w]
       rfl
      refine one_ (i := 3) (N := some 44) #[true, true, true, true, false] rfl rfl (by kernel_rfl) (by decide) (fun K hK => ?_)
      refine goes_ Try.func16 (by kernel_rfl) rfl #[.agg #[.slice Ao22 t438.length co22], .agg #[.slice Ao42 t447.length co42]] (by rfl) rfl rfl ar_ ?_
      with_reducible refine (laws_eqPuzzle.calls kj10 _ _ t438 _ _ t447 true _ ?side1 ?side2 ?side3 ?side4 A36.out).mono ?_
      (case side1 => repeat (first | exact (Kd.R_reads' HO_442000.out).2.2 | (with_reducible refine Kd.C_alloc ?_ _) | (with_reducible refine Kd.C_drewN ?_ _) | (with_reducible refine Kd.C_drew ?_)))
      (case side2 => exact (Kd.R_reads' HO_442000.out).2.1)
      (case side3 => repeat (first | exact (Kd.R_reads' HO449.out).2.2 | (with_reducible refine Kd.C_alloc ?_ _) | (with_reducible refine Kd.C_drewN ?_ _) | (with_reducible refine Kd.C_drew ?_)))
      (case side4 => exact (Kd.R_reads' HO449.out).2.1)
      rintro e w43 ⟨rfl, hb⟩
      refine ⟨_, rfl, ?_⟩
      have n0_ := Aside0.mk (Kd.R_below (by (with_reducible repeat (first | apply rA | apply rN | apply rD)); exact HO_4.out) hb)
      have n1_ := Aside0.mk (Kd.R_below (by (with_reducible repeat (first | apply rA | apply rN | apply rD)); exact HO_7.out) hb)
      have n2_ := Aside0.mk (Kd.R_below (by (with_reducible repeat (first | apply rA | apply rN | apply rD)); exact HO_442000.out) hb)
      have n3_ := Aside0.mk (Kd.R_below (by (with_reducible repeat (first | apply rA | apply rN | apply rD)); exact HO449.out) hb)
      have n4_ := Aside0.mk (blk_below (g := gb429) (o := .cells #[.slice A0_0 l0_0.length c0_0] 24 (0, 0)) (kx_ BK429.out) hb)
      have n5_ := Aside0.mk (blk_below (g := gb441) (o := .cells #[.slice Ao22 t438.length co22] 30 (0, 0)) (kx_ BK441.out) hb)
      have n6_ := Aside0.mk (below_step (by repeat (first | (with_reducible first | exact HB.out | apply bA | apply bN | apply bD | refine below_set ?_ GE429.out | refine below_set ?_ GE441.out) | exact HB.out)) hb)
      clear HO_4
      clear HO_7
      clear HO_442000
      clear HO449
      clear BK429
      clear BK441
      clear HB
      have HO_4 := n0_
      have HO_7 := n1_
      have HO_442000 := n2_
      have HO449 := n3_
      have BK429 := n4_
      have BK441 := n5_
      have HB := n6_
      clear n0_ n1_ n2_ n3_ n4_ n5_ n6_
      (try clear hb)
      (try clear hb2)
      (try clear hk)
      (try clear hi)
      refine hK.out _ _ ⟨(blk_cell BK441.out 0).trans rfl, (blk_cell BK429.out 0).trans rfl⟩ (fun hHeld => ?_)
      clear hK K
      refine norm_ (a' := ?_) ?_ ?_
      rotate_left
      ·show Act.put _ (some 44) _ = _
       simp only [Act.put, sT, sZ, sS, i64_w, i32_w]
       rfl
      refine pure_ (i := 4) (N := some 45) (v := ?_) (a' := ?_) #[true, true, true, true, true] rfl rfl (by kernel_rfl) (fun _ _ _ h => h) (Or.inl ⟨by rfl, ?_⟩) ?_ ?_
      rotate_left
      ·intro w'
       go_simp
       with_reducible rfl
      rotate_left
      ·simp only [Act.put, sT, sZ, sS, i64_w, i32_w]
       rfl
      refine done_ (by kernel_rfl) ?_
      have hnb44 := NB441_429.out
      have hnc44 := NB429_441.out
      have hcz45_0 : w43.cell? ⟨gb441, 0, none⟩ = some (.slice Ao22 t438.length co22) := (blk_cell BK441.out 0).trans rfl
      have hfz45_0 := blk_frozen BK441.out 0
      go_upto_region 14 with (first | ((with_reducible refine gate_callee (f := 29) rfl ?_); refine goesL_ (some 48) rfl rfl Try.func29 (by kernel_rfl) rfl #[.agg #[.slice Ao22 t438.length co22], .int .i64 1] rfl ar_ ?_; (with_reducible refine (laws_markPuzzle.calls kj10 (fun k_ => some k_ = (.slice Ao22 t438.length co22 : Value).ownBlock) (.slice Ao22 t438.length co22) t438 1 t451 t452 w _ ?side1 ?side2 A38.out).mono ?_); (case side1 => repeat (first | (with_reducible first | exact HB.out | apply bA | apply bN | apply bD | refine below_set ?_ GE429.out | refine below_set ?_ GE441.out) | exact HB.out)); (case side2 => exact Kd.R_tight rfl HO_442000.out); rintro e w46 ⟨rfl, hy0, hb, hkp⟩; refine ⟨_, rfl, ?_⟩; have n0_ := Aside0.mk (Kd.R_mono (ok' := fun k_ => some k_ ≠ (v443 : Value).ownBlock) (Kd.R_keptB ((Kd.R_apart' HO_4.out (Kd.R_typed HO_442000.out) (by decide))) hkp (fun k_ hk_ hs_ => (hk_.2) hs_)) (fun k_ hk_ => hk_.1.1)); have n1_ := Aside0.mk (Kd.R_mono (ok' := fun k_ => some k_ ≠ (v435 : Value).ownBlock) (Kd.R_keptB ((Kd.R_apart' HO_7.out (Kd.R_typed HO_442000.out) (by decide))) hkp (fun k_ hk_ hs_ => (hk_.2) hs_)) (fun k_ hk_ => hk_.1.1)); have n2_ := Aside0.mk (Kd.R_reok rfl hy0 (fun k_ e_ => HO_442000.out.1 k_ e_)); have n3_ := Aside0.mk (blk_kept (kx_ BK429.out) hkp (fun hs_ => (fun e_ => (Kd.R_ne HO_442000.out BK429.out (by decide)) e_) hs_)); have n4_ := Aside0.mk (blk_kept (kx_ BK441.out) hkp (fun hs_ => (fun e_ => (Kd.R_ne HO_442000.out BK441.out (by decide)) e_) hs_)); have n5_ := Aside0.mk (Kd.R_mono (ok' := fun k_ => some k_ ≠ (.slice Ao22 t438.length co22 : Value).ownBlock) (Kd.R_keptB (HO449.out) hkp (fun k_ hk_ hs_ => (hk_.2) hs_)) (fun k_ hk_ => hk_.1.2)); have n6_ := Aside0.mk (hb); clear HO_4; clear HO_7; clear HO_442000; clear BK429; clear BK441; clear HO449; clear HB; have HO_4 := n0_; have HO_7 := n1_; have HO_442000 := n2_; have BK429 := n3_; have BK441 := n4_; have HO449 := n5_; have HB := n6_; clear n0_ n1_ n2_ n3_ n4_ n5_ n6_; (try clear hb); (try clear hkp); (try clear hy0)))
      (try simp only [Act.put, List.setIfInBounds_toArray, List.set_cons_zero, List.set_cons_succ])
      go_cut [61] (fun v61 wc => ∃ (kq : Nat) (x61_38 : Bool), v61 = .bool x61_38 ∧ Aside0 (laws_FnExactSolutions.j1 kq t434 t437 t442 x61_38 l0_0 = some r) ∧ Aside0 (kq ≤ kj10) ∧ Aside0 (Kd.R k37 37 wc w.heap.size (fun k_ => some k_ ≠ (v443 : Value).ownBlock) v435 t434) ∧ Aside0 (Kd.R k37 37 wc w.heap.size (fun k_ => some k_ ≠ (v435 : Value).ownBlock) v443 t442) ∧ Aside0 (Kd.R k67 67 wc w.heap.size (fun _ => True) (.slice Ao22 t438.length co22) t452) ∧ Aside0 (wc.heap[gb429]? = some (.cells #[(.slice A0_0 l0_0.length c0_0)] 24 (0, 0))) ∧ Aside0 (wc.heap[gb441]? = some (.cells #[(.slice Ao22 t438.length co22)] 30 (0, 0))) ∧ Aside0 (Below w.heap.size w wc))
      case first =>
       have H := HC39.out
       clear HC39
       by_cases c47 : t451 < 0
       ·rw [if_pos c47] at H
        have c47b0 : decide (t451 < 0) = true := decide_eq_true c47
        clear c47
        (first | rw [c47b0] | (simp only [i64_w, i32_w]; rw [c47b0]) | skip)
        have H' := Aside0.mk H
        clear H
        go_wp2
        go_meet
        case rel => exact ⟨_, (true), (by first | rfl | (simp; done) | (simp [*]; done)), H', ⟨by have := HJ10.out; first | omega | exact Nat.le_refl _⟩, ⟨by (with_reducible repeat (first | apply rA | apply rN | apply rD)); exact HO_4.out⟩, ⟨by (with_reducible repeat (first | apply rA | apply rN | apply rD)); exact HO_7.out⟩, ⟨by (with_reducible repeat (first | apply rA | apply rN | apply rD)); exact Kd.R_mono HO_442000.out (fun _ hk => trivial)⟩, ⟨by (with_reducible repeat (first | refine kN ?_ _ | refine kD ?_ | refine kA ?_ _)); exact BK429.out⟩, ⟨by (with_reducible repeat (first | refine kN ?_ _ | refine kD ?_ | refine kA ?_ _)); exact BK441.out⟩, ⟨by repeat (first | (with_reducible first | exact HB.out | apply bA | apply bN | apply bD | refine below_set ?_ GE429.out | refine below_set ?_ GE441.out) | exact HB.out)⟩⟩
       ·rw [if_neg c47] at H
        have c47b0 : decide (t451 < 0) = false := decide_eq_false c47
        clear c47
        (first | rw [c47b0] | (simp only [i64_w, i32_w]; rw [c47b0]) | skip)
        replace H := bI H
        obtain ⟨t453, A480, H⟩ := H
        replace H : (if t453 = true then (laws_FnExactSolutions.j1 kj10 t434 t437 t442 (t445 != t437) l0_0) else (laws_FnExactSolutions.j1 kj10 t434 t437 t442 true l0_0)) = some r := H
        have A48 := Aside0.mk A480
        clear A480
        by_cases c49 : t453 = true
        ·subst c49
         have H1 : (laws_FnExactSolutions.j1 kj10 t434 t437 t442 (t445 != t437) l0_0) = some r := by rw [if_pos rfl] at H; exact H
         clear H
         have H := H1
         clear H1
         have H' := Aside0.mk H
         clear H
         obtain ⟨Ao50, co50, eo50⟩ := Kd.R_slice HO_7.out
         subst eo50
         obtain ⟨Ao51, co51, eo51⟩ := Kd.R_slice HO_4.out
         subst eo51
         go_wp2_with (first | (go_at_call 34; (with_reducible refine (laws_eqStarS.calls kj10 _ _ t442 _ _ t434 true _ ?side1 ?side2 ?side3 ?side4 A48.out).mono ?_); (case side1 => repeat (first | exact (Kd.R_reads' HO_7.out).2.2 | (with_reducible refine Kd.C_alloc ?_ _) | (with_reducible refine Kd.C_drewN ?_ _) | (with_reducible refine Kd.C_drew ?_))); (case side2 => exact (Kd.R_reads' HO_7.out).2.1); (case side3 => repeat (first | exact (Kd.R_reads' HO_4.out).2.2 | (with_reducible refine Kd.C_alloc ?_ _) | (with_reducible refine Kd.C_drewN ?_ _) | (with_reducible refine Kd.C_drew ?_))); (case side4 => exact (Kd.R_reads' HO_4.out).2.1); rintro e w52 ⟨rfl, hb⟩; have n0_ := Aside0.mk (Kd.R_below (by (with_reducible repeat (first | apply rA | apply rN | apply rD)); exact HO_4.out) hb); have n1_ := Aside0.mk (Kd.R_below (by (with_reducible repeat (first | apply rA | apply rN | apply rD)); exact HO_7.out) hb); have n2_ := Aside0.mk (Kd.R_below (by (with_reducible repeat (first | apply rA | apply rN | apply rD)); exact HO_442000.out) hb); have n3_ := Aside0.mk (Kd.R_below (by (with_reducible repeat (first | apply rA | apply rN | apply rD)); exact HO449.out) hb); have n4_ := Aside0.mk (blk_below (g := gb429) (o := .cells #[.slice A0_0 l0_0.length c0_0] 24 (0, 0)) (kx_ BK429.out) hb); have n5_ := Aside0.mk (blk_below (g := gb441) (o := .cells #[.slice Ao22 t438.length co22] 30 (0, 0)) (kx_ BK441.out) hb); have n6_ := Aside0.mk (below_step (by repeat (first | (with_reducible first | exact HB.out | apply bA | apply bN | apply bD | refine below_set ?_ GE429.out | refine below_set ?_ GE441.out) | exact HB.out)) hb); clear HO_4; clear HO_7; clear HO_442000; clear HO449; clear BK429; clear BK441; clear HB; have HO_4 := n0_; have HO_7 := n1_; have HO_442000 := n2_; have HO449 := n3_; have BK429 := n4_; have BK441 := n5_; have HB := n6_; clear n0_ n1_ n2_ n3_ n4_ n5_ n6_; (try clear hb); (try clear hb2); (try clear hk); (try clear hi)))
         go_meet
         case rel => exact ⟨_, ((t445 != t437)), (by first | rfl | (simp; done) | (simp [*]; done)), H', ⟨by have := HJ10.out; first | omega | exact Nat.le_refl _⟩, ⟨by (with_reducible repeat (first | apply rA | apply rN | apply rD)); exact HO_4.out⟩, ⟨by (with_reducible repeat (first | apply rA | apply rN | apply rD)); exact HO_7.out⟩, ⟨by (with_reducible repeat (first | apply rA | apply rN | apply rD)); exact Kd.R_mono HO_442000.out (fun _ hk => trivial)⟩, ⟨by (with_reducible repeat (first | refine kN ?_ _ | refine kD ?_ | refine kA ?_ _)); exact BK429.out⟩, ⟨by (with_reducible repeat (first | refine kN ?_ _ | refine kD ?_ | refine kA ?_ _)); exact BK441.out⟩, ⟨by repeat (first | (with_reducible first | exact HB.out | apply bA | apply bN | apply bD | refine below_set ?_ GE429.out | refine below_set ?_ GE441.out) | exact HB.out)⟩⟩
        ·replace c49 := Bool.eq_false_iff.mpr c49
         subst c49
         have H1 : (laws_FnExactSolutions.j1 kj10 t434 t437 t442 true l0_0) = some r := by rw [if_neg (show ¬ (false = true) by decide)] at H; exact H
         clear H
         have H := H1
         clear H1
         have H' := Aside0.mk H
         clear H
         obtain ⟨Ao53, co53, eo53⟩ := Kd.R_slice HO_7.out
         subst eo53
         obtain ⟨Ao54, co54, eo54⟩ := Kd.R_slice HO_4.out
         subst eo54
         go_wp2_with (first | (go_at_call 34; (with_reducible refine (laws_eqStarS.calls kj10 _ _ t442 _ _ t434 false _ ?side1 ?side2 ?side3 ?side4 A48.out).mono ?_); (case side1 => repeat (first | exact (Kd.R_reads' HO_7.out).2.2 | (with_reducible refine Kd.C_alloc ?_ _) | (with_reducible refine Kd.C_drewN ?_ _) | (with_reducible refine Kd.C_drew ?_))); (case side2 => exact (Kd.R_reads' HO_7.out).2.1); (case side3 => repeat (first | exact (Kd.R_reads' HO_4.out).2.2 | (with_reducible refine Kd.C_alloc ?_ _) | (with_reducible refine Kd.C_drewN ?_ _) | (with_reducible refine Kd.C_drew ?_))); (case side4 => exact (Kd.R_reads' HO_4.out).2.1); rintro e w55 ⟨rfl, hb⟩; have n0_ := Aside0.mk (Kd.R_below (by (with_reducible repeat (first | apply rA | apply rN | apply rD)); exact HO_4.out) hb); have n1_ := Aside0.mk (Kd.R_below (by (with_reducible repeat (first | apply rA | apply rN | apply rD)); exact HO_7.out) hb); have n2_ := Aside0.mk (Kd.R_below (by (with_reducible repeat (first | apply rA | apply rN | apply rD)); exact HO_442000.out) hb); have n3_ := Aside0.mk (Kd.R_below (by (with_reducible repeat (first | apply rA | apply rN | apply rD)); exact HO449.out) hb); have n4_ := Aside0.mk (blk_below (g := gb429) (o := .cells #[.slice A0_0 l0_0.length c0_0] 24 (0, 0)) (kx_ BK429.out) hb); have n5_ := Aside0.mk (blk_below (g := gb441) (o := .cells #[.slice Ao22 t438.length co22] 30 (0, 0)) (kx_ BK441.out) hb); have n6_ := Aside0.mk (below_step (by repeat (first | (with_reducible first | exact HB.out | apply bA | apply bN | apply bD | refine below_set ?_ GE429.out | refine below_set ?_ GE441.out) | exact HB.out)) hb); clear HO_4; clear HO_7; clear HO_442000; clear HO449; clear BK429; clear BK441; clear HB; have HO_4 := n0_; have HO_7 := n1_; have HO_442000 := n2_; have HO449 := n3_; have BK429 := n4_; have BK441 := n5_; have HB := n6_; clear n0_ n1_ n2_ n3_ n4_ n5_ n6_; (try clear hb); (try clear hb2); (try clear hk); (try clear hi)))
         go_meet
         case rel => exact ⟨_, (true), (by first | rfl | (simp; done) | (simp [*]; done)), H', ⟨by have := HJ10.out; first | omega | exact Nat.le_refl _⟩, ⟨by (with_reducible repeat (first | apply rA | apply rN | apply rD)); exact HO_4.out⟩, ⟨by (with_reducible repeat (first | apply rA | apply rN | apply rD)); exact HO_7.out⟩, ⟨by (with_reducible repeat (first | apply rA | apply rN | apply rD)); exact Kd.R_mono HO_442000.out (fun _ hk => trivial)⟩, ⟨by (with_reducible repeat (first | refine kN ?_ _ | refine kD ?_ | refine kA ?_ _)); exact BK429.out⟩, ⟨by (with_reducible repeat (first | refine kN ?_ _ | refine kD ?_ | refine kA ?_ _)); exact BK441.out⟩, ⟨by repeat (first | (with_reducible first | exact HB.out | apply bA | apply bN | apply bD | refine below_set ?_ GE429.out | refine below_set ?_ GE441.out) | exact HB.out)⟩⟩
      case rest =>
       clear HC39
       try clear c1
       try clear c2
       try clear p2
       try clear c3
       try clear c3b0
       try clear c4
       try clear c9
       try clear c12
       try clear c14
       try clear c16
       try clear c23
       try clear c27
       try clear c29
       try clear c32
       try clear c33
       try clear c34
       try clear c37
       try clear c44
       try clear c47
       try clear c47b0
       try clear c49
       try clear hcz13_0
       try clear hcz15_0
       try clear hcz19_0
       try clear hcz24_0
       try clear hcz45_0
       try clear hcz5_0
       try clear hfz13_0
       try clear hfz15_0
       try clear hfz19_0
       try clear hfz24_0
       try clear hfz45_0
       try clear hfz5_0
       try clear p2
       obtain ⟨kq, x61_38, rfl, HA, HJ38, HO_4, HO_7, HO_442000, BK429, BK441, HB⟩ := hcut
       have hl442000_38 := (Kd.R_reads' HO_442000.out).1
       rw [hl442000_38] at HO_442000
       (try simp only [hl442000_38])
       (try simp only [hl442000_38] at BK429)
       (try simp only [hl442000_38] at BK441)
       (try simp only [hl442000_38] at HO_4)
       (try simp only [hl442000_38] at HO_7)
       cases kq with
       | zero => exact absurd HA.out (by simp [laws_FnExactSolutions.j1])
       | succ kj38 =>
        have H := HA.out
        clear HA
        simp only [laws_FnExactSolutions.j1] at H
        by_cases c56 : x61_38 = true
        ·subst c56
         have H1 : (some false) = some r := by rw [if_pos rfl] at H; exact H
         clear H
         have H := H1
         clear H1
         obtain rfl := oI H
         go_wp2
         go_ret
         exact ⟨by first | rfl | (simp [errW_none, errW_some] <;> rfl) | (simp [*, errW_none, errW_some] <;> rfl), by repeat (first | (with_reducible first | exact HB.out | apply bA | apply bN | apply bD | refine below_set ?_ GE429.out | refine below_set ?_ GE441.out) | exact HB.out)⟩
        ·replace c56 := Bool.eq_false_iff.mpr c56
         subst c56
         have H1 : ((laws_markStarS.f kj38 t442 1).bind fun bt454 => ((laws_heldStarS.f kj38 bt454.2 1).bind fun t456 => (if t456 < 0 then (some false) else (if t456 = bt454.1 then ((laws_toPuzzle.f kj38 l0_0).bind fun t457 => ((impl_Solutions.f t457).bind fun bt460 => ((laws_eqStarS.f kj38 bt460.1 t434).bind fun t464 => (if t464 = true then (laws_FnExactSolutions.j2 kj38 bt454.2 bt454.1 (bt460.2 != t437)) else (laws_FnExactSolutions.j2 kj38 bt454.2 bt454.1 true))))) else (some false))))) = some r := by rw [if_neg (show ¬ (false = true) by decide)] at H; exact H
         clear H
         have H := H1
         clear H1
         replace H := bI H
         obtain ⟨⟨t454, t455⟩, A570, H⟩ := H
         replace H : ((laws_heldStarS.f kj38 t455 1).bind fun t456 => (if t456 < 0 then (some false) else (if t456 = t454 then ((laws_toPuzzle.f kj38 l0_0).bind fun t457 => ((impl_Solutions.f t457).bind fun bt460 => ((laws_eqStarS.f kj38 bt460.1 t434).bind fun t464 => (if t464 = true then (laws_FnExactSolutions.j2 kj38 t455 t454 (bt460.2 != t437)) else (laws_FnExactSolutions.j2 kj38 t455 t454 true))))) else (some false)))) = some r := H
         have A57 := Aside0.mk A570
         clear A570
         replace H := bI H
         obtain ⟨t456, A580, H⟩ := H
         replace H : (if t456 < 0 then (some false) else (if t456 = t454 then ((laws_toPuzzle.f kj38 l0_0).bind fun t457 => ((impl_Solutions.f t457).bind fun bt460 => ((laws_eqStarS.f kj38 bt460.1 t434).bind fun t464 => (if t464 = true then (laws_FnExactSolutions.j2 kj38 t455 t454 (bt460.2 != t437)) else (laws_FnExactSolutions.j2 kj38 t455 t454 true))))) else (some false))) = some r := H
         have A58 := Aside0.mk A580
         clear A580
         by_cases c59 : t456 < 0
         ·rw [if_pos c59] at H
          have c59b0 : decide (t456 < 0) = true := decide_eq_true c59
          clear c59
          obtain rfl := oI H
          obtain ⟨Ao60, co60, eo60⟩ := Kd.R_slice HO_7.out
          subst eo60
          go_wp2_with (first | ((with_reducible refine gate_callee (f := 35) rfl ?_); refine goesL_ (some 64) rfl rfl Try.func35 (by kernel_rfl) rfl #[.slice Ao60 t442.length co60, .int .i64 1] rfl ar_ ?_; (with_reducible refine (laws_markStarS.calls kj38 (fun k_ => some k_ = (.slice Ao60 t442.length co60 : Value).ownBlock) (.slice Ao60 t442.length co60) t442 1 t454 t455 w _ ?side1 ?side2 A57.out).mono ?_); (case side1 => repeat (first | (with_reducible first | exact HB.out | apply bA | apply bN | apply bD | refine below_set ?_ GE429.out | refine below_set ?_ GE441.out) | exact HB.out)); (case side2 => exact Kd.R_tight rfl HO_7.out); rintro e w61 ⟨rfl, hy0, hb, hkp⟩; refine ⟨_, rfl, ?_⟩; have n0_ := Aside0.mk (Kd.R_mono (ok' := fun k_ => some k_ ≠ (.slice Ao60 t442.length co60 : Value).ownBlock) (Kd.R_keptB (HO_4.out) hkp (fun k_ hk_ hs_ => (hk_) hs_)) (fun k_ hk_ => hk_.1)); have n1_ := Aside0.mk (Kd.R_reok rfl hy0 (fun k_ e_ => HO_7.out.1 k_ e_)); have n2_ := Aside0.mk (Kd.R_mono (ok' := fun k_ => True) (Kd.R_keptB ((Kd.R_apart' HO_442000.out (Kd.R_typed HO_7.out) (by decide))) hkp (fun k_ hk_ hs_ => (hk_.2) hs_)) (fun k_ hk_ => trivial)); have n3_ := Aside0.mk (blk_kept (kx_ BK429.out) hkp (fun hs_ => (fun e_ => (Kd.R_ne HO_7.out BK429.out (by decide)) e_) hs_)); have n4_ := Aside0.mk (blk_kept (kx_ BK441.out) hkp (fun hs_ => (fun e_ => (Kd.R_ne HO_7.out BK441.out (by decide)) e_) hs_)); have n5_ := Aside0.mk (hb); clear HO_4; clear HO_7; clear HO_442000; clear BK429; clear BK441; clear HB; have HO_4 := n0_; have HO_7 := n1_; have HO_442000 := n2_; have BK429 := n3_; have BK441 := n4_; have HB := n5_; clear n0_ n1_ n2_ n3_ n4_ n5_; (try clear hb); (try clear hkp); (try clear hy0)) | ((with_reducible refine gate_callee (f := 36) rfl ?_); refine goesL_ (some 67) rfl rfl Try.func36 (by kernel_rfl) rfl #[.slice Ao60 t455.length co60, .int .i64 1] rfl (by (try simp only [mT, mC, mN]); first | done | (rw [show t455.length = t442.length from (Kd.R_reads' HO_7.out).1.symm] <;> rfl) | rfl | (simp only [List.length_drop, List.length_take]; rfl)) ?_; (with_reducible refine (laws_heldStarS.calls kj38 _ _ t455 1 t456 _ ?side1 ?side2 A58.out).mono ?_); (case side1 => repeat (first | exact (Kd.R_reads' HO_7.out).2.2 | (with_reducible refine Kd.C_alloc ?_ _) | (with_reducible refine Kd.C_drewN ?_ _) | (with_reducible refine Kd.C_drew ?_))); (case side2 => rw [show t455.length = t442.length from (Kd.R_reads' HO_7.out).1.symm]; exact (Kd.R_reads' HO_7.out).2.1); rintro e w' ⟨rfl, ⟨nd, rfl⟩⟩; refine ⟨_, rfl, ?_⟩))
          go_ret
          exact ⟨by first | rfl | (simp [errW_none, errW_some] <;> rfl) | (simp [*, errW_none, errW_some] <;> rfl), by repeat (first | (with_reducible first | exact HB.out | apply bA | apply bN | apply bD | refine below_set ?_ GE429.out | refine below_set ?_ GE441.out) | exact HB.out)⟩
         ·rw [if_neg c59] at H
          have c59b0 : decide (t456 < 0) = false := decide_eq_false c59
          clear c59
          by_cases c62 : t456 = t454
          ·rw [if_pos c62] at H
           have c62b0 : (t456 == t454) = true := beq_iff_eq.mpr c62
           have c62b1 : (t456 != t454) = false := bne_eq_false_iff_eq.mpr c62
           clear c62
           replace H := bI H
           obtain ⟨t457, A630, H⟩ := H
           replace H : ((impl_Solutions.f t457).bind fun bt460 => ((laws_eqStarS.f kj38 bt460.1 t434).bind fun t464 => (if t464 = true then (laws_FnExactSolutions.j2 kj38 t455 t454 (bt460.2 != t437)) else (laws_FnExactSolutions.j2 kj38 t455 t454 true)))) = some r := H
           have A63 := Aside0.mk A630
           clear A630
           replace H := bI H
           obtain ⟨⟨t460, t463⟩, A640, H⟩ := H
           replace H : ((laws_eqStarS.f kj38 t460 t434).bind fun t464 => (if t464 = true then (laws_FnExactSolutions.j2 kj38 t455 t454 (t463 != t437)) else (laws_FnExactSolutions.j2 kj38 t455 t454 true))) = some r := H
           have A64 := Aside0.mk A640
           clear A640
           have HC65 := Aside0.mk H
           clear H
           obtain ⟨Ao66, co66, eo66⟩ := Kd.R_slice HO_7.out
           subst eo66
           go_upto_region 25 with (first | ((with_reducible refine gate_callee (f := 35) rfl ?_); refine goesL_ (some 64) rfl rfl Try.func35 (by kernel_rfl) rfl #[.slice Ao66 t442.length co66, .int .i64 1] rfl ar_ ?_; (with_reducible refine (laws_markStarS.calls kj38 (fun k_ => some k_ = (.slice Ao66 t442.length co66 : Value).ownBlock) (.slice Ao66 t442.length co66) t442 1 t454 t455 w _ ?side1 ?side2 A57.out).mono ?_); (case side1 => repeat (first | (with_reducible first | exact HB.out | apply bA | apply bN | apply bD | refine below_set ?_ GE429.out | refine below_set ?_ GE441.out) | exact HB.out)); (case side2 => exact Kd.R_tight rfl HO_7.out); rintro e w67 ⟨rfl, hy0, hb, hkp⟩; refine ⟨_, rfl, ?_⟩; have n0_ := Aside0.mk (Kd.R_mono (ok' := fun k_ => some k_ ≠ (.slice Ao66 t442.length co66 : Value).ownBlock) (Kd.R_keptB (HO_4.out) hkp (fun k_ hk_ hs_ => (hk_) hs_)) (fun k_ hk_ => hk_.1)); have n1_ := Aside0.mk (Kd.R_reok rfl hy0 (fun k_ e_ => HO_7.out.1 k_ e_)); have n2_ := Aside0.mk (Kd.R_mono (ok' := fun k_ => True) (Kd.R_keptB ((Kd.R_apart' HO_442000.out (Kd.R_typed HO_7.out) (by decide))) hkp (fun k_ hk_ hs_ => (hk_.2) hs_)) (fun k_ hk_ => trivial)); have n3_ := Aside0.mk (blk_kept (kx_ BK429.out) hkp (fun hs_ => (fun e_ => (Kd.R_ne HO_7.out BK429.out (by decide)) e_) hs_)); have n4_ := Aside0.mk (blk_kept (kx_ BK441.out) hkp (fun hs_ => (fun e_ => (Kd.R_ne HO_7.out BK441.out (by decide)) e_) hs_)); have n5_ := Aside0.mk (hb); clear HO_4; clear HO_7; clear HO_442000; clear BK429; clear BK441; clear HB; have HO_4 := n0_; have HO_7 := n1_; have HO_442000 := n2_; have BK429 := n3_; have BK441 := n4_; have HB := n5_; clear n0_ n1_ n2_ n3_ n4_ n5_; (try clear hb); (try clear hkp); (try clear hy0)) | ((with_reducible refine gate_callee (f := 36) rfl ?_); refine goesL_ (some 67) rfl rfl Try.func36 (by kernel_rfl) rfl #[.slice Ao66 t455.length co66, .int .i64 1] rfl (by (try simp only [mT, mC, mN]); first | done | (rw [show t455.length = t442.length from (Kd.R_reads' HO_7.out).1.symm] <;> rfl) | rfl | (simp only [List.length_drop, List.length_take]; rfl)) ?_; (with_reducible refine (laws_heldStarS.calls kj38 _ _ t455 1 t456 _ ?side1 ?side2 A58.out).mono ?_); (case side1 => repeat (first | exact (Kd.R_reads' HO_7.out).2.2 | (with_reducible refine Kd.C_alloc ?_ _) | (with_reducible refine Kd.C_drewN ?_ _) | (with_reducible refine Kd.C_drew ?_))); (case side2 => rw [show t455.length = t442.length from (Kd.R_reads' HO_7.out).1.symm]; exact (Kd.R_reads' HO_7.out).2.1); rintro e w' ⟨rfl, ⟨nd, rfl⟩⟩; refine ⟨_, rfl, ?_⟩; have hnb68 := NB429_441.out; have hnc68 := NB441_429.out; have hcz69_0 : w67.cell? ⟨gb429, 0, none⟩ = some (.slice A0_0 l0_0.length c0_0) := (blk_cell BK429.out 0).trans rfl; have hfz69_0 := blk_frozen BK429.out 0) | ((with_reducible refine gate_callee (f := 14) rfl ?_); refine goesL_ (some 75) rfl rfl Try.func14 (by kernel_rfl) rfl #[.agg #[.slice A0_0 l0_0.length c0_0]] rfl ar_ ?_; (with_reducible refine (laws_toPuzzle.calls kj38 _ _ l0_0 t457 _ ?side1 ?side2 A63.out).mono ?_); (case side1 => repeat (first | exact (Kd.C_below HR0_0.out (by repeat (first | (with_reducible first | exact HB.out | apply bA | apply bN | apply bD | refine below_set ?_ GE429.out | refine below_set ?_ GE441.out) | exact HB.out))) | (with_reducible refine Kd.C_alloc ?_ _) | (with_reducible refine Kd.C_drewN ?_ _) | (with_reducible refine Kd.C_drew ?_))); (case side2 => exact HC0_0.out); rintro e w70 ⟨v458, rfl, ho0, hb⟩; refine ⟨_, rfl, ?_⟩; have n0_ := Aside0.mk (Kd.R_below (by (with_reducible repeat (first | apply rA | apply rN | apply rD)); exact HO_4.out) hb); have n1_ := Aside0.mk (Kd.R_below (by (with_reducible repeat (first | apply rA | apply rN | apply rD)); exact HO_7.out) hb); have n2_ := Aside0.mk (Kd.R_elder' (by (with_reducible repeat (first | apply rA | apply rN | apply rD)); exact HO_442000.out) (Kd.R_base ho0) hb); have n3_ := Aside0.mk (Kd.R_lower (Kd.R_new' ho0 (Kd.R_lt (by (with_reducible repeat (first | apply rA | apply rN | apply rD)); exact HO_442000.out))) (below_size (by repeat (first | (with_reducible first | exact HB.out | apply bA | apply bN | apply bD | refine below_set ?_ GE429.out | refine below_set ?_ GE441.out) | exact HB.out)))); have n4_ := Aside0.mk (blk_below (g := gb429) (o := .cells #[.slice A0_0 l0_0.length c0_0] 24 (0, 0)) (kx_ BK429.out) hb); have n5_ := Aside0.mk (blk_below (g := gb441) (o := .cells #[.slice Ao22 t452.length co22] 30 (0, 0)) (kx_ BK441.out) hb); have n6_ := Aside0.mk (below_step (by repeat (first | (with_reducible first | exact HB.out | apply bA | apply bN | apply bD | refine below_set ?_ GE429.out | refine below_set ?_ GE441.out) | exact HB.out)) hb); clear HO_4; clear HO_7; clear HO_442000; clear BK429; clear BK441; clear HB; have HO_4 := n0_; have HO_7 := n1_; have HO_442000 := n2_; have HO459 := n3_; have BK429 := n4_; have BK441 := n5_; have HB := n6_; clear n0_ n1_ n2_ n3_ n4_ n5_ n6_; (try clear hb); (try clear hb2); (try clear hk); (try clear hi); (try clear ho0); obtain ⟨Ao71, co71, eo71⟩ := Kd.R_slice HO459.out; subst eo71) | ((with_reducible refine gate_callee (f := 33) rfl ?_); refine goesL_ (some 76) rfl rfl Try.func33 (by kernel_rfl) rfl #[.agg #[.slice Ao71 t457.length co71]] rfl ar_ ?_; (with_reducible refine (impl_Solutions.calls _ _ t457 t460 t463 _ ?side1 ?side2 A64.out).mono ?_); (case side1 => repeat (first | exact (Kd.R_reads' HO459.out).2.2 | (with_reducible refine Kd.C_alloc ?_ _) | (with_reducible refine Kd.C_drewN ?_ _) | (with_reducible refine Kd.C_drew ?_))); (case side2 => exact (Kd.R_reads' HO459.out).2.1); rintro e w72 ⟨v461, rfl, ho0, hb⟩; refine ⟨_, rfl, ?_⟩; have n0_ := Aside0.mk (Kd.R_elder' (by (with_reducible repeat (first | apply rA | apply rN | apply rD)); exact HO_4.out) (Kd.R_base ho0) hb); have n1_ := Aside0.mk (Kd.R_elder' (by (with_reducible repeat (first | apply rA | apply rN | apply rD)); exact HO_7.out) (Kd.R_base ho0) hb); have n2_ := Aside0.mk (Kd.R_below (by (with_reducible repeat (first | apply rA | apply rN | apply rD)); exact HO_442000.out) hb); have n3_ := Aside0.mk (Kd.R_below (by (with_reducible repeat (first | apply rA | apply rN | apply rD)); exact HO459.out) hb); have n4_ := Aside0.mk (Kd.R_lower (Kd.R_new' (Kd.R_new' ho0 (Kd.R_lt (by (with_reducible repeat (first | apply rA | apply rN | apply rD)); exact HO_4.out))) (Kd.R_lt (by (with_reducible repeat (first | apply rA | apply rN | apply rD)); exact HO_7.out))) (below_size (by repeat (first | (with_reducible first | exact HB.out | apply bA | apply bN | apply bD | refine below_set ?_ GE429.out | refine below_set ?_ GE441.out) | exact HB.out)))); have n5_ := Aside0.mk (blk_below (g := gb429) (o := .cells #[.slice A0_0 l0_0.length c0_0] 24 (0, 0)) (kx_ BK429.out) hb); have n6_ := Aside0.mk (blk_below (g := gb441) (o := .cells #[.slice Ao22 t452.length co22] 30 (0, 0)) (kx_ BK441.out) hb); have n7_ := Aside0.mk (below_step (by repeat (first | (with_reducible first | exact HB.out | apply bA | apply bN | apply bD | refine below_set ?_ GE429.out | refine below_set ?_ GE441.out) | exact HB.out)) hb); clear HO_4; clear HO_7; clear HO_442000; clear HO459; clear BK429; clear BK441; clear HB; have HO_4 := n0_; have HO_7 := n1_; have HO_442000 := n2_; have HO459 := n3_; have HO462 := n4_; have BK429 := n5_; have BK441 := n6_; have HB := n7_; clear n0_ n1_ n2_ n3_ n4_ n5_ n6_ n7_; (try clear hb); (try clear hb2); (try clear hk); (try clear hi); (try clear ho0)))
           (try simp only [Act.put, List.setIfInBounds_toArray, List.set_cons_zero, List.set_cons_succ])
           go_cut [87] (fun v87 wc => ∃ (kq : Nat) (x87_64 : Bool), v87 = .bool x87_64 ∧ Aside0 (laws_FnExactSolutions.j2 kq t455 t454 x87_64 = some r) ∧ Aside0 (kq ≤ kj38) ∧ Aside0 (Kd.R k37 37 wc w.heap.size (fun _ => True) (.slice Ao66 t442.length co66) t455) ∧ Aside0 (Kd.R k67 67 wc w.heap.size (fun _ => True) (.slice Ao22 t452.length co22) t452) ∧ Aside0 (wc.heap[gb429]? = some (.cells #[(.slice A0_0 l0_0.length c0_0)] 24 (0, 0))) ∧ Aside0 (wc.heap[gb441]? = some (.cells #[(.slice Ao22 t452.length co22)] 30 (0, 0))) ∧ Aside0 (Below w.heap.size w wc))
           case first =>
            have H := HC65.out
            clear HC65
            replace H := bI H
            obtain ⟨t464, A730, H⟩ := H
            replace H : (if t464 = true then (laws_FnExactSolutions.j2 kj38 t455 t454 (t463 != t437)) else (laws_FnExactSolutions.j2 kj38 t455 t454 true)) = some r := H
            have A73 := Aside0.mk A730
            clear A730
            by_cases c74 : t464 = true
            ·subst c74
             have H1 : (laws_FnExactSolutions.j2 kj38 t455 t454 (t463 != t437)) = some r := by rw [if_pos rfl] at H; exact H
             clear H
             have H := H1
             clear H1
             have H' := Aside0.mk H
             clear H
             obtain ⟨Ao75, co75, eo75⟩ := Kd.R_slice HO462.out
             subst eo75
             obtain ⟨Ao76, co76, eo76⟩ := Kd.R_slice HO_4.out
             subst eo76
             go_wp2_with (first | ((with_reducible refine gate_callee (f := 34) rfl ?_); refine goesL_ (some 81) rfl rfl Try.func34 (by kernel_rfl) rfl #[.slice Ao75 t460.length co75, .slice Ao76 t434.length co76] rfl ar_ ?_; (with_reducible refine (laws_eqStarS.calls kj38 _ _ t460 _ _ t434 true _ ?side1 ?side2 ?side3 ?side4 A73.out).mono ?_); (case side1 => repeat (first | exact (Kd.R_reads' HO462.out).2.2 | (with_reducible refine Kd.C_alloc ?_ _) | (with_reducible refine Kd.C_drewN ?_ _) | (with_reducible refine Kd.C_drew ?_))); (case side2 => exact (Kd.R_reads' HO462.out).2.1); (case side3 => repeat (first | exact (Kd.R_reads' HO_4.out).2.2 | (with_reducible refine Kd.C_alloc ?_ _) | (with_reducible refine Kd.C_drewN ?_ _) | (with_reducible refine Kd.C_drew ?_))); (case side4 => exact (Kd.R_reads' HO_4.out).2.1); rintro e w77 ⟨rfl, hb⟩; refine ⟨_, rfl, ?_⟩; have n0_ := Aside0.mk (Kd.R_below (by (with_reducible repeat (first | apply rA | apply rN | apply rD)); exact HO_4.out) hb); have n1_ := Aside0.mk (Kd.R_below (by (with_reducible repeat (first | apply rA | apply rN | apply rD)); exact HO_7.out) hb); have n2_ := Aside0.mk (Kd.R_below (by (with_reducible repeat (first | apply rA | apply rN | apply rD)); exact HO_442000.out) hb); have n3_ := Aside0.mk (Kd.R_below (by (with_reducible repeat (first | apply rA | apply rN | apply rD)); exact HO459.out) hb); have n4_ := Aside0.mk (Kd.R_below (by (with_reducible repeat (first | apply rA | apply rN | apply rD)); exact HO462.out) hb); have n5_ := Aside0.mk (blk_below (g := gb429) (o := .cells #[.slice A0_0 l0_0.length c0_0] 24 (0, 0)) (kx_ BK429.out) hb); have n6_ := Aside0.mk (blk_below (g := gb441) (o := .cells #[.slice Ao22 t452.length co22] 30 (0, 0)) (kx_ BK441.out) hb); have n7_ := Aside0.mk (below_step (by repeat (first | (with_reducible first | exact HB.out | apply bA | apply bN | apply bD | refine below_set ?_ GE429.out | refine below_set ?_ GE441.out) | exact HB.out)) hb); clear HO_4; clear HO_7; clear HO_442000; clear HO459; clear HO462; clear BK429; clear BK441; clear HB; have HO_4 := n0_; have HO_7 := n1_; have HO_442000 := n2_; have HO459 := n3_; have HO462 := n4_; have BK429 := n5_; have BK441 := n6_; have HB := n7_; clear n0_ n1_ n2_ n3_ n4_ n5_ n6_ n7_; (try clear hb); (try clear hb2); (try clear hk); (try clear hi)))
             go_meet
             case rel => exact ⟨_, ((t463 != t437)), (by first | rfl | (simp; done) | (simp [*]; done)), H', ⟨by have := HJ10.out; have := HJ38.out; first | omega | exact Nat.le_refl _⟩, ⟨by (try simp only [hl442000_38]); (with_reducible repeat (first | apply rA | apply rN | apply rD)); exact Kd.R_mono HO_7.out (fun _ hk => trivial)⟩, ⟨by (try simp only [hl442000_38]); (with_reducible repeat (first | apply rA | apply rN | apply rD)); exact Kd.R_mono HO_442000.out (fun _ hk => trivial)⟩, ⟨by (try simp only [hl442000_38]); (with_reducible repeat (first | refine kN ?_ _ | refine kD ?_ | refine kA ?_ _)); exact BK429.out⟩, ⟨by (try simp only [hl442000_38]); (with_reducible repeat (first | refine kN ?_ _ | refine kD ?_ | refine kA ?_ _)); exact BK441.out⟩, ⟨by repeat (first | (with_reducible first | exact HB.out | apply bA | apply bN | apply bD | refine below_set ?_ GE429.out | refine below_set ?_ GE441.out) | exact HB.out)⟩⟩
            ·replace c74 := Bool.eq_false_iff.mpr c74
             subst c74
             have H1 : (laws_FnExactSolutions.j2 kj38 t455 t454 true) = some r := by rw [if_neg (show ¬ (false = true) by decide)] at H; exact H
             clear H
             have H := H1
             clear H1
             have H' := Aside0.mk H
             clear H
             obtain ⟨Ao78, co78, eo78⟩ := Kd.R_slice HO462.out
             subst eo78
             obtain ⟨Ao79, co79, eo79⟩ := Kd.R_slice HO_4.out
             subst eo79
             go_wp2_with (first | ((with_reducible refine gate_callee (f := 34) rfl ?_); refine goesL_ (some 81) rfl rfl Try.func34 (by kernel_rfl) rfl #[.slice Ao78 t460.length co78, .slice Ao79 t434.length co79] rfl ar_ ?_; (with_reducible refine (laws_eqStarS.calls kj38 _ _ t460 _ _ t434 false _ ?side1 ?side2 ?side3 ?side4 A73.out).mono ?_); (case side1 => repeat (first | exact (Kd.R_reads' HO462.out).2.2 | (with_reducible refine Kd.C_alloc ?_ _) | (with_reducible refine Kd.C_drewN ?_ _) | (with_reducible refine Kd.C_drew ?_))); (case side2 => exact (Kd.R_reads' HO462.out).2.1); (case side3 => repeat (first | exact (Kd.R_reads' HO_4.out).2.2 | (with_reducible refine Kd.C_alloc ?_ _) | (with_reducible refine Kd.C_drewN ?_ _) | (with_reducible refine Kd.C_drew ?_))); (case side4 => exact (Kd.R_reads' HO_4.out).2.1); rintro e w80 ⟨rfl, hb⟩; refine ⟨_, rfl, ?_⟩; have n0_ := Aside0.mk (Kd.R_below (by (with_reducible repeat (first | apply rA | apply rN | apply rD)); exact HO_4.out) hb); have n1_ := Aside0.mk (Kd.R_below (by (with_reducible repeat (first | apply rA | apply rN | apply rD)); exact HO_7.out) hb); have n2_ := Aside0.mk (Kd.R_below (by (with_reducible repeat (first | apply rA | apply rN | apply rD)); exact HO_442000.out) hb); have n3_ := Aside0.mk (Kd.R_below (by (with_reducible repeat (first | apply rA | apply rN | apply rD)); exact HO459.out) hb); have n4_ := Aside0.mk (Kd.R_below (by (with_reducible repeat (first | apply rA | apply rN | apply rD)); exact HO462.out) hb); have n5_ := Aside0.mk (blk_below (g := gb429) (o := .cells #[.slice A0_0 l0_0.length c0_0] 24 (0, 0)) (kx_ BK429.out) hb); have n6_ := Aside0.mk (blk_below (g := gb441) (o := .cells #[.slice Ao22 t452.length co22] 30 (0, 0)) (kx_ BK441.out) hb); have n7_ := Aside0.mk (below_step (by repeat (first | (with_reducible first | exact HB.out | apply bA | apply bN | apply bD | refine below_set ?_ GE429.out | refine below_set ?_ GE441.out) | exact HB.out)) hb); clear HO_4; clear HO_7; clear HO_442000; clear HO459; clear HO462; clear BK429; clear BK441; clear HB; have HO_4 := n0_; have HO_7 := n1_; have HO_442000 := n2_; have HO459 := n3_; have HO462 := n4_; have BK429 := n5_; have BK441 := n6_; have HB := n7_; clear n0_ n1_ n2_ n3_ n4_ n5_ n6_ n7_; (try clear hb); (try clear hb2); (try clear hk); (try clear hi)))
             go_meet
             case rel => exact ⟨_, (true), (by first | rfl | (simp; done) | (simp [*]; done)), H', ⟨by have := HJ10.out; have := HJ38.out; first | omega | exact Nat.le_refl _⟩, ⟨by (try simp only [hl442000_38]); (with_reducible repeat (first | apply rA | apply rN | apply rD)); exact Kd.R_mono HO_7.out (fun _ hk => trivial)⟩, ⟨by (try simp only [hl442000_38]); (with_reducible repeat (first | apply rA | apply rN | apply rD)); exact Kd.R_mono HO_442000.out (fun _ hk => trivial)⟩, ⟨by (try simp only [hl442000_38]); (with_reducible repeat (first | refine kN ?_ _ | refine kD ?_ | refine kA ?_ _)); exact BK429.out⟩, ⟨by (try simp only [hl442000_38]); (with_reducible repeat (first | refine kN ?_ _ | refine kD ?_ | refine kA ?_ _)); exact BK441.out⟩, ⟨by repeat (first | (with_reducible first | exact HB.out | apply bA | apply bN | apply bD | refine below_set ?_ GE429.out | refine below_set ?_ GE441.out) | exact HB.out)⟩⟩
           case rest =>
            clear HC65
            try clear c1
            try clear c2
            try clear p2
            try clear c3
            try clear c3b0
            try clear c4
            try clear c5
            try clear c6
            try clear c7
            try clear c9
            try clear c12
            try clear c14
            try clear c16
            try clear c23
            try clear c27
            try clear c29
            try clear c32
            try clear c33
            try clear c34
            try clear c35
            try clear c36
            try clear c37
            try clear c44
            try clear c47
            try clear c47b0
            try clear c49
            try clear c56
            try clear c59
            try clear c59b0
            try clear c62
            try clear c62b0
            try clear c62b1
            try clear c68
            try clear c74
            try clear hcz13_0
            try clear hcz15_0
            try clear hcz19_0
            try clear hcz24_0
            try clear hcz45_0
            try clear hcz5_0
            try clear hcz69_0
            try clear hfz13_0
            try clear hfz15_0
            try clear hfz19_0
            try clear hfz24_0
            try clear hfz45_0
            try clear hfz5_0
            try clear hfz69_0
            try clear p2
            obtain ⟨kq, x87_64, rfl, HA, HJ64, HO_7, HO_442000, BK429, BK441, HB⟩ := hcut
            have hl7_64 := (Kd.R_reads' HO_7.out).1
            rw [hl7_64] at HO_7
            (try simp only [hl7_64])
            (try simp only [hl7_64] at BK429)
            (try simp only [hl7_64] at BK441)
            (try simp only [hl7_64] at HO_442000)
            cases kq with
            | zero => exact absurd HA.out (by simp [laws_FnExactSolutions.j2])
            | succ kj64 =>
             have H := HA.out
             clear HA
             simp only [laws_FnExactSolutions.j2] at H
             by_cases c81 : x87_64 = true
             ·subst c81
              have H1 : (some false) = some r := by rw [if_pos rfl] at H; exact H
              clear H
              have H := H1
              clear H1
              obtain rfl := oI H
              go_wp2
              go_ret
              exact ⟨by first | rfl | (simp [errW_none, errW_some] <;> rfl) | (simp [*, errW_none, errW_some] <;> rfl), by repeat (first | (with_reducible first | exact HB.out | apply bA | apply bN | apply bD | refine below_set ?_ GE429.out | refine below_set ?_ GE441.out) | exact HB.out)⟩
             ·replace c81 := Bool.eq_false_iff.mpr c81
              subst c81
              have H1 : ((laws_heldStarS.f kj64 t455 1).bind fun t465 => (if t465 < 0 then (some false) else (if t465 = t454 then (some true) else (some false)))) = some r := by rw [if_neg (show ¬ (false = true) by decide)] at H; exact H
              clear H
              have H := H1
              clear H1
              replace H := bI H
              obtain ⟨t465, A820, H⟩ := H
              replace H : (if t465 < 0 then (some false) else (if t465 = t454 then (some true) else (some false))) = some r := H
              have A82 := Aside0.mk A820
              clear A820
              by_cases c83 : t465 < 0
              ·rw [if_pos c83] at H
               have c83b0 : decide (t465 < 0) = true := decide_eq_true c83
               clear c83
               obtain rfl := oI H
               go_wp2_with (first | ((with_reducible refine gate_callee (f := 36) rfl ?_); refine goesL_ (some 90) rfl rfl Try.func36 (by kernel_rfl) rfl #[.slice Ao66 t455.length co66, .int .i64 1] rfl ar_ ?_; (with_reducible refine (laws_heldStarS.calls kj64 _ _ t455 1 t465 _ ?side1 ?side2 A82.out).mono ?_); (case side1 => repeat (first | exact (Kd.R_reads' HO_7.out).2.2 | (with_reducible refine Kd.C_alloc ?_ _) | (with_reducible refine Kd.C_drewN ?_ _) | (with_reducible refine Kd.C_drew ?_))); (case side2 => exact (Kd.R_reads' HO_7.out).2.1); rintro e w' ⟨rfl, ⟨nd, rfl⟩⟩; refine ⟨_, rfl, ?_⟩))
               go_ret
               exact ⟨by first | rfl | (simp [errW_none, errW_some] <;> rfl) | (simp [*, errW_none, errW_some] <;> rfl), by repeat (first | (with_reducible first | exact HB.out | apply bA | apply bN | apply bD | refine below_set ?_ GE429.out | refine below_set ?_ GE441.out) | exact HB.out)⟩
              ·rw [if_neg c83] at H
               have c83b0 : decide (t465 < 0) = false := decide_eq_false c83
               clear c83
               by_cases c84 : t465 = t454
               ·rw [if_pos c84] at H
                have c84b0 : (t465 == t454) = true := beq_iff_eq.mpr c84
                have c84b1 : (t465 != t454) = false := bne_eq_false_iff_eq.mpr c84
                clear c84
                obtain rfl := oI H
                go_wp2_with (first | ((with_reducible refine gate_callee (f := 36) rfl ?_); refine goesL_ (some 90) rfl rfl Try.func36 (by kernel_rfl) rfl #[.slice Ao66 t455.length co66, .int .i64 1] rfl ar_ ?_; (with_reducible refine (laws_heldStarS.calls kj64 _ _ t455 1 t465 _ ?side1 ?side2 A82.out).mono ?_); (case side1 => repeat (first | exact (Kd.R_reads' HO_7.out).2.2 | (with_reducible refine Kd.C_alloc ?_ _) | (with_reducible refine Kd.C_drewN ?_ _) | (with_reducible refine Kd.C_drew ?_))); (case side2 => exact (Kd.R_reads' HO_7.out).2.1); rintro e w' ⟨rfl, ⟨nd, rfl⟩⟩; refine ⟨_, rfl, ?_⟩))
                go_ret
                exact ⟨by first | rfl | (simp [errW_none, errW_some] <;> rfl) | (simp [*, errW_none, errW_some] <;> rfl), by repeat (first | (with_reducible first | exact HB.out | apply bA | apply bN | apply bD | refine below_set ?_ GE429.out | refine below_set ?_ GE441.out) | exact HB.out)⟩
               ·rw [if_neg c84] at H
                have c84b0 : (t465 == t454) = false := beq_eq_false_iff_ne.mpr c84
                have c84b1 : (t465 != t454) = true := bne_iff_ne.mpr c84
                obtain rfl := oI H
                go_wp2_with (first | ((with_reducible refine gate_callee (f := 36) rfl ?_); refine goesL_ (some 90) rfl rfl Try.func36 (by kernel_rfl) rfl #[.slice Ao66 t455.length co66, .int .i64 1] rfl ar_ ?_; (with_reducible refine (laws_heldStarS.calls kj64 _ _ t455 1 t465 _ ?side1 ?side2 A82.out).mono ?_); (case side1 => repeat (first | exact (Kd.R_reads' HO_7.out).2.2 | (with_reducible refine Kd.C_alloc ?_ _) | (with_reducible refine Kd.C_drewN ?_ _) | (with_reducible refine Kd.C_drew ?_))); (case side2 => exact (Kd.R_reads' HO_7.out).2.1); rintro e w' ⟨rfl, ⟨nd, rfl⟩⟩; refine ⟨_, rfl, ?_⟩))
                go_ret
                exact ⟨by first | rfl | (simp [errW_none, errW_some] <;> rfl) | (simp [*, errW_none, errW_some] <;> rfl), by repeat (first | (with_reducible first | exact HB.out | apply bA | apply bN | apply bD | refine below_set ?_ GE429.out | refine below_set ?_ GE441.out) | exact HB.out)⟩
          ·rw [if_neg c62] at H
           have c62b0 : (t456 == t454) = false := beq_eq_false_iff_ne.mpr c62
           have c62b1 : (t456 != t454) = true := bne_iff_ne.mpr c62
           obtain rfl := oI H
           obtain ⟨Ao85, co85, eo85⟩ := Kd.R_slice HO_7.out
           subst eo85
           go_wp2_with (first | ((with_reducible refine gate_callee (f := 35) rfl ?_); refine goesL_ (some 64) rfl rfl Try.func35 (by kernel_rfl) rfl #[.slice Ao85 t442.length co85, .int .i64 1] rfl ar_ ?_; (with_reducible refine (laws_markStarS.calls kj38 (fun k_ => some k_ = (.slice Ao85 t442.length co85 : Value).ownBlock) (.slice Ao85 t442.length co85) t442 1 t454 t455 w _ ?side1 ?side2 A57.out).mono ?_); (case side1 => repeat (first | (with_reducible first | exact HB.out | apply bA | apply bN | apply bD | refine below_set ?_ GE429.out | refine below_set ?_ GE441.out) | exact HB.out)); (case side2 => exact Kd.R_tight rfl HO_7.out); rintro e w86 ⟨rfl, hy0, hb, hkp⟩; refine ⟨_, rfl, ?_⟩; have n0_ := Aside0.mk (Kd.R_mono (ok' := fun k_ => some k_ ≠ (.slice Ao85 t442.length co85 : Value).ownBlock) (Kd.R_keptB (HO_4.out) hkp (fun k_ hk_ hs_ => (hk_) hs_)) (fun k_ hk_ => hk_.1)); have n1_ := Aside0.mk (Kd.R_reok rfl hy0 (fun k_ e_ => HO_7.out.1 k_ e_)); have n2_ := Aside0.mk (Kd.R_mono (ok' := fun k_ => True) (Kd.R_keptB ((Kd.R_apart' HO_442000.out (Kd.R_typed HO_7.out) (by decide))) hkp (fun k_ hk_ hs_ => (hk_.2) hs_)) (fun k_ hk_ => trivial)); have n3_ := Aside0.mk (blk_kept (kx_ BK429.out) hkp (fun hs_ => (fun e_ => (Kd.R_ne HO_7.out BK429.out (by decide)) e_) hs_)); have n4_ := Aside0.mk (blk_kept (kx_ BK441.out) hkp (fun hs_ => (fun e_ => (Kd.R_ne HO_7.out BK441.out (by decide)) e_) hs_)); have n5_ := Aside0.mk (hb); clear HO_4; clear HO_7; clear HO_442000; clear BK429; clear BK441; clear HB; have HO_4 := n0_; have HO_7 := n1_; have HO_442000 := n2_; have BK429 := n3_; have BK441 := n4_; have HB := n5_; clear n0_ n1_ n2_ n3_ n4_ n5_; (try clear hb); (try clear hkp); (try clear hy0)) | ((with_reducible refine gate_callee (f := 36) rfl ?_); refine goesL_ (some 67) rfl rfl Try.func36 (by kernel_rfl) rfl #[.slice Ao85 t455.length co85, .int .i64 1] rfl (by (try simp only [mT, mC, mN]); first | done | (rw [show t455.length = t442.length from (Kd.R_reads' HO_7.out).1.symm] <;> rfl) | rfl | (simp only [List.length_drop, List.length_take]; rfl)) ?_; (with_reducible refine (laws_heldStarS.calls kj38 _ _ t455 1 t456 _ ?side1 ?side2 A58.out).mono ?_); (case side1 => repeat (first | exact (Kd.R_reads' HO_7.out).2.2 | (with_reducible refine Kd.C_alloc ?_ _) | (with_reducible refine Kd.C_drewN ?_ _) | (with_reducible refine Kd.C_drew ?_))); (case side2 => rw [show t455.length = t442.length from (Kd.R_reads' HO_7.out).1.symm]; exact (Kd.R_reads' HO_7.out).2.1); rintro e w' ⟨rfl, ⟨nd, rfl⟩⟩; refine ⟨_, rfl, ?_⟩))
           go_ret
           exact ⟨by first | rfl | (simp [errW_none, errW_some] <;> rfl) | (simp [*, errW_none, errW_some] <;> rfl), by repeat (first | (with_reducible first | exact HB.out | apply bA | apply bN | apply bD | refine below_set ?_ GE429.out | refine below_set ?_ GE441.out) | exact HB.out)⟩
     ·replace c37 := Bool.eq_false_iff.mpr c37
      subst c37
      have H1 : (some false) = some r := by rw [if_neg (show ¬ (false = true) by decide)] at H; exact H
      clear H
      have H := H1
      clear H1
      obtain rfl := oI H
      try go_wp2
      have n0_ := Aside0.mk (Kd.R_drew HO_4.out)
      have n1_ := Aside0.mk (Kd.R_drew HO_7.out)
      have n2_ := Aside0.mk (Kd.R_drew HO_442000.out)
      have n3_ := Aside0.mk (blk_drew BK429.out)
      have n4_ := Aside0.mk (blk_drew BK441.out)
      have n5_ := Aside0.mk (below_drew1 HB.out)
      clear HO_4
      clear HO_7
      clear HO_442000
      clear BK429
      clear BK441
      clear HB
      have HO_4 := n0_
      have HO_7 := n1_
      have HO_442000 := n2_
      have BK429 := n3_
      have BK441 := n4_
      have HB := n5_
      clear n0_ n1_ n2_ n3_ n4_ n5_
      refine start_ (n := 5) (S := fun w' => w'.cell? ⟨gb441, 0, none⟩ = some (.slice Ao22 t438.length co22) ∧ w'.cell? ⟨gb429, 0, none⟩ = some (.slice A0_0 l0_0.length c0_0)) (ds := []) #[false, false, false, false, false] (by kernel_rfl) rfl rfl ⟨(blk_cell BK441.out 0).trans rfl, (blk_cell BK429.out 0).trans rfl⟩ (fun hHeld => ?_)
      generalize wc.drew = w87 at HO_4 HO_7 HO_442000 BK429 BK441 HB hHeld ⊢
      refine take_ (i := 0) (N := some 41) (v := ?_) (a' := ?_) #[true, false, false, false, false] rfl rfl (by kernel_rfl) (fun _ _ _ h => h) (Or.inl ⟨by rfl, ?_⟩) hHeld ?_ ?_
      rotate_left
      ·rintro w' ⟨s0, s1⟩
       go_simp
       with_reducible rfl
      rotate_left
      ·simp only [Act.put, sT, sZ, sS, i64_w, i32_w]
       rfl
      refine take_ (i := 1) (N := some 42) (v := ?_) (a' := ?_) #[true, true, false, false, false] rfl rfl (by kernel_rfl) (fun _ _ _ h => h) (Or.inl ⟨by rfl, ?_⟩) hHeld ?_ ?_
      rotate_left
      ·rintro w' ⟨s0, s1⟩
       go_simp
       with_reducible rfl
      rotate_left
      ·simp only [Act.put, sT, sZ, sS, i64_w, i32_w]
       rfl
      refine one_ (i := 2) (N := some 43) #[true, true, true, false, false] rfl rfl (by kernel_rfl) (by decide) (fun K hK => ?_)
      refine goes_ Try.func14 (by kernel_rfl) rfl #[.agg #[.slice A0_0 l0_0.length c0_0]] (by rfl) rfl rfl ar_ ?_
      with_reducible refine (laws_toPuzzle.calls kj10 _ _ l0_0 t447 _ ?side1 ?side2 A35.out).mono ?_
      (case side1 => repeat (first | exact (Kd.C_below HR0_0.out HB.out) | (with_reducible refine Kd.C_alloc ?_ _) | (with_reducible refine Kd.C_drewN ?_ _) | (with_reducible refine Kd.C_drew ?_)))
      (case side2 => exact HC0_0.out)
      rintro e w88 ⟨v448, rfl, ho0, hb⟩
      refine ⟨_, rfl, ?_⟩
      have n0_ := Aside0.mk (Kd.R_below (by (with_reducible repeat (first | apply rA | apply rN | apply rD)); exact HO_4.out) hb)
      have n1_ := Aside0.mk (Kd.R_below (by (with_reducible repeat (first | apply rA | apply rN | apply rD)); exact HO_7.out) hb)
      have n2_ := Aside0.mk (Kd.R_elder' (by (with_reducible repeat (first | apply rA | apply rN | apply rD)); exact HO_442000.out) (Kd.R_base ho0) hb)
      have n3_ := Aside0.mk (Kd.R_lower (Kd.R_new' ho0 (Kd.R_lt (by (with_reducible repeat (first | apply rA | apply rN | apply rD)); exact HO_442000.out))) (below_size (by repeat (first | (with_reducible first | exact HB.out | apply bA | apply bN | apply bD | refine below_set ?_ GE429.out | refine below_set ?_ GE441.out) | exact HB.out))))
      have n4_ := Aside0.mk (blk_below (g := gb429) (o := .cells #[.slice A0_0 l0_0.length c0_0] 24 (0, 0)) (kx_ BK429.out) hb)
      have n5_ := Aside0.mk (blk_below (g := gb441) (o := .cells #[.slice Ao22 t438.length co22] 30 (0, 0)) (kx_ BK441.out) hb)
      have n6_ := Aside0.mk (below_step (by repeat (first | (with_reducible first | exact HB.out | apply bA | apply bN | apply bD | refine below_set ?_ GE429.out | refine below_set ?_ GE441.out) | exact HB.out)) hb)
      clear HO_4
      clear HO_7
      clear HO_442000
      clear BK429
      clear BK441
      clear HB
      have HO_4 := n0_
      have HO_7 := n1_
      have HO_442000 := n2_
      have HO449 := n3_
      have BK429 := n4_
      have BK441 := n5_
      have HB := n6_
      clear n0_ n1_ n2_ n3_ n4_ n5_ n6_
      (try clear hb)
      (try clear hb2)
      (try clear hk)
      (try clear hi)
      (try clear ho0)
      obtain ⟨Ao89, co89, eo89⟩ := Kd.R_slice HO449.out
      (first | subst eo89 | (injection eo89 with f1_ f2_ f3_; have f4_ := f1_.symm; have f5_ := f3_.symm; clear f1_ f2_ f3_; subst f4_; subst f5_))
      refine hK.out _ _ ⟨(blk_cell BK441.out 0).trans rfl, (blk_cell BK429.out 0).trans rfl⟩ (fun hHeld => ?_)
      clear hK K
      refine norm_ (a' := ?_) ?_ ?_
      rotate_left
      ·show Act.put _ (some 43) _ = _
       simp only [Act.put, sT, sZ, sS, i64_w, i32_w]
       rfl
      refine one_ (i := 3) (N := some 44) #[true, true, true, true, false] rfl rfl (by kernel_rfl) (by decide) (fun K hK => ?_)
      refine goes_ Try.func16 (by kernel_rfl) rfl #[.agg #[.slice Ao22 t438.length co22], .agg #[.slice Ao89 t447.length co89]] (by rfl) rfl rfl ar_ ?_
      with_reducible refine (laws_eqPuzzle.calls kj10 _ _ t438 _ _ t447 false _ ?side1 ?side2 ?side3 ?side4 A36.out).mono ?_
      (case side1 => repeat (first | exact (Kd.R_reads' HO_442000.out).2.2 | (with_reducible refine Kd.C_alloc ?_ _) | (with_reducible refine Kd.C_drewN ?_ _) | (with_reducible refine Kd.C_drew ?_)))
      (case side2 => exact (Kd.R_reads' HO_442000.out).2.1)
      (case side3 => repeat (first | exact (Kd.R_reads' HO449.out).2.2 | (with_reducible refine Kd.C_alloc ?_ _) | (with_reducible refine Kd.C_drewN ?_ _) | (with_reducible refine Kd.C_drew ?_)))
      (case side4 => exact (Kd.R_reads' HO449.out).2.1)
      rintro e w90 ⟨rfl, hb⟩
      refine ⟨_, rfl, ?_⟩
      have n0_ := Aside0.mk (Kd.R_below (by (with_reducible repeat (first | apply rA | apply rN | apply rD)); exact HO_4.out) hb)
      have n1_ := Aside0.mk (Kd.R_below (by (with_reducible repeat (first | apply rA | apply rN | apply rD)); exact HO_7.out) hb)
      have n2_ := Aside0.mk (Kd.R_below (by (with_reducible repeat (first | apply rA | apply rN | apply rD)); exact HO_442000.out) hb)
      have n3_ := Aside0.mk (Kd.R_below (by (with_reducible repeat (first | apply rA | apply rN | apply rD)); exact HO449.out) hb)
      have n4_ := Aside0.mk (blk_below (g := gb429) (o := .cells #[.slice A0_0 l0_0.length c0_0] 24 (0, 0)) (kx_ BK429.out) hb)
      have n5_ := Aside0.mk (blk_below (g := gb441) (o := .cells #[.slice Ao22 t438.length co22] 30 (0, 0)) (kx_ BK441.out) hb)
      have n6_ := Aside0.mk (below_step (by repeat (first | (with_reducible first | exact HB.out | apply bA | apply bN | apply bD | refine below_set ?_ GE429.out | refine below_set ?_ GE441.out) | exact HB.out)) hb)
      clear HO_4
      clear HO_7
      clear HO_442000
      clear HO449
      clear BK429
      clear BK441
      clear HB
      have HO_4 := n0_
      have HO_7 := n1_
      have HO_442000 := n2_
      have HO449 := n3_
      have BK429 := n4_
      have BK441 := n5_
      have HB := n6_
      clear n0_ n1_ n2_ n3_ n4_ n5_ n6_
      (try clear hb)
      (try clear hb2)
      (try clear hk)
      (try clear hi)
      refine hK.out _ _ ⟨(blk_cell BK441.out 0).trans rfl, (blk_cell BK429.out 0).trans rfl⟩ (fun hHeld => ?_)
      clear hK K
      refine norm_ (a' := ?_) ?_ ?_
      rotate_left
      ·show Act.put _ (some 44) _ = _
       simp only [Act.put, sT, sZ, sS, i64_w, i32_w]
       rfl
      refine pure_ (i := 4) (N := some 45) (v := ?_) (a' := ?_) #[true, true, true, true, true] rfl rfl (by kernel_rfl) (fun _ _ _ h => h) (Or.inl ⟨by rfl, ?_⟩) ?_ ?_
      rotate_left
      ·intro w'
       go_simp
       with_reducible rfl
      rotate_left
      ·simp only [Act.put, sT, sZ, sS, i64_w, i32_w]
       rfl
      refine done_ (by kernel_rfl) ?_
      try go_wp2
      go_ret
      exact ⟨by first | rfl | (simp [errW_none, errW_some] <;> rfl) | (simp [*, errW_none, errW_some] <;> rfl), by repeat (first | (with_reducible first | exact HB.out | apply bA | apply bN | apply bD | refine below_set ?_ GE429.out | refine below_set ?_ GE441.out) | exact HB.out)⟩
end Go.Proofs.Ytkgaljocaapobaa.Pr
/- The statements' own helpers on lists of clues: the size, the copies and the comparison. -/
namespace Go.Proofs.Ytkgaljocaapobaa.M
open Go.RowKit Go.Proofs.YtkgaljocaapobaaW.PrintWords Go.Proofs.Ytkgaljocaapobaa.Pr
abbrev Cl := S67
abbrev LCl := S72
def toCl (c : LCl) : Cl := ⟨c.f0, c.f1, c.f2⟩
theorem rd_cl (l : List Cl) (i : Nat) (h : i < l.length) : rd_T67 l (i : Int) = l[i] := by
  unfold rd_T67
  simp [List.getD_eq_getElem?_getD, List.getElem?_eq_getElem h]
theorem rd_lcl (l : List LCl) (i : Nat) (h : i < l.length) : rd_T72 l (i : Int) = l[i] := by
  unfold rd_T72
  simp [List.getD_eq_getElem?_getD, List.getElem?_eq_getElem h]
theorem szClS_small (l : List LCl) (n : Int) (hn : 0 ≤ n ∧ n ≤ 1048576) (h : (l.length : Int) ≤ n) : laws_szClueS.f l n = some (n - (l.length : Int)) := by
  unfold laws_szClueS.f
  rw [w64 (by omega) (by omega), if_neg (by omega)]
theorem szClS_big (l : List LCl) (n : Int) (hn : 0 ≤ n ∧ n ≤ 1048576) (h : n < (l.length : Int)) (hm : l.length ≤ maxLen) : laws_szClueS.f l n = some (-1) := by
  unfold maxLen at hm
  unfold laws_szClueS.f
  rw [w64 (by omega) (by omega), if_pos (by omega)]
theorem szP_small (l : List LCl) (h : l.length ≤ 1048576) : laws_szPuzzle.f l 1048576 = some (1048576 - (l.length : Int)) := by
  unfold laws_szPuzzle.f
  rw [szClS_small l _ (by omega) (by omega)]
  simp only [Option.bind_some]
  rw [if_neg (by omega)]
theorem szP_big (l : List LCl) (h : 1048576 < l.length) (hm : l.length ≤ maxLen) : laws_szPuzzle.f l 1048576 = some (-1) := by
  unfold laws_szPuzzle.f
  rw [szClS_big l _ (by omega) (by omega) hm]
  simp
theorem toClS_ev (l : List LCl) (hl : l.length ≤ 1048576) : Ev (fun k => laws_toClueS.f k l) (l.map toCl) := by
  unfold laws_toClueS.f
  refine Ev.pos (by omega) (Ev.pos (by simp; omega) ?_)
  rw [Int.toNat_natCast]
  refine Ev.scan0 (fun k i acc => laws_toClueS.l0 k l acc i) l (fun rest acc => l.map toCl) (fun i acc => acc = (l.take i).map toCl ++ List.replicate (l.length - i) z67)
    (fun acc hp => by
      refine Ev.step (fun k => by rw [laws_toClueS.l0]) ?_
      refine Ev.neg (by omega) (Ev.val ?_)
      rw [hp]
      simp)
    (fun i h acc hp => by
      have hr := rd_lcl l i h
      have hal : acc.length = l.length := by rw [hp]; simp; omega
      refine .inl ⟨acc.set i (toCl l[i]), ?_, rfl, fun r hr2 => ?_⟩
      · rw [hp, List.take_succ_eq_append_getElem h, List.map_append, List.append_assoc]
        have ht : ((l.take i).map toCl).length = i := by simp; omega
        rw [List.set_append_right i _ (by omega), ht, Nat.sub_self]
        congr 1
        obtain ⟨q, hq⟩ : ∃ q, l.length - i = q + 1 := ⟨l.length - i - 1, by omega⟩
        rw [hq, show l.length - (i + 1) = q by omega, List.replicate_succ, List.set_cons_zero]
        rfl
      · refine Ev.step (fun k => by rw [laws_toClueS.l0]) ?_
        refine Ev.pos (by omega) (Ev.pos (by omega) ?_)
        rw [hr]
        refine Ev.bindc (a := (l[i].f0, l[i].f1, l[i].f2)) rfl (Ev.pos (by omega) ?_)
        rw [w64 (x := (i : Int) + 1) (by omega) (by omega), Int.toNat_natCast]
        exact hr2)
    _ (by simp)
theorem toP_ev (l : List LCl) (hl : l.length ≤ 1048576) : Ev (fun k => laws_toPuzzle.f k l) (l.map toCl) := by
  unfold laws_toPuzzle.f
  exact Ev.bindk (toClS_ev l hl) (Ev.val rfl)
theorem eqClS_ev (l : List Cl) (hl : l.length ≤ 9223372036854775806) : Ev (fun k => laws_eqClueS.f k l l) true := by
  unfold laws_eqClueS.f
  refine Ev.pos rfl ?_
  have e := Ev.scan0 (fun k i (_ : Unit) => laws_eqClueS.l0 k l l i) l (fun _ _ => true) (fun _ _ => True)
    (fun acc _ => by
      refine Ev.step (fun k => by rw [laws_eqClueS.l0]) ?_
      exact Ev.neg (by omega) (Ev.now true))
    (fun i h acc _ => by
      refine .inl ⟨(), trivial, rfl, fun r hr2 => ?_⟩
      refine Ev.step (fun k => by rw [laws_eqClueS.l0]) ?_
      refine Ev.pos (by omega) (Ev.pos (by omega) (Ev.pos (by omega) ?_))
      refine Ev.bindc (a := true) (by unfold laws_eqClue.f; simp) (Ev.pos rfl ?_)
      rw [w64 (x := (i : Int) + 1) (by omega) (by omega)]
      exact hr2) () trivial
  exact e
theorem eqP_ev (l : List Cl) (hl : l.length ≤ 9223372036854775806) : Ev (fun k => laws_eqPuzzle.f k l l) true := by
  unfold laws_eqPuzzle.f
  exact Ev.bindk (eqClS_ev l hl) (Ev.pos rfl (Ev.val rfl))
end Go.Proofs.Ytkgaljocaapobaa.M
/- A puzzle of the reference is one of the program. -/
namespace Go.Proofs.Ytkgaljocaapobaa.M
open Go.RowKit Go.Proofs.YtkgaljocaapobaaW.PrintWords Go.Proofs.Ytkgaljocaapobaa.Pr
/-- A puzzle: six clues at most, each of them one. -/
def puzB (l : List Cl) : Bool := decide (l.length ≤ 6) && !(l.any noCl)
theorem isPuzzle_eq (l : List Cl) : impl_IsPuzzle.f l = some (puzB l) := rfl
theorem pzGood_ev (l : List Cl) : Ev (fun k => spec_pzGood.f k l) (puzB l) := by
  unfold spec_pzGood.f puzB
  by_cases h6 : l.length ≤ 6
  · refine Ev.neg (by omega) ?_
    rw [decide_eq_true h6, Bool.true_and]
    refine Ev.scan0 (fun k i (_ : Unit) => spec_pzGood.l0 k l (l.length : Int) i) l (fun rest _ => !(rest.any noCl)) (fun _ _ => True)
      (fun acc _ => by
        refine Ev.step (fun k => by rw [spec_pzGood.l0]) ?_
        exact Ev.neg (by omega) (Ev.val (by simp)))
      (fun i h acc _ => by
        have hr := rd_cl l i h
        by_cases hc : clN l[i].f0 l[i].f1 l[i].f2 = true
        · refine .inl ⟨(), trivial, by rw [List.any_cons]; unfold noCl; rw [hc]; rfl, fun r hr2 => ?_⟩
          refine Ev.step (fun k => by rw [spec_pzGood.l0]) ?_
          refine Ev.pos (by omega) (Ev.pos (by omega) (Ev.pos (by omega) ?_))
          rw [hr]
          refine Ev.bindk (clue_ev _ _ _) (Ev.pos hc ?_)
          rw [w64 (x := (i : Int) + 1) (by omega) (by omega)]
          exact hr2
        · refine .inr ?_
          refine Ev.step (fun k => by rw [spec_pzGood.l0]) ?_
          refine Ev.pos (by omega) (Ev.pos (by omega) (Ev.pos (by omega) ?_))
          rw [hr]
          refine Ev.bindk (clue_ev _ _ _) (Ev.neg hc (Ev.val ?_))
          rw [List.any_cons]
          have : noCl l[i] = true := by unfold noCl; rw [Bool.eq_false_iff.mpr hc]; rfl
          rw [this]
          rfl) () trivial
  · refine Ev.pos (by omega) (Ev.val ?_)
    rw [decide_eq_false h6]
    rfl
end Go.Proofs.Ytkgaljocaapobaa.M
/- The reference finds the same hidden stars as the program. -/
namespace Go.Proofs.Ytkgaljocaapobaa.M
open Go.RowKit Go.Proofs.YtkgaljocaapobaaW.PrintWords Go.Proofs.Ytkgaljocaapobaa.Pr
abbrev St := S37
theorem pzAll_l2 (l : List Cl) (hl : l.length ≤ 1048576) (n s : Int) (hh : hidB n s = true) (acc : List St) (hacc : (acc.length : Int) ≤ 1000) (r : List St)
    (hr : Ev (fun k => spec_pzAll.l1 k l (if l.any (misF n s) = true then acc else acc ++ [⟨n, s⟩]) n (s + 1)) r) :
    Ev (fun k => spec_pzAll.l2 k l acc n s true l (l.length : Int) 0 n s) r := by
  have hh2 := hid_in hh
  have e := Ev.cps (fun k i (fl : Bool) => spec_pzAll.l2 k l acc n s fl l (l.length : Int) i n s)
    (fun k fl => spec_pzAll.l1 k l (if fl = true then acc ++ [⟨n, s⟩] else acc) n (s + 1)) l
    (fun rest fl => fl && !(rest.any (misF n s))) (fun _ _ => True)
    (fun fl r _ hr => by
      refine Ev.step (fun k => by rw [spec_pzAll.l2]) ?_
      refine Ev.neg (by omega) ?_
      rw [w64 (x := s + 1) (by omega) (by omega)]
      cases fl with
      | true => exact Ev.pos rfl (Ev.pos (by omega) (by simpa using hr))
      | false => exact Ev.neg (by simp) (by simpa using hr))
    (fun i hi fl _ => by
      have hrd := rd_cl l i hi
      cases fl with
      | true =>
        refine ⟨fitB l[i].f0 l[i].f1 l[i].f2 n s, trivial, ?_, fun r hr2 => ?_⟩
        · rw [List.any_cons]
          unfold misF
          cases fitB l[i].f0 l[i].f1 l[i].f2 n s <;> simp
        · refine Ev.step (fun k => by rw [spec_pzAll.l2]) ?_
          refine Ev.pos (by omega) (Ev.pos (by omega) (Ev.pos (by omega) (Ev.pos rfl ?_)))
          rw [hrd, w64 (x := (i : Int) + 1) (by omega) (by omega)]
          exact Ev.bindk (pzFits_ev _ _ _ n s hh) hr2
      | false =>
        refine ⟨false, trivial, by simp, fun r hr2 => ?_⟩
        refine Ev.step (fun k => by rw [spec_pzAll.l2]) ?_
        refine Ev.pos (by omega) (Ev.pos (by omega) (Ev.pos (by omega) (Ev.neg (by simp) ?_)))
        rw [w64 (x := (i : Int) + 1) (by omega) (by omega)]
        exact hr2)
    l.length 0 true r (by omega) trivial (by
      rw [List.drop_zero]
      cases h : l.any (misF n s) with
      | true => rw [h] at hr; simpa using hr
      | false => rw [h] at hr; simpa using hr)
  simpa using e
theorem pzAll_l1 (l : List Cl) (hl : l.length ≤ 1048576) (n : Int) (hn : 3 ≤ n ∧ n ≤ 14) (d : Nat)
    (ih : ∀ acc : List St, (acc.length : Int) ≤ 14 * (n + 1) → Ev (fun k => spec_pzAll.l0 k l acc (n + 1)) (acc ++ solsFrom l d (n + 1))) :
    ∀ (e : Nat) (s : Int) (acc : List St), s + e = n → 1 ≤ s → (acc.length : Int) ≤ 14 * n + s → Ev (fun k => spec_pzAll.l1 k l acc n s) (acc ++ (solsStep l n e s ++ solsFrom l d (n + 1)))
  | 0, s, acc, h1, h2, h3 => by
    refine Ev.step (fun k => by rw [spec_pzAll.l1]) ?_
    refine Ev.neg (by omega) ?_
    rw [w64 (x := n + 1) (by omega) (by omega)]
    have := ih acc (by omega)
    simpa [solsStep] using this
  | e + 1, s, acc, h1, h2, h3 => by
    refine Ev.step (fun k => by rw [spec_pzAll.l1]) ?_
    refine Ev.pos (by omega) ?_
    refine pzAll_l2 l hl n s (hid_of hn.1 hn.2 h2 (by omega)) acc (by omega) _ ?_
    rw [solsStep]
    by_cases h : l.any (misF n s) = true
    · rw [if_pos h, if_pos h]
      exact pzAll_l1 l hl n hn d ih e (s + 1) acc (by omega) (by omega) (by omega)
    · rw [if_neg h, if_neg h]
      have := pzAll_l1 l hl n hn d ih e (s + 1) (acc ++ [⟨n, s⟩]) (by omega) (by omega) (by simp; omega)
      simpa [List.append_assoc] using this
theorem pzAll_l0 (l : List Cl) (hl : l.length ≤ 1048576) : ∀ (d : Nat) (n : Int) (acc : List St), n + d = 15 → 3 ≤ n → (acc.length : Int) ≤ 14 * n → Ev (fun k => spec_pzAll.l0 k l acc n) (acc ++ solsFrom l d n)
  | 0, n, acc, h1, h2, h3 => by
    refine Ev.step (fun k => by rw [spec_pzAll.l0]) ?_
    refine Ev.neg (by omega) (Ev.val ?_)
    simp [solsFrom]
  | d + 1, n, acc, h1, h2, h3 => by
    refine Ev.step (fun k => by rw [spec_pzAll.l0]) ?_
    refine Ev.pos (by omega) ?_
    rw [solsFrom]
    exact pzAll_l1 l hl n ⟨h2, by omega⟩ d (fun acc' ha => pzAll_l0 l hl d (n + 1) acc' (by omega) (by omega) ha) (n - 1).toNat 1 acc (by omega) (by omega) (by omega)
theorem pzAll_ev (l : List Cl) (hl : l.length ≤ 1048576) : Ev (fun k => spec_pzAll.f k l) (sols l) := by
  unfold spec_pzAll.f sols
  have := pzAll_l0 l hl 12 3 [] (by omega) (by omega) (by simp)
  simpa using this
theorem solsStep_len (l : List Cl) (n : Int) : ∀ (e : Nat) (s : Int), (solsStep l n e s).length ≤ e
  | 0, _ => by simp [solsStep]
  | e + 1, s => by
    have := solsStep_len l n e (s + 1)
    unfold solsStep
    split
    · omega
    · simp; omega
theorem solsFrom_len (l : List Cl) : ∀ (d : Nat) (n : Int), n + d = 15 → 3 ≤ n → (solsFrom l d n).length ≤ d * 14
  | 0, _, _, _ => by simp [solsFrom]
  | d + 1, n, h1, h2 => by
    have i1 := solsFrom_len l d (n + 1) (by omega) (by omega)
    have i2 := solsStep_len l n (n - 1).toNat 1
    rw [solsFrom, List.length_append]
    omega
theorem sols_len (l : List Cl) : (sols l).length ≤ 168 := solsFrom_len l 12 3 (by omega) (by omega)
/-- What Solutions tells. -/
def solR (l : List Cl) : List St × Bool := if puzB l = true then (sols l, true) else ([], false)
theorem solutions_eq (l : List Cl) : impl_Solutions.f l = some (solR l) := by
  unfold impl_Solutions.f impl_solutions.f solR
  rw [isPuzzle_eq, Option.bind_some]
  by_cases h : puzB l = true
  · rw [if_pos h, if_pos h]; rfl
  · rw [if_neg h, if_neg h]
theorem solR_len (l : List Cl) : (solR l).1.length ≤ 168 := by
  unfold solR
  split
  · exact sols_len l
  · simp
end Go.Proofs.Ytkgaljocaapobaa.M
/- The statements' own helpers on lists of stars: marked and held. -/
namespace Go.Proofs.Ytkgaljocaapobaa.M
open Go.RowKit Go.Proofs.YtkgaljocaapobaaW.PrintWords Go.Proofs.Ytkgaljocaapobaa.Pr
theorem rd_st (l : List St) (i : Nat) (h : i < l.length) : rd_T37 l (i : Int) = l[i] := by
  unfold rd_T37
  simp [List.getD_eq_getElem?_getD, List.getElem?_eq_getElem h]
theorem eqS_ev (l : List St) (hl : l.length ≤ 9223372036854775806) : Ev (fun k => laws_eqStarS.f k l l) true := by
  unfold laws_eqStarS.f
  refine Ev.pos rfl ?_
  have e := Ev.scan0 (fun k i (_ : Unit) => laws_eqStarS.l0 k l l i) l (fun _ _ => true) (fun _ _ => True)
    (fun acc _ => by
      refine Ev.step (fun k => by rw [laws_eqStarS.l0]) ?_
      exact Ev.neg (by omega) (Ev.now true))
    (fun i h acc _ => by
      refine .inl ⟨(), trivial, rfl, fun r hr2 => ?_⟩
      refine Ev.step (fun k => by rw [laws_eqStarS.l0]) ?_
      refine Ev.pos (by omega) (Ev.pos (by omega) (Ev.pos (by omega) ?_))
      refine Ev.bindc (a := true) (by unfold laws_eqStar.f; simp) (Ev.pos rfl ?_)
      rw [w64 (x := (i : Int) + 1) (by omega) (by omega)]
      exact hr2) () trivial
  exact e
def upS (m : Int) (n : Nat) : List St := (List.range n).map fun (i : Nat) => ⟨m + 2 * (i : Int), m + 2 * (i : Int) + 1⟩
theorem upS_length (m : Int) (n : Nat) : (upS m n).length = n := by simp [upS]
theorem upS_succ (m : Int) (n : Nat) : upS m (n + 1) = upS m n ++ [⟨m + 2 * (n : Int), m + 2 * (n : Int) + 1⟩] := by
  unfold upS
  rw [List.range_succ, List.map_append]
  rfl
theorem upS_get (m : Int) (n i : Nat) (h : i < (upS m n).length) : (upS m n)[i] = ⟨m + 2 * (i : Int), m + 2 * (i : Int) + 1⟩ := by
  simp [upS]
theorem setS_mid (A : List St) (x v : St) (r : List St) : (A ++ x :: r).set A.length v = A ++ v :: r := by
  rw [List.set_append_right _ _ (Nat.le_refl _), Nat.sub_self, List.set_cons_zero]
theorem markS_ev (l : List St) (m : Int) (hm : 0 ≤ m) (hb : m + 2 * l.length ≤ 9223372036854775806) : Ev (fun k => laws_markStarS.f k l m) (m + 2 * (l.length : Int), upS m l.length) := by
  unfold laws_markStarS.f
  exact Ev.scan0 (fun k i (acc : List St × Int) => laws_markStarS.l0 k acc.1 acc.2 i) l (fun _ _ => (m + 2 * (l.length : Int), upS m l.length)) (fun i acc => acc = (upS m i ++ l.drop i, m + 2 * (i : Int)))
    (fun acc hp => by
      refine Ev.step (fun k => by rw [laws_markStarS.l0]) ?_
      rw [hp]
      refine Ev.neg (by simp [upS_length]) (Ev.val ?_)
      simp)
    (fun i h acc hp => by
      refine .inl ⟨(upS m (i + 1) ++ l.drop (i + 1), m + 2 * ((i + 1 : Nat) : Int)), rfl, rfl, fun r hr2 => ?_⟩
      refine Ev.step (fun k => by rw [laws_markStarS.l0]) ?_
      rw [hp]
      have hll : (upS m i ++ l.drop i).length = l.length := by simp [upS_length]; omega
      refine Ev.pos (by rw [hll]; omega) (Ev.pos (by omega) ?_)
      simp only [Option.bind_some]
      have h1 : ∀ v : St, (upS m i ++ l[i] :: l.drop (i + 1)).set i v = upS m i ++ v :: l.drop (i + 1) := by
        intro v
        have := setS_mid (upS m i) l[i] v (l.drop (i + 1))
        rwa [upS_length] at this
      have h2 : ∀ u v : St, (upS m i ++ u :: l.drop (i + 1)).set i v = upS m i ++ v :: l.drop (i + 1) := by
        intro u v
        have := setS_mid (upS m i) u v (l.drop (i + 1))
        rwa [upS_length] at this
      have hg : ∀ u : St, rd_T37 (upS m i ++ u :: l.drop (i + 1)) (i : Int) = u := by
        intro u
        have hlt : i < (upS m i ++ u :: l.drop (i + 1)).length := by simp [upS_length]
        rw [rd_st _ i hlt, List.getElem_append_right (by rw [upS_length]; exact Nat.le_refl _)]
        simp [upS_length]
      rw [Int.toNat_natCast, List.drop_eq_getElem_cons h, h1, hg l[i], h2, hg]
      rw [w64 (x := (i : Int) + 1) (by omega) (by omega), w64 (x := m + 2 * (i : Int) + 1) (by omega) (by omega), w64 (x := m + 2 * (i : Int) + 1 + 1) (by omega) (by omega)]
      rw [upS_succ, List.append_assoc] at hr2
      have e2 : m + 2 * ((i + 1 : Nat) : Int) = m + 2 * (i : Int) + 1 + 1 := by omega
      rw [e2] at hr2
      exact hr2)
    (l, m) (by simp [upS])
theorem heldS_ev (n : Nat) (m : Int) (hm : 0 ≤ m) (hb : m + 2 * n ≤ 9223372036854775806) : Ev (fun k => laws_heldStarS.f k (upS m n) m) (m + 2 * (n : Int)) := by
  unfold laws_heldStarS.f
  have e := Ev.scan0 (fun k i (acc : Int) => laws_heldStarS.l0 k (upS m n) acc i) (upS m n) (fun _ _ => m + 2 * (n : Int)) (fun i acc => acc = m + 2 * (i : Int))
    (fun acc hp => by
      refine Ev.step (fun k => by rw [laws_heldStarS.l0]) ?_
      refine Ev.neg (by omega) (Ev.val ?_)
      rw [hp, upS_length])
    (fun i h acc hp => by
      refine .inl ⟨m + 2 * ((i + 1 : Nat) : Int), rfl, rfl, fun r hr2 => ?_⟩
      have hn : i < n := by rw [upS_length] at h; exact h
      refine Ev.step (fun k => by rw [laws_heldStarS.l0]) ?_
      refine Ev.pos (by omega) (Ev.pos (by omega) ?_)
      rw [rd_st _ i h, upS_get, hp]
      rw [w64 (x := (i : Int) + 1) (by omega) (by omega), w64 (x := m + 2 * (i : Int) + 1) (by omega) (by omega), w64 (x := m + 2 * (i : Int) + 1 + 1) (by omega) (by omega)]
      refine Ev.pos rfl (Ev.pos rfl ?_)
      have e2 : m + 2 * ((i + 1 : Nat) : Int) = m + 2 * (i : Int) + 1 + 1 := by omega
      rw [e2] at hr2
      exact hr2)
    m (by simp)
  exact e
end Go.Proofs.Ytkgaljocaapobaa.M
namespace Go.Proofs.Ytkgaljocaapobaa.Pr
open Go.RowKit Go.Proofs.YtkgaljocaapobaaW.PrintWords Go.Proofs.YtkgaljocaapobaaW.PrintLast Go.Proofs.YtkgaljocaapobaaW.PrintMore
attribute [local go_sem] max2_int min2_int max_two min_two max_three min_three max_four min_four
def laws_heldClueS.l0 : Nat → List (S67) → Int → Int → Option (Int)
 | 0, _, _, _ => none
 | k + 1, x0, x1, x5 => if x5 < (x0.length : Int) then (if 0 ≤ x5 then (if ((rd_T67 x0 x5).f0) = x1 then (if ((rd_T67 x0 x5).f1) = (wrap64 (x1 + 1)) then (if ((rd_T67 x0 x5).f2) = (wrap64 ((wrap64 (x1 + 1)) + 1)) then (laws_heldClueS.l0 k x0 (wrap64 ((wrap64 ((wrap64 (x1 + 1)) + 1)) + 1)) (wrap64 (x5 + 1))) else (some (-1))) else (some (-1))) else (some (-1))) else (none)) else (some x1)
def laws_heldClueS.f (k : Nat) (l0 : List (S67)) (a1 : Int) : Option (Int) := laws_heldClueS.l0 k l0 a1 0
theorem laws_heldClueS.mono_l : ∀ k, (∀ y0 y1 y2, LeO (laws_heldClueS.l0 k y0 y1 y2) (laws_heldClueS.l0 (k + 1) y0 y1 y2))
 | 0 => fun _ _ _ r h => by simp [laws_heldClueS.l0] at h
 | k + 1 => by
  have ih0 := laws_heldClueS.mono_l k
  ·intro y0 y1 y2
   unfold laws_heldClueS.l0
   repeat' first
   | (with_reducible exact ih0 _ _ _)
   | (with_reducible exact LeO.refl _)
   | (with_reducible exact LeO.none _)
   | (with_reducible refine LeO.ite ?_ ?_)
   | (with_reducible refine LeO.bind ?_ (fun _ => ?_))
   | exact ih0 _ _ _
   | exact LeO.none _
   | refine LeO.ite ?_ ?_
   | refine LeO.bind ?_ (fun _ => ?_)
theorem laws_heldClueS.mono : ∀ a0 a1 k, LeO (laws_heldClueS.f k a0 a1) (laws_heldClueS.f (k + 1) a0 a1) := by
 intro a0 a1 k
 have ih0 := laws_heldClueS.mono_l k
 unfold laws_heldClueS.f
 repeat' first
   | (with_reducible exact ih0 _ _ _)
   | (with_reducible exact LeO.refl _)
   | (with_reducible exact LeO.none _)
   | (with_reducible refine LeO.ite ?_ ?_)
   | (with_reducible refine LeO.bind ?_ (fun _ => ?_))
   | exact ih0 _ _ _
   | exact LeO.none _
   | refine LeO.ite ?_ ?_
   | refine LeO.bind ?_ (fun _ => ?_)
set_option maxHeartbeats 8000000 in
set_option maxRecDepth 100000 in
theorem laws_heldClueS.calls (k : Nat) (A0 : Option Addr) (c0 : Nat) (l0 : List (S67)) (a1 : Int) (r : Int) (w : World) (hr0 : Kd.C k67 w A0 l0.length l0) (hc0 : l0.length ≤ c0) (h : laws_heldClueS.f k l0 a1 = some r) :
  Calls Try.prog 57 #[.slice A0 l0.length c0, .int .i64 a1] w fun e w' => e = .returned (.int .i64 r) ∧ Drawn0 w w' := by
 have HR0 := Aside0.mk hr0
 have HC0 := Aside0.mk hc0
 clear hr0 hc0
 have H : (laws_heldClueS.l0 k l0 a1 0) = some r := h
 clear h
 have H' := Aside0.mk H
 clear H
 go_enter Try.func57, Try.ntmps57
 go_wp2
 go_loopg [1, 5] k (fun kq v1 v5 w' => ∃ (x1_1 : Int) (x5_1 : Int), v1 = .int .i64 x1_1 ∧ v5 = .int .i64 x5_1 ∧ Aside0 (laws_heldClueS.l0 kq l0 x1_1 x5_1 = some r) ∧ Aside0 (kq ≤ k) ∧ Drawn0 w w')
 case atStart => exact ⟨(a1), (0), (by first | rfl | (simp; done) | (simp [*]; done)), (by first | rfl | (simp; done) | (simp [*]; done)), H', ⟨Nat.le_refl _⟩, by repeat (first | exact Drawn0.refl _ | apply Drawn0.step)⟩
 case round =>
  clear H'
  try clear p2
  obtain ⟨x1_1, x5_1, rfl, rfl, HA, HK1, ⟨m1, rfl⟩⟩ := hrel
  cases gk with
  | zero => exact absurd HA.out (by simp [laws_heldClueS.l0])
  | succ k1 =>
   have H := HA.out
   clear HA
   simp only [laws_heldClueS.l0] at H
   by_cases c3 : x5_1 < (l0.length : Int)
   ·rw [if_pos c3] at H
    have c3b0 : decide (x5_1 < (l0.length : Int)) = true := decide_eq_true c3
    clear c3
    by_cases c4 : 0 ≤ x5_1
    ·rw [if_pos c4] at H
     have c4b0 : decide (0 ≤ x5_1) = true := decide_eq_true c4
     clear c4
     by_cases c5 : ((rd_T67 l0 x5_1).f0) = x1_1
     ·rw [if_pos c5] at H
      have c5b0 : (((rd_T67 l0 x5_1).f0) == x1_1) = true := beq_iff_eq.mpr c5
      have c5b1 : (((rd_T67 l0 x5_1).f0) != x1_1) = false := bne_eq_false_iff_eq.mpr c5
      clear c5
      by_cases c6 : ((rd_T67 l0 x5_1).f1) = (wrap64 (x1_1 + 1))
      ·rw [if_pos c6] at H
       have c6b0 : (((rd_T67 l0 x5_1).f1) == (wrap64 (x1_1 + 1))) = true := beq_iff_eq.mpr c6
       have c6b1 : (((rd_T67 l0 x5_1).f1) != (wrap64 (x1_1 + 1))) = false := bne_eq_false_iff_eq.mpr c6
       clear c6
       by_cases c7 : ((rd_T67 l0 x5_1).f2) = (wrap64 ((wrap64 (x1_1 + 1)) + 1))
       ·rw [if_pos c7] at H
        have c7b0 : (((rd_T67 l0 x5_1).f2) == (wrap64 ((wrap64 (x1_1 + 1)) + 1))) = true := beq_iff_eq.mpr c7
        have c7b1 : (((rd_T67 l0 x5_1).f2) != (wrap64 ((wrap64 (x1_1 + 1)) + 1))) = false := bne_eq_false_iff_eq.mpr c7
        clear c7
        have H' := Aside0.mk H
        clear H
        have p582 : 0 ≤ (x5_1 : Int) := of_decide_eq_true (by assumption)
        have q582 : x5_1 < (l0.length : Int) := of_decide_eq_true (by assumption)
        obtain ⟨ad582, e582, hx582_0, hx582_1, hx582_2⟩ := at_T67 HR0.out x5_1 p582 q582
        cases e582
        replace p582 := eq_true p582
        replace q582 := eq_true q582
        have p583 : 0 ≤ (x5_1 : Int) := of_decide_eq_true (by assumption)
        have q583 : x5_1 < (l0.length : Int) := of_decide_eq_true (by assumption)
        obtain ⟨ad583, e583, hx583_0, hx583_1, hx583_2⟩ := at_T67 HR0.out x5_1 p583 q583
        obtain rfl : ad582 = ad583 := (by injection e583)
        replace p583 := eq_true p583
        replace q583 := eq_true q583
        have p584 : 0 ≤ (x5_1 : Int) := of_decide_eq_true (by assumption)
        have q584 : x5_1 < (l0.length : Int) := of_decide_eq_true (by assumption)
        obtain ⟨ad584, e584, hx584_0, hx584_1, hx584_2⟩ := at_T67 HR0.out x5_1 p584 q584
        obtain rfl : ad582 = ad584 := (by injection e584)
        replace p584 := eq_true p584
        replace q584 := eq_true q584
        go_wp2
        go_roundg k1
        case measure => have := HK1.out; omega
        case rel => exact ⟨(wrap64 ((wrap64 ((wrap64 (x1_1 + 1)) + 1)) + 1)), (wrap64 (x5_1 + 1)), (by first | rfl | (simp; done) | (simp [*]; done)), (by first | rfl | (simp; done) | (simp [*]; done)), H', ⟨by have := HK1.out; omega⟩, by repeat (first | exact Drawn0.refl _ | apply Drawn0.step)⟩
       ·rw [if_neg c7] at H
        have c7b0 : (((rd_T67 l0 x5_1).f2) == (wrap64 ((wrap64 (x1_1 + 1)) + 1))) = false := beq_eq_false_iff_ne.mpr c7
        have c7b1 : (((rd_T67 l0 x5_1).f2) != (wrap64 ((wrap64 (x1_1 + 1)) + 1))) = true := bne_iff_ne.mpr c7
        obtain rfl := oI H
        have p582 : 0 ≤ (x5_1 : Int) := of_decide_eq_true (by assumption)
        have q582 : x5_1 < (l0.length : Int) := of_decide_eq_true (by assumption)
        obtain ⟨ad582, e582, hx582_0, hx582_1, hx582_2⟩ := at_T67 HR0.out x5_1 p582 q582
        cases e582
        replace p582 := eq_true p582
        replace q582 := eq_true q582
        have p583 : 0 ≤ (x5_1 : Int) := of_decide_eq_true (by assumption)
        have q583 : x5_1 < (l0.length : Int) := of_decide_eq_true (by assumption)
        obtain ⟨ad583, e583, hx583_0, hx583_1, hx583_2⟩ := at_T67 HR0.out x5_1 p583 q583
        obtain rfl : ad582 = ad583 := (by injection e583)
        replace p583 := eq_true p583
        replace q583 := eq_true q583
        have p584 : 0 ≤ (x5_1 : Int) := of_decide_eq_true (by assumption)
        have q584 : x5_1 < (l0.length : Int) := of_decide_eq_true (by assumption)
        obtain ⟨ad584, e584, hx584_0, hx584_1, hx584_2⟩ := at_T67 HR0.out x5_1 p584 q584
        obtain rfl : ad582 = ad584 := (by injection e584)
        replace p584 := eq_true p584
        replace q584 := eq_true q584
        go_wp2
        go_ret
        exact ⟨by first | rfl | (simp; done) | (simp [*]; done), by repeat (first | exact Drawn0.refl _ | apply Drawn0.step)⟩
      ·rw [if_neg c6] at H
       have c6b0 : (((rd_T67 l0 x5_1).f1) == (wrap64 (x1_1 + 1))) = false := beq_eq_false_iff_ne.mpr c6
       have c6b1 : (((rd_T67 l0 x5_1).f1) != (wrap64 (x1_1 + 1))) = true := bne_iff_ne.mpr c6
       obtain rfl := oI H
       have p582 : 0 ≤ (x5_1 : Int) := of_decide_eq_true (by assumption)
       have q582 : x5_1 < (l0.length : Int) := of_decide_eq_true (by assumption)
       obtain ⟨ad582, e582, hx582_0, hx582_1, hx582_2⟩ := at_T67 HR0.out x5_1 p582 q582
       cases e582
       replace p582 := eq_true p582
       replace q582 := eq_true q582
       have p583 : 0 ≤ (x5_1 : Int) := of_decide_eq_true (by assumption)
       have q583 : x5_1 < (l0.length : Int) := of_decide_eq_true (by assumption)
       obtain ⟨ad583, e583, hx583_0, hx583_1, hx583_2⟩ := at_T67 HR0.out x5_1 p583 q583
       obtain rfl : ad582 = ad583 := (by injection e583)
       replace p583 := eq_true p583
       replace q583 := eq_true q583
       go_wp2
       go_ret
       exact ⟨by first | rfl | (simp; done) | (simp [*]; done), by repeat (first | exact Drawn0.refl _ | apply Drawn0.step)⟩
     ·rw [if_neg c5] at H
      have c5b0 : (((rd_T67 l0 x5_1).f0) == x1_1) = false := beq_eq_false_iff_ne.mpr c5
      have c5b1 : (((rd_T67 l0 x5_1).f0) != x1_1) = true := bne_iff_ne.mpr c5
      obtain rfl := oI H
      have p582 : 0 ≤ (x5_1 : Int) := of_decide_eq_true (by assumption)
      have q582 : x5_1 < (l0.length : Int) := of_decide_eq_true (by assumption)
      obtain ⟨ad582, e582, hx582_0, hx582_1, hx582_2⟩ := at_T67 HR0.out x5_1 p582 q582
      cases e582
      replace p582 := eq_true p582
      replace q582 := eq_true q582
      go_wp2
      go_ret
      exact ⟨by first | rfl | (simp; done) | (simp [*]; done), by repeat (first | exact Drawn0.refl _ | apply Drawn0.step)⟩
    ·rw [if_neg c4] at H
     exact absurd H (by simp)
   ·rw [if_neg c3] at H
    have c3b0 : decide (x5_1 < (l0.length : Int)) = false := decide_eq_false c3
    clear c3
    obtain rfl := oI H
    go_wp2
    go_ret
    exact ⟨by first | rfl | (simp; done) | (simp [*]; done), by repeat (first | exact Drawn0.refl _ | apply Drawn0.step)⟩
def laws_heldPuzzle.f (k : Nat) (l0_0 : List (S67)) (a1 : Int) : Option (Int) := (laws_heldClueS.f k l0_0 a1).bind fun t586 => (if t586 < 0 then (some (-1)) else (some t586))
theorem laws_heldPuzzle.mono : ∀ a0 a1 k, LeO (laws_heldPuzzle.f k a0 a1) (laws_heldPuzzle.f (k + 1) a0 a1) := by
 intro a0 a1 k
 unfold laws_heldPuzzle.f
 repeat' first
   | (with_reducible exact laws_heldClueS.mono _ _ _)
   | (with_reducible exact LeO.refl _)
   | (with_reducible exact LeO.none _)
   | (with_reducible refine LeO.ite ?_ ?_)
   | (with_reducible refine LeO.bind ?_ (fun _ => ?_))
   | exact laws_heldClueS.mono _ _ _
   | exact LeO.none _
   | refine LeO.ite ?_ ?_
   | refine LeO.bind ?_ (fun _ => ?_)
set_option maxHeartbeats 8000000 in
set_option maxRecDepth 100000 in
theorem laws_heldPuzzle.calls (k : Nat) (A0_0 : Option Addr) (c0_0 : Nat) (l0_0 : List (S67)) (a1 : Int) (r : Int) (w : World) (hr0_0 : Kd.C k67 w A0_0 l0_0.length l0_0) (hc0_0 : l0_0.length ≤ c0_0) (h : laws_heldPuzzle.f k l0_0 a1 = some r) :
  Calls Try.prog 39 #[.agg #[.slice A0_0 l0_0.length c0_0], .int .i64 a1] w fun e w' => e = .returned (.int .i64 r) ∧ Below w.heap.size w w' := by
 have hu30 := Try.underlying30
 have HR0_0 := Aside0.mk hr0_0
 have HC0_0 := Aside0.mk hc0_0
 clear hr0_0 hc0_0
 have HB := Aside0.mk (Below.refl w.heap.size w)
 have H : ((laws_heldClueS.f k l0_0 a1).bind fun t586 => (if t586 < 0 then (some (-1)) else (some t586))) = some r := h
 clear h
 replace H := bI H
 obtain ⟨t586, A30, H⟩ := H
 replace H : (if t586 < 0 then (some (-1)) else (some t586)) = some r := H
 have A3 := Aside0.mk A30
 clear A30
 by_cases c4 : t586 < 0
 ·rw [if_pos c4] at H
  have c4b0 : decide (t586 < 0) = true := decide_eq_true c4
  clear c4
  obtain rfl := oI H
  go_enter Try.func39, Try.ntmps39
  go_wp2_with (first | ((with_reducible refine gate_dst (N := 2) rfl ?_); refine box_event ?hg (N := 2) ?hd (cs := #[.slice A0_0 l0_0.length c0_0]) (t := 30) ?hr ?_; (case hd => rfl); (case hg => rfl); (case hr => first | (go_simp; done) | (go_simp; rfl)); intro gb585 hg w5 hbox hb; have n0_ := Aside0.mk (below_step hb_ hb); have n1_ := Aside0.mk (hbox); have n2_ := Aside0.mk ((by rw [hg]; exact (below_size hb_) : w.heap.size ≤ gb585)); have n3_ := Aside0.mk ((by rw [hg]; exact (below_size hb_) : w.heap.size ≤ gb585)); clear HB; have HB := n0_; have BK585 := n1_; have GW585 := n2_; have GE585 := n3_; clear n0_ n1_ n2_ n3_; clear hb hbox hg; have hcz6_0 : w5.cell? ⟨gb585, 0, none⟩ = some (.slice A0_0 l0_0.length c0_0) := (blk_cell BK585.out 0).trans rfl; have hfz6_0 := blk_frozen BK585.out 0) | ((with_reducible refine gate_callee (f := 57) rfl ?_); refine goesL_ (some 8) rfl rfl Try.func57 (by kernel_rfl) rfl #[.slice A0_0 l0_0.length c0_0, .int .i64 a1] rfl ar_ ?_; (with_reducible refine (laws_heldClueS.calls k _ _ l0_0 a1 t586 _ ?side1 ?side2 A3.out).mono ?_); (case side1 => repeat (first | exact (Kd.C_below HR0_0.out HB.out) | (with_reducible refine Kd.C_alloc ?_ _) | (with_reducible refine Kd.C_drewN ?_ _) | (with_reducible refine Kd.C_drew ?_))); (case side2 => exact HC0_0.out); rintro e w' ⟨rfl, ⟨nd, rfl⟩⟩; refine ⟨_, rfl, ?_⟩))
  go_ret
  exact ⟨by first | rfl | (simp [errW_none, errW_some] <;> rfl) | (simp [*, errW_none, errW_some] <;> rfl), hs_ GE585.out⟩
 ·rw [if_neg c4] at H
  have c4b0 : decide (t586 < 0) = false := decide_eq_false c4
  clear c4
  obtain rfl := oI H
  go_enter Try.func39, Try.ntmps39
  go_wp2_with (first | ((with_reducible refine gate_dst (N := 2) rfl ?_); refine box_event ?hg (N := 2) ?hd (cs := #[.slice A0_0 l0_0.length c0_0]) (t := 30) ?hr ?_; (case hd => rfl); (case hg => rfl); (case hr => first | (go_simp; done) | (go_simp; rfl)); intro gb585 hg w7 hbox hb; have n0_ := Aside0.mk (below_step hb_ hb); have n1_ := Aside0.mk (hbox); have n2_ := Aside0.mk ((by rw [hg]; exact (below_size hb_) : w.heap.size ≤ gb585)); have n3_ := Aside0.mk ((by rw [hg]; exact (below_size hb_) : w.heap.size ≤ gb585)); clear HB; have HB := n0_; have BK585 := n1_; have GW585 := n2_; have GE585 := n3_; clear n0_ n1_ n2_ n3_; clear hb hbox hg; have hcz8_0 : w7.cell? ⟨gb585, 0, none⟩ = some (.slice A0_0 l0_0.length c0_0) := (blk_cell BK585.out 0).trans rfl; have hfz8_0 := blk_frozen BK585.out 0) | ((with_reducible refine gate_callee (f := 57) rfl ?_); refine goesL_ (some 8) rfl rfl Try.func57 (by kernel_rfl) rfl #[.slice A0_0 l0_0.length c0_0, .int .i64 a1] rfl ar_ ?_; (with_reducible refine (laws_heldClueS.calls k _ _ l0_0 a1 t586 _ ?side1 ?side2 A3.out).mono ?_); (case side1 => repeat (first | exact (Kd.C_below HR0_0.out HB.out) | (with_reducible refine Kd.C_alloc ?_ _) | (with_reducible refine Kd.C_drewN ?_ _) | (with_reducible refine Kd.C_drew ?_))); (case side2 => exact HC0_0.out); rintro e w' ⟨rfl, ⟨nd, rfl⟩⟩; refine ⟨_, rfl, ?_⟩))
  go_ret
  exact ⟨by first | rfl | (simp [errW_none, errW_some] <;> rfl) | (simp [*, errW_none, errW_some] <;> rfl), hs_ GE585.out⟩
end Go.Proofs.Ytkgaljocaapobaa.Pr
/- The statements' own helpers on lists of clues: marked and held. -/
namespace Go.Proofs.Ytkgaljocaapobaa.M
open Go.RowKit Go.Proofs.YtkgaljocaapobaaW.PrintWords Go.Proofs.Ytkgaljocaapobaa.Pr
def upT (m : Int) (n : Nat) : List Cl := (List.range n).map fun (i : Nat) => ⟨m + 3 * (i : Int), m + 3 * (i : Int) + 1, m + 3 * (i : Int) + 2⟩
theorem upT_length (m : Int) (n : Nat) : (upT m n).length = n := by simp [upT]
theorem upT_succ (m : Int) (n : Nat) : upT m (n + 1) = upT m n ++ [⟨m + 3 * (n : Int), m + 3 * (n : Int) + 1, m + 3 * (n : Int) + 2⟩] := by
  unfold upT
  rw [List.range_succ, List.map_append]
  rfl
theorem upT_get (m : Int) (n i : Nat) (h : i < (upT m n).length) : (upT m n)[i] = ⟨m + 3 * (i : Int), m + 3 * (i : Int) + 1, m + 3 * (i : Int) + 2⟩ := by
  simp [upT]
theorem setT_mid (A : List Cl) (x v : Cl) (r : List Cl) : (A ++ x :: r).set A.length v = A ++ v :: r := by
  rw [List.set_append_right _ _ (Nat.le_refl _), Nat.sub_self, List.set_cons_zero]
theorem markClS_ev (l : List Cl) (m : Int) (hm : 0 ≤ m) (hb : m + 3 * l.length ≤ 9223372036854775806) : Ev (fun k => laws_markClueS.f k l m) (m + 3 * (l.length : Int), upT m l.length) := by
  unfold laws_markClueS.f
  exact Ev.scan0 (fun k i (acc : List Cl × Int) => laws_markClueS.l0 k acc.1 acc.2 i) l (fun _ _ => (m + 3 * (l.length : Int), upT m l.length)) (fun i acc => acc = (upT m i ++ l.drop i, m + 3 * (i : Int)))
    (fun acc hp => by
      refine Ev.step (fun k => by rw [laws_markClueS.l0]) ?_
      rw [hp]
      refine Ev.neg (by simp [upT_length]) (Ev.val ?_)
      simp)
    (fun i h acc hp => by
      refine .inl ⟨(upT m (i + 1) ++ l.drop (i + 1), m + 3 * ((i + 1 : Nat) : Int)), rfl, rfl, fun r hr2 => ?_⟩
      refine Ev.step (fun k => by rw [laws_markClueS.l0]) ?_
      rw [hp]
      have hll : (upT m i ++ l.drop i).length = l.length := by simp [upT_length]; omega
      refine Ev.pos (by rw [hll]; omega) (Ev.pos (by omega) ?_)
      simp only [Option.bind_some]
      have h2 : ∀ u v : Cl, (upT m i ++ u :: l.drop (i + 1)).set i v = upT m i ++ v :: l.drop (i + 1) := by
        intro u v
        have := setT_mid (upT m i) u v (l.drop (i + 1))
        rwa [upT_length] at this
      have hg : ∀ u : Cl, rd_T67 (upT m i ++ u :: l.drop (i + 1)) (i : Int) = u := by
        intro u
        have hlt : i < (upT m i ++ u :: l.drop (i + 1)).length := by simp [upT_length]
        rw [rd_cl _ i hlt, List.getElem_append_right (by rw [upT_length]; exact Nat.le_refl _)]
        simp [upT_length]
      rw [Int.toNat_natCast, List.drop_eq_getElem_cons h]
      simp only [h2, hg]
      rw [w64 (x := (i : Int) + 1) (by omega) (by omega), w64 (x := m + 3 * (i : Int) + 1) (by omega) (by omega), w64 (x := m + 3 * (i : Int) + 1 + 1) (by omega) (by omega), w64 (x := m + 3 * (i : Int) + 1 + 1 + 1) (by omega) (by omega)]
      rw [upT_succ, List.append_assoc] at hr2
      have e2 : m + 3 * ((i + 1 : Nat) : Int) = m + 3 * (i : Int) + 1 + 1 + 1 := by omega
      have e3 : m + 3 * (i : Int) + 2 = m + 3 * (i : Int) + 1 + 1 := by omega
      rw [e2, e3] at hr2
      exact hr2)
    (l, m) (by simp [upT])
theorem heldClS_ev (n : Nat) (m : Int) (hm : 0 ≤ m) (hb : m + 3 * n ≤ 9223372036854775806) : Ev (fun k => laws_heldClueS.f k (upT m n) m) (m + 3 * (n : Int)) := by
  unfold laws_heldClueS.f
  have e := Ev.scan0 (fun k i (acc : Int) => laws_heldClueS.l0 k (upT m n) acc i) (upT m n) (fun _ _ => m + 3 * (n : Int)) (fun i acc => acc = m + 3 * (i : Int))
    (fun acc hp => by
      refine Ev.step (fun k => by rw [laws_heldClueS.l0]) ?_
      refine Ev.neg (by omega) (Ev.val ?_)
      rw [hp, upT_length])
    (fun i h acc hp => by
      refine .inl ⟨m + 3 * ((i + 1 : Nat) : Int), rfl, rfl, fun r hr2 => ?_⟩
      have hn : i < n := by rw [upT_length] at h; exact h
      refine Ev.step (fun k => by rw [laws_heldClueS.l0]) ?_
      refine Ev.pos (by omega) (Ev.pos (by omega) ?_)
      rw [rd_cl _ i h, upT_get, hp]
      rw [w64 (x := (i : Int) + 1) (by omega) (by omega), w64 (x := m + 3 * (i : Int) + 1) (by omega) (by omega), w64 (x := m + 3 * (i : Int) + 1 + 1) (by omega) (by omega), w64 (x := m + 3 * (i : Int) + 1 + 1 + 1) (by omega) (by omega)]
      refine Ev.pos rfl (Ev.pos rfl (Ev.pos (by show m + 3 * (i : Int) + 2 = _; omega) ?_))
      have e2 : m + 3 * ((i + 1 : Nat) : Int) = m + 3 * (i : Int) + 1 + 1 + 1 := by omega
      rw [e2] at hr2
      exact hr2)
    m (by simp)
  exact e
theorem markP_ev (l : List Cl) (hb : l.length ≤ 1048576) : Ev (fun k => laws_markPuzzle.f k l 1) (1 + 3 * (l.length : Int), upT 1 l.length) := by
  unfold laws_markPuzzle.f
  exact Ev.bindk (markClS_ev l 1 (by omega) (by omega)) (Ev.val rfl)
theorem heldP_ev (n : Nat) (hb : n ≤ 1048576) : Ev (fun k => laws_heldPuzzle.f k (upT 1 n) 1) (1 + 3 * (n : Int)) := by
  unfold laws_heldPuzzle.f
  exact Ev.bindk (heldClS_ev n 1 (by omega) (by omega)) (Ev.neg (by omega) (Ev.val rfl))
end Go.Proofs.Ytkgaljocaapobaa.M
/- Solutions: the plain law. -/
namespace Go.Proofs.Ytkgaljocaapobaa.Pure
open Go.RowKit Go.Proofs.Ytkgaljocaapobaa.Pr Go.Proofs.YtkgaljocaapobaaW.PrintWords Go.Proofs.YtkgaljocaapobaaW.PrintLast Go.Proofs.Ytkgaljocaapobaa.M
theorem sol_spec (l : List Cl) (hl : l.length ≤ 1048576) : Ev (fun k => spec_Solutions.f k l) (solR l) := by
  unfold spec_Solutions.f solR
  refine Ev.bindk (pzGood_ev l) ?_
  by_cases h : puzB l = true
  · simp only [if_pos h]
    exact Ev.bindk (pzAll_ev l hl) (Ev.val rfl)
  · simp only [if_neg h]
    exact Ev.val rfl
theorem FnExactSolutions : ∀ (l0_0 : List S72), l0_0.length ≤ maxLen → (∀ x ∈ l0_0, (Lit.int .i64 x.f0).wf = true ∧ (Lit.int .i64 x.f1).wf = true ∧ (Lit.int .i64 x.f2).wf = true) → ∃ k, laws_FnExactSolutions.f k l0_0 = some true := by
  intro l hm _
  suffices h : Ev (fun k => laws_FnExactSolutions.f k l) true by
    obtain ⟨k, hk⟩ := h
    exact ⟨k, hk k (Nat.le_refl k)⟩
  unfold laws_FnExactSolutions.f
  by_cases hb : l.length ≤ 1048576
  · have hml : (l.map toCl).length ≤ 1048576 := by simpa using hb
    have hs := solR_len (l.map toCl)
    have hi := solutions_eq (l.map toCl)
    refine Ev.bindc (szP_small l hb) (Ev.neg (by omega) (Ev.bindk (toP_ev l hb) (Ev.bindk (sol_spec _ hml) (Ev.bindk (toP_ev l hb) (Ev.bindc hi ?_)))))
    generalize solR (l.map toCl) = y at hs hi
    refine Ev.bindk (eqS_ev y.1 (by omega)) (Ev.pos rfl (Ev.step (fun k => by rw [laws_FnExactSolutions.j0]) ?_))
    refine Ev.neg (by simp) (Ev.bindk (toP_ev l hb) (Ev.bindk (eqP_ev _ (by omega)) (Ev.pos rfl ?_)))
    refine Ev.bindk (markP_ev _ hml) (Ev.neg (by omega) (Ev.bindk (eqS_ev y.1 (by omega)) (Ev.pos rfl (Ev.step (fun k => by rw [laws_FnExactSolutions.j1]) ?_))))
    refine Ev.neg (by simp) (Ev.bindk (markS_ev y.1 1 (by omega) (by omega)) (Ev.bindk (heldS_ev _ 1 (by omega) (by omega)) (Ev.neg (by omega) (Ev.pos rfl ?_))))
    refine Ev.bindk (toP_ev l hb) (Ev.bindc hi (Ev.bindk (eqS_ev y.1 (by omega)) (Ev.pos rfl (Ev.step (fun k => by rw [laws_FnExactSolutions.j2]) ?_))))
    exact Ev.neg (by simp) (Ev.bindk (heldS_ev _ 1 (by omega) (by omega)) (Ev.neg (by omega) (Ev.pos rfl (Ev.val rfl))))
  · exact Ev.bindc (szP_big l (by omega) hm) (Ev.pos (by omega) (Ev.val rfl))
end Go.Proofs.Ytkgaljocaapobaa.Pure
/- Shared steps of the rows: an argument that is a slice of structs of whole numbers, read as a list of lists of numbers. -/
namespace Go.Proofs.Ytkgaljocaapobaa.RowA
open Go.ChangeShapes Go.WideShapes Go.Deep Go.RowKit Go.Proofs.YtkgaljocaapobaaW.PrintWords
section
variable {H : Type} {enc : TypeId × Value → H} {P : Program} {w : World} {base : Nat} {spare : Nat → Bool} {held : Bool}
/-- A slice of structs whose fields are one cell each: nil, or an address with, for each element and each field, the cell and the field's own reading. -/
theorem open_cells {t e : TypeId} {fs : Array Field} {fuel : Nat} {cs : List Value} {x : DataW H × List MemPlace} (ht : P.underlying t = some (.slice e)) (he : P.underlying e = some (.struct fs))
    (hone : oneCellFields P fs = true) (hC : P.cellsOf e = fs.size) (h : DataW.trod enc P w base spare held fuel t cs = some x) :
    cs = [.slice none 0 0] ∨
    ∃ (a : Addr) (len cap : Nat), cs = [.slice (some a) len cap] ∧ len ≤ cap ∧ cap ≤ maxLen ∧
      ∀ i, i < len → ∃ n, ∀ (j : Nat) (f : Field), fs[j]? = some f → ∃ (v : Value) (y : DataW H × List MemPlace), w.cell? (a.add (i * fs.size + j)) = some v ∧ DataW.trod enc P w base spare held n f.type [v] = some y := by
  rcases open_slice ht h with h0 | ⟨a, len, cap, m, n, D, Pl, hcs, hb, hl, hm, hmm, hx, hi⟩
  · exact .inl h0.1
  · refine .inr ⟨a, len, cap, hcs, hl, hm, fun i hil => ?_⟩
    have him : i < m := by
      rw [hmm]
      split
      · omega
      · exact hil
    obtain ⟨cs', hc, ht'⟩ := hi i him
    rw [hC] at hc
    obtain ⟨ys, n', hn', hy, hlen, hyl, hf⟩ := DataW.trod_struct he ht'
    obtain ⟨_, hcl, hat⟩ := World.cells?_some hc
    refine ⟨n', fun j f hj => ?_⟩
    obtain ⟨ho, hk⟩ := hone_of hone j f hj
    have hjl : j < fs.size := (Array.getElem?_eq_some_iff.1 hj).1
    have hcell := hat j hjl
    have hv : cs'[j]? = some (cs'[j]'(by omega)) := List.getElem?_eq_getElem (by omega)
    have h1 := hf j f hj
    rw [ho, hk] at h1
    have hone' : (cs'.drop j).take 1 = [cs'[j]'(by omega)] := by
      rw [List.drop_eq_getElem_cons (by omega)]
      rfl
    rw [hone'] at h1
    have hys : ys[j]? = some (ys[j]'(by omega)) := List.getElem?_eq_getElem (by omega)
    refine ⟨_, _, ?_, h1.trans hys⟩
    rw [← Go.Deep.add_add, hcell, hv]
/-- One whole number's reading. -/
theorem read_i64 {t : TypeId} {n : Nat} {v : Value} {y : DataW H × List MemPlace} (hu : P.underlying t = some (.int .i64)) (h : DataW.trod enc P w base spare held n t [v] = some y) :
    ∃ z : Int, v = .int .i64 z ∧ (Lit.int .i64 z).wf = true := by
  obtain ⟨z, hz, _, hw⟩ := DataW.trod_int hu h
  simp at hz
  exact ⟨z, hz, hw⟩
/-- A slice of structs of m whole numbers, as it is handed over: the numbers by element and field. -/
theorem open_nums {t e : TypeId} {fs : Array Field} {a : Option Addr} {len cap : Nat} {d : DataW H} {ps : List MemPlace} (ht : P.underlying t = some (.slice e)) (he : P.underlying e = some (.struct fs))
    (hone : oneCellFields P fs = true) (hC : P.cellsOf e = fs.size) (hi : ∀ (j : Nat) (f : Field), fs[j]? = some f → P.underlying f.type = some (.int .i64))
    (h : DataW.Trod enc P w base spare held t (.slice a len cap) d ps) :
    len ≤ cap ∧ len ≤ maxLen ∧ ∃ z : Nat → Nat → Int, (∀ i j, i < len → j < fs.size → (Lit.int .i64 (z i j)).wf = true) ∧
      (0 < len → ∃ ad, a = some ad ∧ ∀ i j, i < len → j < fs.size → w.cell? (ad.add (i * fs.size + j)) = some (.int .i64 (z i j))) := by
  obtain ⟨fuel, hf⟩ := h
  rcases open_cells ht he hone hC hf with hcs | ⟨x, l, c, hcs, hl, hm, hcell⟩
  · simp [Value.cells] at hcs
    obtain ⟨rfl, rfl, rfl⟩ := hcs
    exact ⟨Nat.le_refl _, Nat.zero_le _, fun _ _ => 0, fun i j h => absurd h (Nat.not_lt_zero _), fun h => absurd h (Nat.not_lt_zero _)⟩
  · simp [Value.cells] at hcs
    obtain ⟨rfl, rfl, rfl⟩ := hcs
    refine ⟨hl, Nat.le_trans hl hm, ?_⟩
    have hz : ∀ i j, ∃ z : Int, i < len → j < fs.size → w.cell? (x.add (i * fs.size + j)) = some (.int .i64 z) ∧ (Lit.int .i64 z).wf = true := by
      intro i j
      by_cases h1 : i < len
      · by_cases h2 : j < fs.size
        · obtain ⟨n, hn⟩ := hcell i h1
          obtain ⟨v, y, hv, hy⟩ := hn j fs[j] (Array.getElem?_eq_getElem h2)
          obtain ⟨z, rfl, hw⟩ := read_i64 (hi j fs[j] (Array.getElem?_eq_getElem h2)) hy
          exact ⟨z, fun _ _ => ⟨hv, hw⟩⟩
        · exact ⟨0, fun _ h => absurd h h2⟩
      · exact ⟨0, fun h _ => absurd h h1⟩
    exact ⟨fun i j => (hz i j).choose, fun i j h1 h2 => ((hz i j).choose_spec h1 h2).2, fun _ => ⟨x, rfl, fun i j h1 h2 => ((hz i j).choose_spec h1 h2).1⟩⟩
/-- The same, of one reading. -/
theorem open_nums_at {t e : TypeId} {fs : Array Field} {a : Option Addr} {len cap fuel : Nat} {x : DataW H × List MemPlace} (ht : P.underlying t = some (.slice e)) (he : P.underlying e = some (.struct fs))
    (hone : oneCellFields P fs = true) (hC : P.cellsOf e = fs.size) (hi : ∀ (j : Nat) (f : Field), fs[j]? = some f → P.underlying f.type = some (.int .i64))
    (hf : DataW.trod enc P w base spare held fuel t [.slice a len cap] = some x) :
    len ≤ cap ∧ len ≤ maxLen ∧ ∃ z : Nat → Nat → Int, (∀ i j, i < len → j < fs.size → (Lit.int .i64 (z i j)).wf = true) ∧
      (0 < len → ∃ ad, a = some ad ∧ ∀ i j, i < len → j < fs.size → w.cell? (ad.add (i * fs.size + j)) = some (.int .i64 (z i j))) :=
  open_nums (d := x.1) (ps := x.2) ht he hone hC hi ⟨fuel, by simpa [Value.cells] using hf⟩
/-- A struct of one slice. -/
theorem open_one {r : Reach} {b0 : Nat} {t e : TypeId} {f0 : Field} {v : Value} {d : DataW H} {p : List MemPlace} (hs : P.underlying t = some (.struct #[f0])) (hf0 : P.underlying f0.type = some (.slice e)) (hone : oneCellFields P #[f0] = true) (hC : P.cellsOf t = 1)
    (hv : Value.okWide P w r b0 t v) (h : DataW.Trod enc P w base spare held t v d p) :
    ∃ (a : Option Addr) (len cap : Nat) (y : DataW H × List MemPlace) (n : Nat), v = .agg #[.slice a len cap] ∧ DataW.trod enc P w base spare held n f0.type [.slice a len cap] = some y := by
  obtain ⟨cs, rfl, hsz⟩ := okWide_struct hs hv
  rw [hC] at hsz
  obtain ⟨c0, rfl⟩ : ∃ c, cs = #[c] := Array.size_eq_one_iff.mp hsz
  obtain ⟨fuel, hf⟩ := h
  obtain ⟨ys, n', hn', hy, hlen, hyl, hg⟩ := DataW.trod_struct hs hf
  obtain ⟨o0, k0⟩ := hone_of hone 0 f0 rfl
  have h1 := hg 0 f0 rfl
  rw [o0, k0] at h1
  have hv1 : (List.drop 0 (Value.agg #[c0]).cells.toList).take 1 = [c0] := rfl
  have h2 : DataW.trod enc P w base spare held n' f0.type [c0] = ys[0]? := h1
  have hys : ys[0]? = some (ys[0]'(by rw [hyl]; exact Nat.zero_lt_one)) := List.getElem?_eq_getElem _
  rw [hys] at h2
  rcases open_slice hf0 h2 with h0 | ⟨a, len, cap, m, n, D, Pl, hcs, _⟩
  · have := h0.1
    simp at this
    subst this
    exact ⟨none, 0, 0, _, n', rfl, h2⟩
  · simp at hcs
    subst hcs
    exact ⟨some a, len, cap, _, n', rfl, h2⟩
end
end Go.Proofs.Ytkgaljocaapobaa.RowA
/- The row of the law FnExactSolutions: The program's Solutions returns what the reference's returns, for all arguments. -/
namespace Go.Proofs.Ytkgaljocaapobaa.fnExactSolutions
open Go.ChangeShapes Go.WideShapes Go.ChangeAt Go.RowKit Go.Proofs.Ytkgaljocaapobaa.Pr Go.Proofs.YtkgaljocaapobaaW.PrintWords
open Go.ChangeMaps (open_string shut_string)
theorem own : ownKnob Try.prog.godebug = none := by kernel_rfl
theorem laidOut : laidOutB Try.prog = true := by kernel_rfl
theorem rows72 {W : World} {a : Option Addr} {len cap : Nat} {z : Nat → Nat → Int} (hm : len ≤ maxLen) (hz : 0 < len → ∃ ad, a = some ad ∧ ∀ i j, i < len → j < 3 → W.cell? (ad.add (i * 3 + j)) = some (.int .i64 (z i j)))
    (hw : ∀ i j, i < len → j < 3 → (Lit.int .i64 (z i j)).wf = true) : ∃ l : List S72, l.length = len ∧ Kd.C k72 W a l.length l ∧ ∀ x ∈ l, (Lit.int .i64 x.f0).wf = true ∧ (Lit.int .i64 x.f1).wf = true ∧ (Lit.int .i64 x.f2).wf = true := by
  have hl : ((List.range len).map fun i => (⟨z i 0, z i 1, z i 2⟩ : S72)).length = len := by simp
  refine ⟨(List.range len).map fun i => (⟨z i 0, z i 1, z i 2⟩ : S72), hl, ⟨rfl, by rw [hl]; unfold maxLen at hm; omega, fun hn => ?_⟩, fun x hx => ?_⟩
  · obtain ⟨ad, e, hc⟩ := hz (by rw [hl] at hn; exact hn)
    refine ⟨ad, e, fun j p hj => ?_⟩
    have hjl : j < len := by have := (List.getElem?_eq_some_iff.1 hj).1; rw [hl] at this; exact this
    have hp : p = (⟨z j 0, z j 1, z j 2⟩ : S72) := by
      rw [List.getElem?_map, List.getElem?_range hjl] at hj
      exact (Option.some.inj hj).symm
    subst hp
    refine ⟨[.int .i64 (z j 0), .int .i64 (z j 1), .int .i64 (z j 2)], rfl, k72_mk W (⟨z j 0, z j 1, z j 2⟩ : S72), fun i u hi => ?_⟩
    have hi2 : i < 3 := by have := (List.getElem?_eq_some_iff.1 hi).1; exact this
    have hcell := hc j i hjl hi2
    match i, hi2, hi with
    | 0, _, hi => (obtain rfl := Option.some.inj hi; exact hcell)
    | 1, _, hi => (obtain rfl := Option.some.inj hi; exact hcell)
    | 2, _, hi => (obtain rfl := Option.some.inj hi; exact hcell)
  · obtain ⟨i, hi, rfl⟩ := List.mem_map.1 hx
    have hil := List.mem_range.1 hi
    exact ⟨hw i 0 hil (by decide), hw i 1 hil (by decide), hw i 2 hil (by decide)⟩
set_option maxRecDepth 100000 in
theorem lifted (os : Os) (started : os.Started) (H : Type) (enc : TypeId × Value → H) :
    ReturnsInHanded {} Try.checked os 9 .any (Rows.fnExactSolutionsSpec.pre6 enc Try.prog Try.f9 Rows.fnExactSolutionsRow.domain false) (Rows.fnExactSolutionsSpec.post enc Try.prog Try.f9 false true false false) := by
  refine returnsInHanded_of_change_sized (C := Try.checked) own started (by kernel_rfl) Try.func9
    (ChangeSpec.witness6 (enc := enc) (C := Try.checked) false ⟨#[], #[.agg #[.slice none 0 0]], []⟩ 8 (by kernel_rfl) (by kernel_rfl) (by kernel_rfl) (by kernel_rfl)) ?_
  intro W base args ds gs before hval0 hW hcnd hsz0 _
  have hsz : (DataW.weightsEach Try.prog (Try.f9.params.toList ++ Rows.fnExactSolutionsSpec.plain.varTypes Try.prog) (ds ++ gs)).all (· ≤ reachBytes) = true := hsz0
  have hval : ∀ (j : Nat) t v, Try.f9.params[j]? = some t → args[j]? = some v → Value.okWide Try.prog W .any base t v := hval0
  have hW' := hW
  obtain ⟨p, q, hA0, hV, rfl, hfz, hnd⟩ := hW
  have hA : DataW.TrodAll enc Try.prog W 0 (fun _ => true) true Try.f9.params.toList args.toList ds p := hA0
  rw [Try.params9] at hA hval hsz
  obtain ⟨v0, vs0, d0, ds0, p0, q0, hargs, rfl, rfl, h0, r0⟩ := trodAll_cons hA
  obtain ⟨rfl, rfl, rfl⟩ := trodAll_nil r0
  obtain rfl : args = #[v0] := by cases args; simp_all
  obtain ⟨rfl, rfl⟩ := trodVars_none hV
  have lt0 : ∀ x ∈ p0, x.block < W.heap.size := by obtain ⟨m, hm⟩ := h0; exact DataW.trod_lt m _ _ _ hm
  have hh0 := h0
  obtain ⟨b0, len0, cap0, y0, n0, rfl, g0⟩ := RowA.open_one Try.underlying24 Try.underlying22 (by kernel_rfl) (by kernel_rfl) (hval 0 24 v0 rfl rfl) h0
  obtain ⟨hl0, hm0, z0, hw0, hz0⟩ := RowA.open_nums_at Try.underlying22 Try.underlying72 (by kernel_rfl) (by kernel_rfl) (fun j f hj => by first | (match j, hj with | 0, hj => (cases hj; exact Try.underlying3) | 1, hj => (cases hj; exact Try.underlying3) | 2, hj => (cases hj; exact Try.underlying3) | j + 3, hj => simp at hj) | skip) g0
  obtain ⟨l0, hn0, hr0, hf0⟩ := rows72 (cap := cap0) hm0 hz0 hw0
  subst hn0
  clear hA0 hval0 hsz0 hsz
  obtain ⟨k, hk⟩ := Pure.FnExactSolutions l0 hm0 hf0
  refine (laws_FnExactSolutions.calls k _ _ l0 true W hr0 hl0 hk).mono fun e W' he => ?_
  obtain ⟨he, bel0⟩ := he
  have bel : Below W.heap.size W W' := bel0
  subst he
  exact ⟨_, rfl, _, _, _, [], _, [], hW', trodAll_mk1 (shut_bool Try.underlying4 _), (trodAll_cons_mk (Below.trod laidOut (by kernel_rfl) (of_decide_eq_true (by kernel_rfl)) hh0 bel lt0) trodAll_mk0), rfl, bel.frame _, fun h => by cases h⟩
theorem over : Rows.fnExactSolutionsRow.holds Try.pinned (OpenSpec.ofChange Rows.fnExactSolutionsSpec) :=
  OpenClaim.holds_of_wide 9 Try.f9 rfl rfl rfl rfl rfl rfl rfl ⟨rfl, rfl, rfl, rfl, rfl⟩ rfl rfl rfl rfl rfl (by kernel_rfl) Try.func9 (by kernel_rfl)
    (of_decide_eq_true (by kernel_rfl)) (by unfold Func.isWrapper; first | (rw [if_pos (by decide +kernel)]; kernel_rfl) | (rw [if_neg (by decide +kernel)]; exact ⟨rfl, rfl⟩))
    (fun os started H enc _ => lifted os started H enc)
theorem proved : Rows.FnExactSolutionsSaid := over
end Go.Proofs.Ytkgaljocaapobaa.fnExactSolutions
namespace Go.Proofs.Ytkgaljocaapobaa
/-- The row, under a short name, for the claim. -/
theorem fnExactSolutions_holds : Rows.FnExactSolutionsSaid := fnExactSolutions.proved
#print axioms fnExactSolutions_holds
end Go.Proofs.Ytkgaljocaapobaa
