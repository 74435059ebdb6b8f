/- The program's NeedlessClues returns what the reference's returns, for all arguments. Condition: none. -/
import Derived.Deep.Slices
import Derived.Deep.Fields
import Derived.ChangeSame
import Derived.ChangeShapes
import Derived.Below
import Derived.Carry
import Derived.Lib.SmallJoins
import Derived.RowKit
import Derived.OpenShut
import Derived.Test.YtkgaljocaapobaaRows
import Derived.WalkKit
import Derived.ProofKit
import Derived.ShutString
import Derived.ChangeOld
import Derived.SizedLaws
import Derived.ChangeSlices
import Derived.Test.YtkgaljocaapobaaKFnExactNeedlessClues0
import Derived.Test.YtkgaljocaapobaaKFnExactNeedlessClues1
import Derived.Test.YtkgaljocaapobaaKFnExactNeedlessClues2
import Derived.Test.YtkgaljocaapobaaKFnExactNeedlessClues3
import Derived.Test.YtkgaljocaapobaaKFnExactNeedlessClues4
import Derived.Test.YtkgaljocaapobaaKFnExactNeedlessClues5
set_option linter.unusedVariables false
set_option linter.unusedSimpArgs false
namespace Go.Proofs.Ytkgaljocaapobaa.Pr
open Go.RowKit Go.Proofs.YtkgaljocaapobaaW.PrintWords Go.Proofs.YtkgaljocaapobaaW.PrintLast Go.Proofs.YtkgaljocaapobaaW.PrintMore
attribute [local go_sem] max2_int min2_int max_two min_two max_three min_three max_four min_four
mutual
def laws_FnExactNeedlessClues.j0 : Nat → List Int → Bool → List Int → Bool → Bool → List (S72) → List (S67) → Option (Bool)
 | 0, _, _, _, _, _, _, _ => none
 | k + 1, x4, x5, x7, x8, x40, x714000, x726000 => if x40 = true then (some false) else ((laws_toPuzzle.f k x714000).bind fun t731 => ((laws_eqPuzzle.f k x726000 t731).bind fun t734 => (if t734 = true then ((laws_markPuzzle.f k x726000 1).bind fun bt735 => (if bt735.1 < 0 then (laws_FnExactNeedlessClues.j1 k x4 x5 x7 true x714000) else ((laws_eqIntS.f k x7 x4).bind fun t737 => (if t737 = true then (laws_FnExactNeedlessClues.j1 k x4 x5 x7 (x8 != x5) x714000) else (laws_FnExactNeedlessClues.j1 k x4 x5 x7 true x714000))))) else (some false))))
def laws_FnExactNeedlessClues.j1 : Nat → List Int → Bool → List Int → Bool → List (S72) → Option (Bool)
 | 0, _, _, _, _, _ => none
 | k + 1, x4, x5, x7, x61, x714000 => if x61 = true then (some false) else ((laws_markIntS.f k x7 1).bind fun bt738 => ((laws_heldIntS.f k bt738.2 1).bind fun t740 => (if t740 < 0 then (some false) else (if t740 = bt738.1 then ((laws_toPuzzle.f k x714000).bind fun t741 => ((impl_NeedlessClues.f t741).bind fun bt744 => ((laws_eqIntS.f k bt744.1 x4).bind fun t748 => (if t748 = true then (laws_FnExactNeedlessClues.j2 k bt738.2 bt738.1 (bt744.2 != x5)) else (laws_FnExactNeedlessClues.j2 k bt738.2 bt738.1 true))))) else (some false)))))
def laws_FnExactNeedlessClues.j2 : Nat → List Int → Int → Bool → Option (Bool)
 | 0, _, _, _ => none
 | k + 1, x7, x10, x87 => if x87 = true then (some false) else ((laws_heldIntS.f k x7 1).bind fun t749 => (if t749 < 0 then (some false) else (if t749 = x10 then (some true) else (some false))))
end
def laws_FnExactNeedlessClues.f (k : Nat) (l0_0 : List (S72)) : Option (Bool) := (laws_szPuzzle.f l0_0 1048576).bind fun t714 => (if t714 < 0 then (some true) else ((laws_toPuzzle.f k l0_0).bind fun t715 => ((spec_NeedlessClues.f k t715).bind fun bt718 => ((laws_toPuzzle.f k l0_0).bind fun t722 => ((impl_NeedlessClues.f t722).bind fun bt726 => ((laws_eqIntS.f k bt726.1 bt718.1).bind fun t730 => (if t730 = true then (laws_FnExactNeedlessClues.j0 k bt718.1 bt718.2 bt726.1 bt726.2 (bt726.2 != bt718.2) l0_0 t722) else (laws_FnExactNeedlessClues.j0 k bt718.1 bt718.2 bt726.1 bt726.2 true l0_0 t722))))))))
theorem laws_FnExactNeedlessClues.mono_l : ∀ k, (∀ y0 y1 y2 y3 y4 y5 y6, LeO (laws_FnExactNeedlessClues.j0 k y0 y1 y2 y3 y4 y5 y6) (laws_FnExactNeedlessClues.j0 (k + 1) y0 y1 y2 y3 y4 y5 y6)) ∧ (∀ y0 y1 y2 y3 y4, LeO (laws_FnExactNeedlessClues.j1 k y0 y1 y2 y3 y4) (laws_FnExactNeedlessClues.j1 (k + 1) y0 y1 y2 y3 y4)) ∧ (∀ y0 y1 y2, LeO (laws_FnExactNeedlessClues.j2 k y0 y1 y2) (laws_FnExactNeedlessClues.j2 (k + 1) y0 y1 y2))
 | 0 => ⟨fun _ _ _ _ _ _ _ r h => by simp [laws_FnExactNeedlessClues.j0] at h, fun _ _ _ _ _ r h => by simp [laws_FnExactNeedlessClues.j1] at h, fun _ _ _ r h => by simp [laws_FnExactNeedlessClues.j2] at h⟩
 | k + 1 => by
  obtain ⟨ih0, ih1, ih2⟩ := laws_FnExactNeedlessClues.mono_l k
  refine ⟨?_, ?_, ?_⟩
  ·intro y0 y1 y2 y3 y4 y5 y6
   unfold laws_FnExactNeedlessClues.j0
   repeat' first
   | (with_reducible exact ih0 _ _ _ _ _ _ _)
   | (with_reducible exact ih1 _ _ _ _ _)
   | (with_reducible exact ih2 _ _ _)
   | (with_reducible exact laws_eqIntS.mono _ _ _)
   | (with_reducible exact laws_eqPuzzle.mono _ _ _)
   | (with_reducible exact laws_heldIntS.mono _ _ _)
   | (with_reducible exact laws_markIntS.mono _ _ _)
   | (with_reducible exact laws_markPuzzle.mono _ _ _)
   | (with_reducible exact laws_toPuzzle.mono _ _)
   | (with_reducible exact spec_NeedlessClues.mono _ _)
   | (with_reducible exact LeO.refl _)
   | (with_reducible exact LeO.none _)
   | (with_reducible refine LeO.ite ?_ ?_)
   | (with_reducible refine LeO.bind ?_ (fun _ => ?_))
   | exact ih0 _ _ _ _ _ _ _
   | exact ih1 _ _ _ _ _
   | exact ih2 _ _ _
   | exact laws_eqIntS.mono _ _ _
   | exact laws_eqPuzzle.mono _ _ _
   | exact laws_heldIntS.mono _ _ _
   | exact laws_markIntS.mono _ _ _
   | exact laws_markPuzzle.mono _ _ _
   | exact laws_toPuzzle.mono _ _
   | exact spec_NeedlessClues.mono _ _
   | exact LeO.none _
   | refine LeO.ite ?_ ?_
   | refine LeO.bind ?_ (fun _ => ?_)
  ·intro y0 y1 y2 y3 y4
   unfold laws_FnExactNeedlessClues.j1
   repeat' first
   | (with_reducible exact ih0 _ _ _ _ _ _ _)
   | (with_reducible exact ih1 _ _ _ _ _)
   | (with_reducible exact ih2 _ _ _)
   | (with_reducible exact laws_eqIntS.mono _ _ _)
   | (with_reducible exact laws_eqPuzzle.mono _ _ _)
   | (with_reducible exact laws_heldIntS.mono _ _ _)
   | (with_reducible exact laws_markIntS.mono _ _ _)
   | (with_reducible exact laws_markPuzzle.mono _ _ _)
   | (with_reducible exact laws_toPuzzle.mono _ _)
   | (with_reducible exact spec_NeedlessClues.mono _ _)
   | (with_reducible exact LeO.refl _)
   | (with_reducible exact LeO.none _)
   | (with_reducible refine LeO.ite ?_ ?_)
   | (with_reducible refine LeO.bind ?_ (fun _ => ?_))
   | exact ih0 _ _ _ _ _ _ _
   | exact ih1 _ _ _ _ _
   | exact ih2 _ _ _
   | exact laws_eqIntS.mono _ _ _
   | exact laws_eqPuzzle.mono _ _ _
   | exact laws_heldIntS.mono _ _ _
   | exact laws_markIntS.mono _ _ _
   | exact laws_markPuzzle.mono _ _ _
   | exact laws_toPuzzle.mono _ _
   | exact spec_NeedlessClues.mono _ _
   | exact LeO.none _
   | refine LeO.ite ?_ ?_
   | refine LeO.bind ?_ (fun _ => ?_)
  ·intro y0 y1 y2
   unfold laws_FnExactNeedlessClues.j2
   repeat' first
   | (with_reducible exact ih0 _ _ _ _ _ _ _)
   | (with_reducible exact ih1 _ _ _ _ _)
   | (with_reducible exact ih2 _ _ _)
   | (with_reducible exact laws_eqIntS.mono _ _ _)
   | (with_reducible exact laws_eqPuzzle.mono _ _ _)
   | (with_reducible exact laws_heldIntS.mono _ _ _)
   | (with_reducible exact laws_markIntS.mono _ _ _)
   | (with_reducible exact laws_markPuzzle.mono _ _ _)
   | (with_reducible exact laws_toPuzzle.mono _ _)
   | (with_reducible exact spec_NeedlessClues.mono _ _)
   | (with_reducible exact LeO.refl _)
   | (with_reducible exact LeO.none _)
   | (with_reducible refine LeO.ite ?_ ?_)
   | (with_reducible refine LeO.bind ?_ (fun _ => ?_))
   | exact ih0 _ _ _ _ _ _ _
   | exact ih1 _ _ _ _ _
   | exact ih2 _ _ _
   | exact laws_eqIntS.mono _ _ _
   | exact laws_eqPuzzle.mono _ _ _
   | exact laws_heldIntS.mono _ _ _
   | exact laws_markIntS.mono _ _ _
   | exact laws_markPuzzle.mono _ _ _
   | exact laws_toPuzzle.mono _ _
   | exact spec_NeedlessClues.mono _ _
   | exact LeO.none _
   | refine LeO.ite ?_ ?_
   | refine LeO.bind ?_ (fun _ => ?_)
theorem laws_FnExactNeedlessClues.mono : ∀ a0 k, LeO (laws_FnExactNeedlessClues.f k a0) (laws_FnExactNeedlessClues.f (k + 1) a0) := by
 intro a0 k
 obtain ⟨ih0, ih1, ih2⟩ := laws_FnExactNeedlessClues.mono_l k
 unfold laws_FnExactNeedlessClues.f
 repeat' first
   | (with_reducible exact ih0 _ _ _ _ _ _ _)
   | (with_reducible exact ih1 _ _ _ _ _)
   | (with_reducible exact ih2 _ _ _)
   | (with_reducible exact laws_eqIntS.mono _ _ _)
   | (with_reducible exact laws_eqPuzzle.mono _ _ _)
   | (with_reducible exact laws_heldIntS.mono _ _ _)
   | (with_reducible exact laws_markIntS.mono _ _ _)
   | (with_reducible exact laws_markPuzzle.mono _ _ _)
   | (with_reducible exact laws_toPuzzle.mono _ _)
   | (with_reducible exact spec_NeedlessClues.mono _ _)
   | (with_reducible exact LeO.refl _)
   | (with_reducible exact LeO.none _)
   | (with_reducible refine LeO.ite ?_ ?_)
   | (with_reducible refine LeO.bind ?_ (fun _ => ?_))
   | exact ih0 _ _ _ _ _ _ _
   | exact ih1 _ _ _ _ _
   | exact ih2 _ _ _
   | exact laws_eqIntS.mono _ _ _
   | exact laws_eqPuzzle.mono _ _ _
   | exact laws_heldIntS.mono _ _ _
   | exact laws_markIntS.mono _ _ _
   | exact laws_markPuzzle.mono _ _ _
   | exact laws_toPuzzle.mono _ _
   | exact spec_NeedlessClues.mono _ _
   | exact LeO.none _
   | refine LeO.ite ?_ ?_
   | refine LeO.bind ?_ (fun _ => ?_)
set_option maxHeartbeats 8000000 in
set_option maxRecDepth 100000 in
theorem laws_FnExactNeedlessClues.calls (k : Nat) (A0_0 : Option Addr) (c0_0 : Nat) (l0_0 : List (S72)) (r : Bool) (w : World) (hr0_0 : Kd.C k72 w A0_0 l0_0.length l0_0) (hc0_0 : l0_0.length ≤ c0_0) (h : laws_FnExactNeedlessClues.f k l0_0 = some r) :
  Calls Try.prog 11 #[.agg #[.slice A0_0 l0_0.length c0_0]] w fun e w' => e = .returned (.bool r) ∧ Below w.heap.size w w' := by
 have hu24 := Try.underlying24
 have hu30 := Try.underlying30
 have HR0_0 := Aside0.mk hr0_0
 have HC0_0 := Aside0.mk hc0_0
 clear hr0_0 hc0_0
 have HB := Aside0.mk (Below.refl w.heap.size w)
 have H : ((laws_szPuzzle.f l0_0 1048576).bind fun t714 => (if t714 < 0 then (some true) else ((laws_toPuzzle.f k l0_0).bind fun t715 => ((spec_NeedlessClues.f k t715).bind fun bt718 => ((laws_toPuzzle.f k l0_0).bind fun t722 => ((impl_NeedlessClues.f t722).bind fun bt726 => ((laws_eqIntS.f k bt726.1 bt718.1).bind fun t730 => (if t730 = true then (laws_FnExactNeedlessClues.j0 k bt718.1 bt718.2 bt726.1 bt726.2 (bt726.2 != bt718.2) l0_0 t722) else (laws_FnExactNeedlessClues.j0 k bt718.1 bt718.2 bt726.1 bt726.2 true l0_0 t722))))))))) = some r := h
 clear h
 replace H := bI H
 obtain ⟨t714, A20, H⟩ := H
 replace H : (if t714 < 0 then (some true) else ((laws_toPuzzle.f k l0_0).bind fun t715 => ((spec_NeedlessClues.f k t715).bind fun bt718 => ((laws_toPuzzle.f k l0_0).bind fun t722 => ((impl_NeedlessClues.f t722).bind fun bt726 => ((laws_eqIntS.f k bt726.1 bt718.1).bind fun t730 => (if t730 = true then (laws_FnExactNeedlessClues.j0 k bt718.1 bt718.2 bt726.1 bt726.2 (bt726.2 != bt718.2) l0_0 t722) else (laws_FnExactNeedlessClues.j0 k bt718.1 bt718.2 bt726.1 bt726.2 true l0_0 t722)))))))) = some r := H
 have A2 := Aside0.mk A20
 clear A20
 by_cases c3 : t714 < 0
 ·rw [if_pos c3] at H
  have c3b0 : decide (t714 < 0) = true := decide_eq_true c3
  clear c3
  obtain rfl := oI H
  go_enter Try.func11, Try.ntmps11
  go_wp2_with (first | ((with_reducible refine gate_dst (N := 1) rfl ?_); refine box_event ?hg (N := 1) ?hd (cs := #[.slice A0_0 l0_0.length c0_0]) (t := 24) ?hr ?_; (case hd => rfl); (case hg => rfl); (case hr => first | (go_simp; done) | (go_simp; rfl)); intro gb713 hg w4 hbox hb; have n0_ := Aside0.mk (below_step hb_ hb); have n1_ := Aside0.mk (hbox); have n2_ := Aside0.mk ((by rw [hg]; exact (below_size hb_) : w.heap.size ≤ gb713)); have n3_ := Aside0.mk ((by rw [hg]; exact (below_size hb_) : w.heap.size ≤ gb713)); clear HB; have HB := n0_; have BK713 := n1_; have GW713 := n2_; have GE713 := n3_; clear n0_ n1_ n2_ n3_; clear hb hbox hg; have hcz5_0 : w4.cell? ⟨gb713, 0, none⟩ = some (.slice A0_0 l0_0.length c0_0) := (blk_cell BK713.out 0).trans rfl; have hfz5_0 := blk_frozen BK713.out 0) | ((with_reducible refine gate_callee (f := 12) rfl ?_); refine goesL_ (some 16) rfl rfl Try.func12 (by kernel_rfl) rfl #[.agg #[.slice A0_0 l0_0.length c0_0], .int .i64 1048576] rfl ar_ ?_; (with_reducible refine (laws_szPuzzle.calls _ _ l0_0 1048576 t714 _ ?side1 ?side2 A2.out).mono ?_); (case side1 => repeat (first | exact (Kd.C_below HR0_0.out HB.out) | (with_reducible refine Kd.C_alloc ?_ _) | (with_reducible refine Kd.C_drewN ?_ _) | (with_reducible refine Kd.C_drew ?_))); (case side2 => exact HC0_0.out); rintro e w6 ⟨rfl, hb⟩; refine ⟨_, rfl, ?_⟩; have n0_ := Aside0.mk (blk_below (g := gb713) (o := .cells #[.slice A0_0 l0_0.length c0_0] 24 (0, 0)) (kx_ BK713.out) hb); have n1_ := Aside0.mk (below_step (hs_ GE713.out) hb); clear BK713; clear HB; have BK713 := n0_; have HB := n1_; clear n0_ n1_; (try clear hb); (try clear hb2); (try clear hk); (try clear hi)))
  go_ret
  exact ⟨by first | rfl | (simp [errW_none, errW_some] <;> rfl) | (simp [*, errW_none, errW_some] <;> rfl), hs_ GE713.out⟩
 ·rw [if_neg c3] at H
  have c3b0 : decide (t714 < 0) = false := decide_eq_false c3
  clear c3
  replace H := bI H
  obtain ⟨t715, A70, H⟩ := H
  replace H : ((spec_NeedlessClues.f k t715).bind fun bt718 => ((laws_toPuzzle.f k l0_0).bind fun t722 => ((impl_NeedlessClues.f t722).bind fun bt726 => ((laws_eqIntS.f k bt726.1 bt718.1).bind fun t730 => (if t730 = true then (laws_FnExactNeedlessClues.j0 k bt718.1 bt718.2 bt726.1 bt726.2 (bt726.2 != bt718.2) l0_0 t722) else (laws_FnExactNeedlessClues.j0 k bt718.1 bt718.2 bt726.1 bt726.2 true l0_0 t722)))))) = some r := H
  have A7 := Aside0.mk A70
  clear A70
  replace H := bI H
  obtain ⟨⟨t718, t721⟩, A80, H⟩ := H
  replace H : ((laws_toPuzzle.f k l0_0).bind fun t722 => ((impl_NeedlessClues.f t722).bind fun bt726 => ((laws_eqIntS.f k bt726.1 t718).bind fun t730 => (if t730 = true then (laws_FnExactNeedlessClues.j0 k t718 t721 bt726.1 bt726.2 (bt726.2 != t721) l0_0 t722) else (laws_FnExactNeedlessClues.j0 k t718 t721 bt726.1 bt726.2 true l0_0 t722))))) = some r := H
  have A8 := Aside0.mk A80
  clear A80
  replace H := bI H
  obtain ⟨t722, A90, H⟩ := H
  replace H : ((impl_NeedlessClues.f t722).bind fun bt726 => ((laws_eqIntS.f k bt726.1 t718).bind fun t730 => (if t730 = true then (laws_FnExactNeedlessClues.j0 k t718 t721 bt726.1 bt726.2 (bt726.2 != t721) l0_0 t722) else (laws_FnExactNeedlessClues.j0 k t718 t721 bt726.1 bt726.2 true l0_0 t722)))) = some r := H
  have A9 := Aside0.mk A90
  clear A90
  replace H := bI H
  obtain ⟨⟨t726, t729⟩, A100, H⟩ := H
  replace H : ((laws_eqIntS.f k t726 t718).bind fun t730 => (if t730 = true then (laws_FnExactNeedlessClues.j0 k t718 t721 t726 t729 (t729 != t721) l0_0 t722) else (laws_FnExactNeedlessClues.j0 k t718 t721 t726 t729 true l0_0 t722))) = some r := H
  have A10 := Aside0.mk A100
  clear A100
  have HC11 := Aside0.mk H
  clear H
  go_enter Try.func11, Try.ntmps11
  go_upto_region 8 with (first | ((with_reducible refine gate_dst (N := 1) rfl ?_); refine box_event ?hg (N := 1) ?hd (cs := #[.slice A0_0 l0_0.length c0_0]) (t := 24) ?hr ?_; (case hd => rfl); (case hg => rfl); (case hr => first | (go_simp; done) | (go_simp; rfl)); intro gb713 hg w12 hbox hb; have n0_ := Aside0.mk (below_step hb_ hb); have n1_ := Aside0.mk (hbox); have n2_ := Aside0.mk ((by rw [hg]; exact (below_size hb_) : w.heap.size ≤ gb713)); have n3_ := Aside0.mk ((by rw [hg]; exact (below_size hb_) : w.heap.size ≤ gb713)); clear HB; have HB := n0_; have BK713 := n1_; have GW713 := n2_; have GE713 := n3_; clear n0_ n1_ n2_ n3_; clear hb hbox hg; have hcz13_0 : w12.cell? ⟨gb713, 0, none⟩ = some (.slice A0_0 l0_0.length c0_0) := (blk_cell BK713.out 0).trans rfl; have hfz13_0 := blk_frozen BK713.out 0) | ((with_reducible refine gate_callee (f := 12) rfl ?_); refine goesL_ (some 16) rfl rfl Try.func12 (by kernel_rfl) rfl #[.agg #[.slice A0_0 l0_0.length c0_0], .int .i64 1048576] rfl ar_ ?_; (with_reducible refine (laws_szPuzzle.calls _ _ l0_0 1048576 t714 _ ?side1 ?side2 A2.out).mono ?_); (case side1 => repeat (first | exact (Kd.C_below HR0_0.out HB.out) | (with_reducible refine Kd.C_alloc ?_ _) | (with_reducible refine Kd.C_drewN ?_ _) | (with_reducible refine Kd.C_drew ?_))); (case side2 => exact HC0_0.out); rintro e w14 ⟨rfl, hb⟩; refine ⟨_, rfl, ?_⟩; have n0_ := Aside0.mk (blk_below (g := gb713) (o := .cells #[.slice A0_0 l0_0.length c0_0] 24 (0, 0)) (kx_ BK713.out) hb); have n1_ := Aside0.mk (below_step (hs_ GE713.out) hb); clear BK713; clear HB; have BK713 := n0_; have HB := n1_; clear n0_ n1_; (try clear hb); (try clear hb2); (try clear hk); (try clear hi); have hcz15_0 : w14.cell? ⟨gb713, 0, none⟩ = some (.slice A0_0 l0_0.length c0_0) := (blk_cell BK713.out 0).trans rfl; have hfz15_0 := blk_frozen BK713.out 0) | ((with_reducible refine gate_callee (f := 14) rfl ?_); refine goesL_ (some 21) rfl rfl Try.func14 (by kernel_rfl) rfl #[.agg #[.slice A0_0 l0_0.length c0_0]] rfl ar_ ?_; (with_reducible refine (laws_toPuzzle.calls k _ _ l0_0 t715 _ ?side1 ?side2 A7.out).mono ?_); (case side1 => repeat (first | exact (Kd.C_below HR0_0.out HB.out) | (with_reducible refine Kd.C_alloc ?_ _) | (with_reducible refine Kd.C_drewN ?_ _) | (with_reducible refine Kd.C_drew ?_))); (case side2 => exact HC0_0.out); rintro e w16 ⟨v716, rfl, ho0, hb⟩; refine ⟨_, rfl, ?_⟩; have n0_ := Aside0.mk (Kd.R_lower ho0 (below_size (hs_ GE713.out))); have n1_ := Aside0.mk (blk_below (g := gb713) (o := .cells #[.slice A0_0 l0_0.length c0_0] 24 (0, 0)) (kx_ BK713.out) hb); have n2_ := Aside0.mk (below_step (hs_ GE713.out) hb); clear BK713; clear HB; have HO717 := n0_; have BK713 := n1_; have HB := n2_; clear n0_ n1_ n2_; (try clear hb); (try clear hb2); (try clear hk); (try clear hi); (try clear ho0); obtain ⟨Ao17, co17, eo17⟩ := Kd.R_slice HO717.out; subst eo17) | ((with_reducible refine gate_callee (f := 40) rfl ?_); refine goesL_ (some 22) rfl rfl Try.func40 (by kernel_rfl) rfl #[.agg #[.slice Ao17 t715.length co17]] rfl ar_ ?_; (with_reducible refine (spec_NeedlessClues.calls k _ _ t715 t718 t721 _ ?side1 ?side2 A8.out).mono ?_); (case side1 => repeat (first | exact (Kd.R_reads' HO717.out).2.2 | (with_reducible refine Kd.C_alloc ?_ _) | (with_reducible refine Kd.C_drewN ?_ _) | (with_reducible refine Kd.C_drew ?_))); (case side2 => exact (Kd.R_reads' HO717.out).2.1); rintro e w18 ⟨v719, rfl, ho0, hb⟩; refine ⟨_, rfl, ?_⟩; have n0_ := Aside0.mk (Kd.R_below (by (with_reducible repeat (first | apply rA | apply rN | apply rD)); exact HO717.out) hb); have n1_ := Aside0.mk (Kd.R_lower ho0 (below_size (hs_ GE713.out))); have n2_ := Aside0.mk (blk_below (g := gb713) (o := .cells #[.slice A0_0 l0_0.length c0_0] 24 (0, 0)) (kx_ BK713.out) hb); have n3_ := Aside0.mk (below_step (hs_ GE713.out) hb); clear HO717; clear BK713; clear HB; have HO717 := n0_; have HO720 := n1_; have BK713 := n2_; have HB := n3_; clear n0_ n1_ n2_ n3_; (try clear hb); (try clear hb2); (try clear hk); (try clear hi); (try clear ho0); have hcz19_0 : w18.cell? ⟨gb713, 0, none⟩ = some (.slice A0_0 l0_0.length c0_0) := (blk_cell BK713.out 0).trans rfl; have hfz19_0 := blk_frozen BK713.out 0) | ((with_reducible refine gate_callee (f := 14) rfl ?_); refine goesL_ (some 26) rfl rfl Try.func14 (by kernel_rfl) rfl #[.agg #[.slice A0_0 l0_0.length c0_0]] rfl ar_ ?_; (with_reducible refine (laws_toPuzzle.calls k _ _ l0_0 t722 _ ?side1 ?side2 A9.out).mono ?_); (case side1 => repeat (first | exact (Kd.C_below HR0_0.out HB.out) | (with_reducible refine Kd.C_alloc ?_ _) | (with_reducible refine Kd.C_drewN ?_ _) | (with_reducible refine Kd.C_drew ?_))); (case side2 => exact HC0_0.out); rintro e w20 ⟨v723, rfl, ho0, hb⟩; refine ⟨_, rfl, ?_⟩; have n0_ := Aside0.mk (Kd.R_elder' (by (with_reducible repeat (first | apply rA | apply rN | apply rD)); exact HO717.out) (Kd.R_base ho0) hb); have n1_ := Aside0.mk (Kd.R_below (by (with_reducible repeat (first | apply rA | apply rN | apply rD)); exact HO720.out) hb); have n2_ := Aside0.mk (Kd.R_lower (Kd.R_new' ho0 (Kd.R_lt (by (with_reducible repeat (first | apply rA | apply rN | apply rD)); exact HO717.out))) (below_size (hs_ GE713.out))); have n3_ := Aside0.mk (blk_below (g := gb713) (o := .cells #[.slice A0_0 l0_0.length c0_0] 24 (0, 0)) (kx_ BK713.out) hb); have n4_ := Aside0.mk (below_step (hs_ GE713.out) hb); clear HO717; clear HO720; clear BK713; clear HB; have HO717 := n0_; have HO720 := n1_; have HO724 := n2_; have BK713 := n3_; have HB := n4_; clear n0_ n1_ n2_ n3_ n4_; (try clear hb); (try clear hb2); (try clear hk); (try clear hi); (try clear ho0)) | ((with_reducible refine gate_dst (N := 6) rfl ?_); refine box_event ?hg (N := 6) ?hd (cs := #[.slice none 0 0]) (t := 30) ?hr ?_; (case hd => rfl); (case hg => rfl); (case hr => first | (go_simp; done) | (go_simp; rfl)); intro gb725 hg w21 hbox hb; have n0_ := Aside0.mk (Kd.R_below (by (with_reducible repeat (first | apply rA | apply rN | apply rD)); exact HO717.out) hb); have n1_ := Aside0.mk (Kd.R_below (by (with_reducible repeat (first | apply rA | apply rN | apply rD)); exact HO720.out) hb); have n2_ := Aside0.mk (Kd.R_below (by (with_reducible repeat (first | apply rA | apply rN | apply rD)); exact HO724.out) hb); have n3_ := Aside0.mk (blk_below (g := gb713) (o := .cells #[.slice A0_0 l0_0.length c0_0] 24 (0, 0)) (kx_ BK713.out) hb); have n4_ := Aside0.mk (below_step (hs_ GE713.out) hb); have n5_ := Aside0.mk (hbox); have n6_ := Aside0.mk ((by rw [hg]; exact (below_size (hs_ GE713.out)) : w.heap.size ≤ gb725)); have n7_ := Aside0.mk ((by rw [hg]; exact (below_size (hs_ GE713.out)) : w.heap.size ≤ gb725)); have n8_ := Aside0.mk ((by rw [hg]; exact Nat.ne_of_lt (blk_lt (g := gb713) (o := .cells #[.slice A0_0 l0_0.length c0_0] 24 (0, 0)) (kx_ BK713.out)) : gb713 ≠ gb725)); have n9_ := Aside0.mk ((by rw [hg]; exact Nat.ne_of_gt (blk_lt (g := gb713) (o := .cells #[.slice A0_0 l0_0.length c0_0] 24 (0, 0)) (kx_ BK713.out)) : gb725 ≠ gb713)); clear HO717; clear HO720; clear HO724; clear BK713; clear HB; have HO717 := n0_; have HO720 := n1_; have HO724 := n2_; have BK713 := n3_; have HB := n4_; have BK725 := n5_; have GW725 := n6_; have GE725 := n7_; have NB713_725 := n8_; have NB725_713 := n9_; clear n0_ n1_ n2_ n3_ n4_ n5_ n6_ n7_ n8_ n9_; clear hb hbox hg; obtain ⟨Ao22, co22, eo22⟩ := Kd.R_slice HO724.out; subst eo22; have hnb23 := NB725_713.out; have hnc23 := NB713_725.out; have hcz24_0 : w21.cell? ⟨gb725, 0, none⟩ = some (.slice none 0 0) := (blk_cell BK725.out 0).trans rfl; have hfz24_0 := blk_frozen BK725.out 0) | ((with_reducible refine gate_callee (f := 41) rfl ?_); refine goesL_ (some 29) rfl rfl Try.func41 (by kernel_rfl) rfl #[.agg #[.slice Ao22 t722.length co22]] rfl ar_ ?_; (with_reducible refine (impl_NeedlessClues.calls _ _ t722 t726 t729 _ ?side1 ?side2 A10.out).mono ?_); (case side1 => refine (Kd.R_reads' (e := 67) (base := w.heap.size) (ok := fun k_ => (True ∧ some k_ ≠ (.slice Ao17 t715.length co17 : Value).ownBlock)) (n := t722.length) (c := co22) ?_).2.2; exact (by (with_reducible repeat (first | apply rA | apply rN | apply rD)); exact (Kd.R_mono (Kd.R_far (p := ⟨gb725, 0, none⟩) (Kd.R_types HO724.out BK725.out (by decide)) (fun _ hk => hk.2) (.slice Ao22 t722.length co22)) (fun _ h_ => h_.1)))); (case side2 => exact (Kd.R_reads' HO724.out).2.1); rintro e w25 ⟨v727, rfl, ho0, hb⟩; refine ⟨_, rfl, ?_⟩; have n0_ := Aside0.mk (Kd.R_below (by (with_reducible repeat (first | apply rA | apply rN | apply rD)); exact (Kd.R_mono (Kd.R_far (p := ⟨gb725, 0, none⟩) (Kd.R_types HO717.out BK725.out (by decide)) (fun _ hk => hk.2) (.slice Ao22 t722.length co22)) (fun _ h_ => h_.1))) hb); have n1_ := Aside0.mk (Kd.R_elder' (by (with_reducible repeat (first | apply rA | apply rN | apply rD)); exact (Kd.R_mono (Kd.R_far (p := ⟨gb725, 0, none⟩) (Kd.R_types HO720.out BK725.out (by decide)) (fun _ hk => hk.2) (.slice Ao22 t722.length co22)) (fun _ h_ => h_.1))) (Kd.R_base ho0) hb); have n2_ := Aside0.mk (Kd.R_below (by (with_reducible repeat (first | apply rA | apply rN | apply rD)); exact (Kd.R_mono (Kd.R_far (p := ⟨gb725, 0, none⟩) (Kd.R_types HO724.out BK725.out (by decide)) (fun _ hk => hk.2) (.slice Ao22 t722.length co22)) (fun _ h_ => h_.1))) hb); have n3_ := Aside0.mk (Kd.R_lower (Kd.R_new' ho0 (Kd.R_lt (by (with_reducible repeat (first | apply rA | apply rN | apply rD)); exact (Kd.R_mono (Kd.R_far (p := ⟨gb725, 0, none⟩) (Kd.R_types HO720.out BK725.out (by decide)) (fun _ hk => hk.2) (.slice Ao22 t722.length co22)) (fun _ h_ => h_.1))))) (below_size (by repeat (first | (with_reducible first | exact HB.out | apply bA | apply bN | apply bD | refine below_set ?_ GE713.out | refine below_set ?_ GE725.out) | exact HB.out)))); have n4_ := Aside0.mk (blk_below (g := gb713) (o := .cells #[.slice A0_0 l0_0.length c0_0] 24 (0, 0)) (by (with_reducible repeat (first | refine kN ?_ _ | refine kD ?_ | refine kA ?_ _)); refine blk_far ?_ NB713_725.out _; (with_reducible repeat (first | refine kN ?_ _ | refine kD ?_ | refine kA ?_ _)); exact BK713.out) hb); have n5_ := Aside0.mk (blk_below (g := gb725) (o := .cells #[.slice Ao22 t722.length co22] 30 (0, 0)) (by (with_reducible repeat (first | refine kN ?_ _ | refine kD ?_ | refine kA ?_ _)); refine blk_put (cs := #[.slice none 0 0]) ?_ 0 _ rfl; (with_reducible repeat (first | refine kN ?_ _ | refine kD ?_ | refine kA ?_ _)); exact BK725.out) hb); have n6_ := Aside0.mk (below_step (by repeat (first | (with_reducible first | exact HB.out | apply bA | apply bN | apply bD | refine below_set ?_ GE713.out | refine below_set ?_ GE725.out) | exact HB.out)) hb); clear HO717; clear HO720; clear HO724; clear BK713; clear BK725; clear HB; have HO717 := n0_; have HO720 := n1_; have HO724 := n2_; have HO728 := n3_; have BK713 := n4_; have BK725 := n5_; have HB := n6_; clear n0_ n1_ n2_ n3_ n4_ n5_ n6_; (try clear hb); (try clear hb2); (try clear hk); (try clear hi); (try clear ho0)))
  (try simp only [Act.put, List.setIfInBounds_toArray, List.set_cons_zero, List.set_cons_succ])
  go_cut [40] (fun v40 wc => ∃ (kq : Nat) (x40_10 : Bool), v40 = .bool x40_10 ∧ Aside0 (laws_FnExactNeedlessClues.j0 kq t718 t721 t726 t729 x40_10 l0_0 t722 = some r) ∧ Aside0 (kq ≤ k) ∧ Aside0 (Kd.R (Kd.int .i64) 3 wc w.heap.size (fun k_ => some k_ ≠ (v727 : Value).ownBlock) v719 t718) ∧ Aside0 (Kd.R (Kd.int .i64) 3 wc w.heap.size (fun k_ => some k_ ≠ (v719 : Value).ownBlock) v727 t726) ∧ Aside0 (Kd.R k67 67 wc w.heap.size (fun _ => True) (.slice Ao22 t722.length co22) t722) ∧ Aside0 (wc.heap[gb713]? = some (.cells #[(.slice A0_0 l0_0.length c0_0)] 24 (0, 0))) ∧ Aside0 (wc.heap[gb725]? = some (.cells #[(.slice Ao22 t722.length co22)] 30 (0, 0))) ∧ Aside0 (Below w.heap.size w wc))
  case first =>
   have H := HC11.out
   clear HC11
   replace H := bI H
   obtain ⟨t730, A260, H⟩ := H
   replace H : (if t730 = true then (laws_FnExactNeedlessClues.j0 k t718 t721 t726 t729 (t729 != t721) l0_0 t722) else (laws_FnExactNeedlessClues.j0 k t718 t721 t726 t729 true l0_0 t722)) = some r := H
   have A26 := Aside0.mk A260
   clear A260
   by_cases c27 : t730 = true
   ·subst c27
    have H1 : (laws_FnExactNeedlessClues.j0 k t718 t721 t726 t729 (t729 != t721) l0_0 t722) = some r := by rw [if_pos rfl] at H; exact H
    clear H
    have H := H1
    clear H1
    have H' := Aside0.mk H
    clear H
    obtain ⟨Ao28, co28, eo28⟩ := Kd.R_slice HO728.out
    subst eo28
    obtain ⟨Ao29, co29, eo29⟩ := Kd.R_slice HO720.out
    subst eo29
    go_wp2_with (first | ((with_reducible refine gate_callee (f := 28) rfl ?_); refine goesL_ (some 34) rfl rfl Try.func28 (by kernel_rfl) rfl #[.slice Ao28 t726.length co28, .slice Ao29 t718.length co29] rfl ar_ ?_; (with_reducible refine (laws_eqIntS.calls k _ _ t726 _ _ t718 true _ ?side1 ?side2 ?side3 ?side4 A26.out).mono ?_); (case side1 => repeat (first | exact (Kd.R_reads' HO728.out).2.2 | (with_reducible refine Kd.C_alloc ?_ _) | (with_reducible refine Kd.C_drewN ?_ _) | (with_reducible refine Kd.C_drew ?_))); (case side2 => exact (Kd.R_reads' HO728.out).2.1); (case side3 => repeat (first | exact (Kd.R_reads' HO720.out).2.2 | (with_reducible refine Kd.C_alloc ?_ _) | (with_reducible refine Kd.C_drewN ?_ _) | (with_reducible refine Kd.C_drew ?_))); (case side4 => exact (Kd.R_reads' HO720.out).2.1); rintro e w' ⟨rfl, ⟨nd, rfl⟩⟩; refine ⟨_, rfl, ?_⟩))
    go_meet
    case rel => exact ⟨_, ((t729 != t721)), (by first | rfl | (simp; done) | (simp [*]; done)), H', ⟨by first | omega | exact Nat.le_refl _⟩, ⟨by (with_reducible repeat (first | apply rA | apply rN | apply rD)); exact Kd.R_mono HO720.out (fun _ hk => hk.2)⟩, ⟨by (with_reducible repeat (first | apply rA | apply rN | apply rD)); exact Kd.R_mono HO728.out (fun _ hk => hk.2)⟩, ⟨by (with_reducible repeat (first | apply rA | apply rN | apply rD)); exact Kd.R_mono HO724.out (fun _ hk => trivial)⟩, ⟨by (with_reducible repeat (first | refine kN ?_ _ | refine kD ?_ | refine kA ?_ _)); exact BK713.out⟩, ⟨by (with_reducible repeat (first | refine kN ?_ _ | refine kD ?_ | refine kA ?_ _)); exact BK725.out⟩, ⟨by repeat (first | (with_reducible first | exact HB.out | apply bA | apply bN | apply bD | refine below_set ?_ GE713.out | refine below_set ?_ GE725.out) | exact HB.out)⟩⟩
   ·replace c27 := Bool.eq_false_iff.mpr c27
    subst c27
    have H1 : (laws_FnExactNeedlessClues.j0 k t718 t721 t726 t729 true l0_0 t722) = some r := by rw [if_neg (show ¬ (false = true) by decide)] at H; exact H
    clear H
    have H := H1
    clear H1
    have H' := Aside0.mk H
    clear H
    obtain ⟨Ao30, co30, eo30⟩ := Kd.R_slice HO728.out
    subst eo30
    obtain ⟨Ao31, co31, eo31⟩ := Kd.R_slice HO720.out
    subst eo31
    go_wp2_with (first | ((with_reducible refine gate_callee (f := 28) rfl ?_); refine goesL_ (some 34) rfl rfl Try.func28 (by kernel_rfl) rfl #[.slice Ao30 t726.length co30, .slice Ao31 t718.length co31] rfl ar_ ?_; (with_reducible refine (laws_eqIntS.calls k _ _ t726 _ _ t718 false _ ?side1 ?side2 ?side3 ?side4 A26.out).mono ?_); (case side1 => repeat (first | exact (Kd.R_reads' HO728.out).2.2 | (with_reducible refine Kd.C_alloc ?_ _) | (with_reducible refine Kd.C_drewN ?_ _) | (with_reducible refine Kd.C_drew ?_))); (case side2 => exact (Kd.R_reads' HO728.out).2.1); (case side3 => repeat (first | exact (Kd.R_reads' HO720.out).2.2 | (with_reducible refine Kd.C_alloc ?_ _) | (with_reducible refine Kd.C_drewN ?_ _) | (with_reducible refine Kd.C_drew ?_))); (case side4 => exact (Kd.R_reads' HO720.out).2.1); rintro e w' ⟨rfl, ⟨nd, rfl⟩⟩; refine ⟨_, rfl, ?_⟩))
    go_meet
    case rel => exact ⟨_, (true), (by first | rfl | (simp; done) | (simp [*]; done)), H', ⟨by first | omega | exact Nat.le_refl _⟩, ⟨by (with_reducible repeat (first | apply rA | apply rN | apply rD)); exact Kd.R_mono HO720.out (fun _ hk => hk.2)⟩, ⟨by (with_reducible repeat (first | apply rA | apply rN | apply rD)); exact Kd.R_mono HO728.out (fun _ hk => hk.2)⟩, ⟨by (with_reducible repeat (first | apply rA | apply rN | apply rD)); exact Kd.R_mono HO724.out (fun _ hk => trivial)⟩, ⟨by (with_reducible repeat (first | refine kN ?_ _ | refine kD ?_ | refine kA ?_ _)); exact BK713.out⟩, ⟨by (with_reducible repeat (first | refine kN ?_ _ | refine kD ?_ | refine kA ?_ _)); exact BK725.out⟩, ⟨by repeat (first | (with_reducible first | exact HB.out | apply bA | apply bN | apply bD | refine below_set ?_ GE713.out | refine below_set ?_ GE725.out) | exact HB.out)⟩⟩
  case rest =>
   clear HC11
   try clear c1
   try clear c2
   try clear p2
   try clear c3
   try clear c3b0
   try clear c4
   try clear c11
   try clear c12
   try clear c14
   try clear c23
   try clear c27
   try clear c28
   try clear hcz13_0
   try clear hcz15_0
   try clear hcz19_0
   try clear hcz24_0
   try clear hcz5_0
   try clear hfz13_0
   try clear hfz15_0
   try clear hfz19_0
   try clear hfz24_0
   try clear hfz5_0
   obtain ⟨kq, x40_10, rfl, HA, HJ10, HO_4, HO_7, HO_726000, BK713, BK725, HB⟩ := hcut
   cases kq with
   | zero => exact absurd HA.out (by simp [laws_FnExactNeedlessClues.j0])
   | succ kj10 =>
    have H := HA.out
    clear HA
    simp only [laws_FnExactNeedlessClues.j0] at H
    by_cases c32 : x40_10 = true
    ·subst c32
     have H1 : (some false) = some r := by rw [if_pos rfl] at H; exact H
     clear H
     have H := H1
     clear H1
     obtain rfl := oI H
     go_wp2
     go_ret
     exact ⟨by first | rfl | (simp [errW_none, errW_some] <;> rfl) | (simp [*, errW_none, errW_some] <;> rfl), by repeat (first | (with_reducible first | exact HB.out | apply bA | apply bN | apply bD | refine below_set ?_ GE713.out | refine below_set ?_ GE725.out) | exact HB.out)⟩
    ·replace c32 := Bool.eq_false_iff.mpr c32
     subst c32
     have H1 : ((laws_toPuzzle.f kj10 l0_0).bind fun t731 => ((laws_eqPuzzle.f kj10 t722 t731).bind fun t734 => (if t734 = true then ((laws_markPuzzle.f kj10 t722 1).bind fun bt735 => (if bt735.1 < 0 then (laws_FnExactNeedlessClues.j1 kj10 t718 t721 t726 true l0_0) else ((laws_eqIntS.f kj10 t726 t718).bind fun t737 => (if t737 = true then (laws_FnExactNeedlessClues.j1 kj10 t718 t721 t726 (t729 != t721) l0_0) else (laws_FnExactNeedlessClues.j1 kj10 t718 t721 t726 true l0_0))))) else (some false)))) = some r := by rw [if_neg (show ¬ (false = true) by decide)] at H; exact H
     clear H
     have H := H1
     clear H1
     replace H := bI H
     obtain ⟨t731, A330, H⟩ := H
     replace H : ((laws_eqPuzzle.f kj10 t722 t731).bind fun t734 => (if t734 = true then ((laws_markPuzzle.f kj10 t722 1).bind fun bt735 => (if bt735.1 < 0 then (laws_FnExactNeedlessClues.j1 kj10 t718 t721 t726 true l0_0) else ((laws_eqIntS.f kj10 t726 t718).bind fun t737 => (if t737 = true then (laws_FnExactNeedlessClues.j1 kj10 t718 t721 t726 (t729 != t721) l0_0) else (laws_FnExactNeedlessClues.j1 kj10 t718 t721 t726 true l0_0))))) else (some false))) = some r := H
     have A33 := Aside0.mk A330
     clear A330
     replace H := bI H
     obtain ⟨t734, A340, H⟩ := H
     replace H : (if t734 = true then ((laws_markPuzzle.f kj10 t722 1).bind fun bt735 => (if bt735.1 < 0 then (laws_FnExactNeedlessClues.j1 kj10 t718 t721 t726 true l0_0) else ((laws_eqIntS.f kj10 t726 t718).bind fun t737 => (if t737 = true then (laws_FnExactNeedlessClues.j1 kj10 t718 t721 t726 (t729 != t721) l0_0) else (laws_FnExactNeedlessClues.j1 kj10 t718 t721 t726 true l0_0))))) else (some false)) = some r := H
     have A34 := Aside0.mk A340
     clear A340
     by_cases c35 : t734 = true
     ·subst c35
      have H1 : ((laws_markPuzzle.f kj10 t722 1).bind fun bt735 => (if bt735.1 < 0 then (laws_FnExactNeedlessClues.j1 kj10 t718 t721 t726 true l0_0) else ((laws_eqIntS.f kj10 t726 t718).bind fun t737 => (if t737 = true then (laws_FnExactNeedlessClues.j1 kj10 t718 t721 t726 (t729 != t721) l0_0) else (laws_FnExactNeedlessClues.j1 kj10 t718 t721 t726 true l0_0))))) = some r := by rw [if_pos rfl] at H; exact H
      clear H
      have H := H1
      clear H1
      replace H := bI H
      obtain ⟨⟨t735, t736⟩, A360, H⟩ := H
      replace H : (if t735 < 0 then (laws_FnExactNeedlessClues.j1 kj10 t718 t721 t726 true l0_0) else ((laws_eqIntS.f kj10 t726 t718).bind fun t737 => (if t737 = true then (laws_FnExactNeedlessClues.j1 kj10 t718 t721 t726 (t729 != t721) l0_0) else (laws_FnExactNeedlessClues.j1 kj10 t718 t721 t726 true l0_0)))) = some r := H
      have A36 := Aside0.mk A360
      clear A360
      have HC37 := Aside0.mk H
      clear H
      try go_wp2
      have n0_ := Aside0.mk (Kd.R_drew HO_4.out)
      have n1_ := Aside0.mk (Kd.R_drew HO_7.out)
      have n2_ := Aside0.mk (Kd.R_drew HO_726000.out)
      have n3_ := Aside0.mk (blk_drew BK713.out)
      have n4_ := Aside0.mk (blk_drew BK725.out)
      have n5_ := Aside0.mk (below_drew1 HB.out)
      clear HO_4
      clear HO_7
      clear HO_726000
      clear BK713
      clear BK725
      clear HB
      have HO_4 := n0_
      have HO_7 := n1_
      have HO_726000 := n2_
      have BK713 := n3_
      have BK725 := n4_
      have HB := n5_
      clear n0_ n1_ n2_ n3_ n4_ n5_
      refine start_ (n := 5) (S := fun w' => w'.cell? ⟨gb725, 0, none⟩ = some (.slice Ao22 t722.length co22) ∧ w'.cell? ⟨gb713, 0, none⟩ = some (.slice A0_0 l0_0.length c0_0)) (ds := []) #[false, false, false, false, false] (by kernel_rfl) rfl rfl ⟨(blk_cell BK725.out 0).trans rfl, (blk_cell BK713.out 0).trans rfl⟩ (fun hHeld => ?_)
      generalize wc.drew = w38 at HO_4 HO_7 HO_726000 BK713 BK725 HB hHeld ⊢
      refine take_ (i := 0) (N := some 41) (v := ?_) (a' := ?_) #[true, false, false, false, false] rfl rfl (by kernel_rfl) (fun _ _ _ h => h) (Or.inl ⟨by rfl, ?_⟩) hHeld ?_ ?_
      rotate_left
      ·rintro w' ⟨s0, s1⟩
       go_simp
       with_reducible rfl
      rotate_left
      ·simp only [Act.put, sT, sZ, sS, i64_w, i32_w]
       rfl
      refine take_ (i := 1) (N := some 42) (v := ?_) (a' := ?_) #[true, true, false, false, false] rfl rfl (by kernel_rfl) (fun _ _ _ h => h) (Or.inl ⟨by rfl, ?_⟩) hHeld ?_ ?_
      rotate_left
      ·rintro w' ⟨s0, s1⟩
       go_simp
       with_reducible rfl
      rotate_left
      ·simp only [Act.put, sT, sZ, sS, i64_w, i32_w]
       rfl
      refine one_ (i := 2) (N := some 43) #[true, true, true, false, false] rfl rfl (by kernel_rfl) (by decide) (fun K hK => ?_)
      refine goes_ Try.func14 (by kernel_rfl) rfl #[.agg #[.slice A0_0 l0_0.length c0_0]] (by rfl) rfl rfl ar_ ?_
      with_reducible refine (laws_toPuzzle.calls kj10 _ _ l0_0 t731 _ ?side1 ?side2 A33.out).mono ?_
      (case side1 => repeat (first | exact (Kd.C_below HR0_0.out HB.out) | (with_reducible refine Kd.C_alloc ?_ _) | (with_reducible refine Kd.C_drewN ?_ _) | (with_reducible refine Kd.C_drew ?_)))
      (case side2 => exact HC0_0.out)
      rintro e w39 ⟨v732, rfl, ho0, hb⟩
      refine ⟨_, rfl, ?_⟩
      have n0_ := Aside0.mk (Kd.R_below (by (with_reducible repeat (first | apply rA | apply rN | apply rD)); exact HO_4.out) hb)
      have n1_ := Aside0.mk (Kd.R_below (by (with_reducible repeat (first | apply rA | apply rN | apply rD)); exact HO_7.out) hb)
      have n2_ := Aside0.mk (Kd.R_elder' (by (with_reducible repeat (first | apply rA | apply rN | apply rD)); exact HO_726000.out) (Kd.R_base ho0) hb)
      have n3_ := Aside0.mk (Kd.R_lower (Kd.R_new' ho0 (Kd.R_lt (by (with_reducible repeat (first | apply rA | apply rN | apply rD)); exact HO_726000.out))) (below_size (by repeat (first | (with_reducible first | exact HB.out | apply bA | apply bN | apply bD | refine below_set ?_ GE713.out | refine below_set ?_ GE725.out) | exact HB.out))))
      have n4_ := Aside0.mk (blk_below (g := gb713) (o := .cells #[.slice A0_0 l0_0.length c0_0] 24 (0, 0)) (kx_ BK713.out) hb)
      have n5_ := Aside0.mk (blk_below (g := gb725) (o := .cells #[.slice Ao22 t722.length co22] 30 (0, 0)) (kx_ BK725.out) hb)
      have n6_ := Aside0.mk (below_step (by repeat (first | (with_reducible first | exact HB.out | apply bA | apply bN | apply bD | refine below_set ?_ GE713.out | refine below_set ?_ GE725.out) | exact HB.out)) hb)
      clear HO_4
      clear HO_7
      clear HO_726000
      clear BK713
      clear BK725
      clear HB
      have HO_4 := n0_
      have HO_7 := n1_
      have HO_726000 := n2_
      have HO733 := n3_
      have BK713 := n4_
      have BK725 := n5_
      have HB := n6_
      clear n0_ n1_ n2_ n3_ n4_ n5_ n6_
      (try clear hb)
      (try clear hb2)
      (try clear hk)
      (try clear hi)
      (try clear ho0)
      obtain ⟨Ao40, co40, eo40⟩ := Kd.R_slice HO733.out
      (first | subst eo40 | (injection eo40 with f1_ f2_ f3_; have f4_ := f1_.symm; have f5_ := f3_.symm; clear f1_ f2_ f3_; subst f4_; subst f5_))
      refine hK.out _ _ ⟨(blk_cell BK725.out 0).trans rfl, (blk_cell BK713.out 0).trans rfl⟩ (fun hHeld => ?_)
      clear hK K
      refine norm_ (a' := ?_) ?_ ?_
      rotate_left
      ·show Act.put _ (some 43) _ = _
       simp only [Act.put, sT, sZ, sS, i64_w, i32_w]
       rfl
      refine one_ (i := 3) (N := some 44) #[true, true, true, true, false] rfl rfl (by kernel_rfl) (by decide) (fun K hK => ?_)
      refine goes_ Try.func16 (by kernel_rfl) rfl #[.agg #[.slice Ao22 t722.length co22], .agg #[.slice Ao40 t731.length co40]] (by rfl) rfl rfl ar_ ?_
      with_reducible refine (laws_eqPuzzle.calls kj10 _ _ t722 _ _ t731 true _ ?side1 ?side2 ?side3 ?side4 A34.out).mono ?_
      (case side1 => repeat (first | exact (Kd.R_reads' HO_726000.out).2.2 | (with_reducible refine Kd.C_alloc ?_ _) | (with_reducible refine Kd.C_drewN ?_ _) | (with_reducible refine Kd.C_drew ?_)))
      (case side2 => exact (Kd.R_reads' HO_726000.out).2.1)
      (case side3 => repeat (first | exact (Kd.R_reads' HO733.out).2.2 | (with_reducible refine Kd.C_alloc ?_ _) | (with_reducible refine Kd.C_drewN ?_ _) | (with_reducible refine Kd.C_drew ?_)))
      (case side4 => exact (Kd.R_reads' HO733.out).2.1)
      rintro e w41 ⟨rfl, hb⟩
      refine ⟨_, rfl, ?_⟩
      have n0_ := Aside0.mk (Kd.R_below (by (with_reducible repeat (first | apply rA | apply rN | apply rD)); exact HO_4.out) hb)
      have n1_ := Aside0.mk (Kd.R_below (by (with_reducible repeat (first | apply rA | apply rN | apply rD)); exact HO_7.out) hb)
      have n2_ := Aside0.mk (Kd.R_below (by (with_reducible repeat (first | apply rA | apply rN | apply rD)); exact HO_726000.out) hb)
      have n3_ := Aside0.mk (Kd.R_below (by (with_reducible repeat (first | apply rA | apply rN | apply rD)); exact HO733.out) hb)
      have n4_ := Aside0.mk (blk_below (g := gb713) (o := .cells #[.slice A0_0 l0_0.length c0_0] 24 (0, 0)) (kx_ BK713.out) hb)
      have n5_ := Aside0.mk (blk_below (g := gb725) (o := .cells #[.slice Ao22 t722.length co22] 30 (0, 0)) (kx_ BK725.out) hb)
      have n6_ := Aside0.mk (below_step (by repeat (first | (with_reducible first | exact HB.out | apply bA | apply bN | apply bD | refine below_set ?_ GE713.out | refine below_set ?_ GE725.out) | exact HB.out)) hb)
      clear HO_4
      clear HO_7
      clear HO_726000
      clear HO733
      clear BK713
      clear BK725
      clear HB
      have HO_4 := n0_
      have HO_7 := n1_
      have HO_726000 := n2_
      have HO733 := n3_
      have BK713 := n4_
      have BK725 := n5_
      have HB := n6_
      clear n0_ n1_ n2_ n3_ n4_ n5_ n6_
      (try clear hb)
      (try clear hb2)
      (try clear hk)
      (try clear hi)
      refine hK.out _ _ ⟨(blk_cell BK725.out 0).trans rfl, (blk_cell BK713.out 0).trans rfl⟩ (fun hHeld => ?_)
      clear hK K
      refine norm_ (a' := ?_) ?_ ?_
      rotate_left
      ·show Act.put _ (some 44) _ = _
       simp only [Act.put, sT, sZ, sS, i64_w, i32_w]
       rfl
      refine pure_ (i := 4) (N := some 45) (v := ?_) (a' := ?_) #[true, true, true, true, true] rfl rfl (by kernel_rfl) (fun _ _ _ h => h) (Or.inl ⟨by rfl, ?_⟩) ?_ ?_
      rotate_left
      ·intro w'
       go_simp
       with_reducible rfl
      rotate_left
      ·simp only [Act.put, sT, sZ, sS, i64_w, i32_w]
       rfl
      refine done_ (by kernel_rfl) ?_
      have hnb42 := NB725_713.out
      have hnc42 := NB713_725.out
      have hcz43_0 : w41.cell? ⟨gb725, 0, none⟩ = some (.slice Ao22 t722.length co22) := (blk_cell BK725.out 0).trans rfl
      have hfz43_0 := blk_frozen BK725.out 0
      go_upto_region 14 with (first | ((with_reducible refine gate_callee (f := 29) rfl ?_); refine goesL_ (some 48) rfl rfl Try.func29 (by kernel_rfl) rfl #[.agg #[.slice Ao22 t722.length co22], .int .i64 1] rfl ar_ ?_; (with_reducible refine (laws_markPuzzle.calls kj10 (fun k_ => some k_ = (.slice Ao22 t722.length co22 : Value).ownBlock) (.slice Ao22 t722.length co22) t722 1 t735 t736 w _ ?side1 ?side2 A36.out).mono ?_); (case side1 => repeat (first | (with_reducible first | exact HB.out | apply bA | apply bN | apply bD | refine below_set ?_ GE713.out | refine below_set ?_ GE725.out) | exact HB.out)); (case side2 => exact Kd.R_tight rfl HO_726000.out); rintro e w44 ⟨rfl, hy0, hb, hkp⟩; refine ⟨_, rfl, ?_⟩; have n0_ := Aside0.mk (Kd.R_mono (ok' := fun k_ => some k_ ≠ (v727 : Value).ownBlock) (Kd.R_keptB ((Kd.R_apart' HO_4.out (Kd.R_typed HO_726000.out) (by decide))) hkp (fun k_ hk_ hs_ => (hk_.2) hs_)) (fun k_ hk_ => hk_.1.1)); have n1_ := Aside0.mk (Kd.R_mono (ok' := fun k_ => some k_ ≠ (v719 : Value).ownBlock) (Kd.R_keptB ((Kd.R_apart' HO_7.out (Kd.R_typed HO_726000.out) (by decide))) hkp (fun k_ hk_ hs_ => (hk_.2) hs_)) (fun k_ hk_ => hk_.1.1)); have n2_ := Aside0.mk (Kd.R_reok rfl hy0 (fun k_ e_ => HO_726000.out.1 k_ e_)); have n3_ := Aside0.mk (blk_kept (kx_ BK713.out) hkp (fun hs_ => (fun e_ => (Kd.R_ne HO_726000.out BK713.out (by decide)) e_) hs_)); have n4_ := Aside0.mk (blk_kept (kx_ BK725.out) hkp (fun hs_ => (fun e_ => (Kd.R_ne HO_726000.out BK725.out (by decide)) e_) hs_)); have n5_ := Aside0.mk (Kd.R_mono (ok' := fun k_ => some k_ ≠ (.slice Ao22 t722.length co22 : Value).ownBlock) (Kd.R_keptB (HO733.out) hkp (fun k_ hk_ hs_ => (hk_.2) hs_)) (fun k_ hk_ => hk_.1.2)); have n6_ := Aside0.mk (hb); clear HO_4; clear HO_7; clear HO_726000; clear BK713; clear BK725; clear HO733; clear HB; have HO_4 := n0_; have HO_7 := n1_; have HO_726000 := n2_; have BK713 := n3_; have BK725 := n4_; have HO733 := n5_; have HB := n6_; clear n0_ n1_ n2_ n3_ n4_ n5_ n6_; (try clear hb); (try clear hkp); (try clear hy0)))
      (try simp only [Act.put, List.setIfInBounds_toArray, List.set_cons_zero, List.set_cons_succ])
      go_cut [61] (fun v61 wc => ∃ (kq : Nat) (x61_36 : Bool), v61 = .bool x61_36 ∧ Aside0 (laws_FnExactNeedlessClues.j1 kq t718 t721 t726 x61_36 l0_0 = some r) ∧ Aside0 (kq ≤ kj10) ∧ Aside0 (Kd.R (Kd.int .i64) 3 wc w.heap.size (fun k_ => some k_ ≠ (v727 : Value).ownBlock) v719 t718) ∧ Aside0 (Kd.R (Kd.int .i64) 3 wc w.heap.size (fun k_ => some k_ ≠ (v719 : Value).ownBlock) v727 t726) ∧ Aside0 (Kd.R k67 67 wc w.heap.size (fun _ => True) (.slice Ao22 t722.length co22) t736) ∧ Aside0 (wc.heap[gb713]? = some (.cells #[(.slice A0_0 l0_0.length c0_0)] 24 (0, 0))) ∧ Aside0 (wc.heap[gb725]? = some (.cells #[(.slice Ao22 t722.length co22)] 30 (0, 0))) ∧ Aside0 (Below w.heap.size w wc))
      case first =>
       have H := HC37.out
       clear HC37
       by_cases c45 : t735 < 0
       ·rw [if_pos c45] at H
        have c45b0 : decide (t735 < 0) = true := decide_eq_true c45
        clear c45
        (first | rw [c45b0] | (simp only [i64_w, i32_w]; rw [c45b0]) | skip)
        have H' := Aside0.mk H
        clear H
        go_wp2
        go_meet
        case rel => exact ⟨_, (true), (by first | rfl | (simp; done) | (simp [*]; done)), H', ⟨by have := HJ10.out; first | omega | exact Nat.le_refl _⟩, ⟨by (with_reducible repeat (first | apply rA | apply rN | apply rD)); exact HO_4.out⟩, ⟨by (with_reducible repeat (first | apply rA | apply rN | apply rD)); exact HO_7.out⟩, ⟨by (with_reducible repeat (first | apply rA | apply rN | apply rD)); exact Kd.R_mono HO_726000.out (fun _ hk => trivial)⟩, ⟨by (with_reducible repeat (first | refine kN ?_ _ | refine kD ?_ | refine kA ?_ _)); exact BK713.out⟩, ⟨by (with_reducible repeat (first | refine kN ?_ _ | refine kD ?_ | refine kA ?_ _)); exact BK725.out⟩, ⟨by repeat (first | (with_reducible first | exact HB.out | apply bA | apply bN | apply bD | refine below_set ?_ GE713.out | refine below_set ?_ GE725.out) | exact HB.out)⟩⟩
       ·rw [if_neg c45] at H
        have c45b0 : decide (t735 < 0) = false := decide_eq_false c45
        clear c45
        (first | rw [c45b0] | (simp only [i64_w, i32_w]; rw [c45b0]) | skip)
        replace H := bI H
        obtain ⟨t737, A460, H⟩ := H
        replace H : (if t737 = true then (laws_FnExactNeedlessClues.j1 kj10 t718 t721 t726 (t729 != t721) l0_0) else (laws_FnExactNeedlessClues.j1 kj10 t718 t721 t726 true l0_0)) = some r := H
        have A46 := Aside0.mk A460
        clear A460
        by_cases c47 : t737 = true
        ·subst c47
         have H1 : (laws_FnExactNeedlessClues.j1 kj10 t718 t721 t726 (t729 != t721) l0_0) = some r := by rw [if_pos rfl] at H; exact H
         clear H
         have H := H1
         clear H1
         have H' := Aside0.mk H
         clear H
         obtain ⟨Ao48, co48, eo48⟩ := Kd.R_slice HO_7.out
         subst eo48
         obtain ⟨Ao49, co49, eo49⟩ := Kd.R_slice HO_4.out
         subst eo49
         go_wp2_with (first | (go_at_call 28; (with_reducible refine (laws_eqIntS.calls kj10 _ _ t726 _ _ t718 true _ ?side1 ?side2 ?side3 ?side4 A46.out).mono ?_); (case side1 => repeat (first | exact (Kd.R_reads' HO_7.out).2.2 | (with_reducible refine Kd.C_alloc ?_ _) | (with_reducible refine Kd.C_drewN ?_ _) | (with_reducible refine Kd.C_drew ?_))); (case side2 => exact (Kd.R_reads' HO_7.out).2.1); (case side3 => repeat (first | exact (Kd.R_reads' HO_4.out).2.2 | (with_reducible refine Kd.C_alloc ?_ _) | (with_reducible refine Kd.C_drewN ?_ _) | (with_reducible refine Kd.C_drew ?_))); (case side4 => exact (Kd.R_reads' HO_4.out).2.1); rintro e w' ⟨rfl, ⟨nd, rfl⟩⟩))
         go_meet
         case rel => exact ⟨_, ((t729 != t721)), (by first | rfl | (simp; done) | (simp [*]; done)), H', ⟨by have := HJ10.out; first | omega | exact Nat.le_refl _⟩, ⟨by (with_reducible repeat (first | apply rA | apply rN | apply rD)); exact HO_4.out⟩, ⟨by (with_reducible repeat (first | apply rA | apply rN | apply rD)); exact HO_7.out⟩, ⟨by (with_reducible repeat (first | apply rA | apply rN | apply rD)); exact Kd.R_mono HO_726000.out (fun _ hk => trivial)⟩, ⟨by (with_reducible repeat (first | refine kN ?_ _ | refine kD ?_ | refine kA ?_ _)); exact BK713.out⟩, ⟨by (with_reducible repeat (first | refine kN ?_ _ | refine kD ?_ | refine kA ?_ _)); exact BK725.out⟩, ⟨by repeat (first | (with_reducible first | exact HB.out | apply bA | apply bN | apply bD | refine below_set ?_ GE713.out | refine below_set ?_ GE725.out) | exact HB.out)⟩⟩
        ·replace c47 := Bool.eq_false_iff.mpr c47
         subst c47
         have H1 : (laws_FnExactNeedlessClues.j1 kj10 t718 t721 t726 true l0_0) = some r := by rw [if_neg (show ¬ (false = true) by decide)] at H; exact H
         clear H
         have H := H1
         clear H1
         have H' := Aside0.mk H
         clear H
         obtain ⟨Ao50, co50, eo50⟩ := Kd.R_slice HO_7.out
         subst eo50
         obtain ⟨Ao51, co51, eo51⟩ := Kd.R_slice HO_4.out
         subst eo51
         go_wp2_with (first | (go_at_call 28; (with_reducible refine (laws_eqIntS.calls kj10 _ _ t726 _ _ t718 false _ ?side1 ?side2 ?side3 ?side4 A46.out).mono ?_); (case side1 => repeat (first | exact (Kd.R_reads' HO_7.out).2.2 | (with_reducible refine Kd.C_alloc ?_ _) | (with_reducible refine Kd.C_drewN ?_ _) | (with_reducible refine Kd.C_drew ?_))); (case side2 => exact (Kd.R_reads' HO_7.out).2.1); (case side3 => repeat (first | exact (Kd.R_reads' HO_4.out).2.2 | (with_reducible refine Kd.C_alloc ?_ _) | (with_reducible refine Kd.C_drewN ?_ _) | (with_reducible refine Kd.C_drew ?_))); (case side4 => exact (Kd.R_reads' HO_4.out).2.1); rintro e w' ⟨rfl, ⟨nd, rfl⟩⟩))
         go_meet
         case rel => exact ⟨_, (true), (by first | rfl | (simp; done) | (simp [*]; done)), H', ⟨by have := HJ10.out; first | omega | exact Nat.le_refl _⟩, ⟨by (with_reducible repeat (first | apply rA | apply rN | apply rD)); exact HO_4.out⟩, ⟨by (with_reducible repeat (first | apply rA | apply rN | apply rD)); exact HO_7.out⟩, ⟨by (with_reducible repeat (first | apply rA | apply rN | apply rD)); exact Kd.R_mono HO_726000.out (fun _ hk => trivial)⟩, ⟨by (with_reducible repeat (first | refine kN ?_ _ | refine kD ?_ | refine kA ?_ _)); exact BK713.out⟩, ⟨by (with_reducible repeat (first | refine kN ?_ _ | refine kD ?_ | refine kA ?_ _)); exact BK725.out⟩, ⟨by repeat (first | (with_reducible first | exact HB.out | apply bA | apply bN | apply bD | refine below_set ?_ GE713.out | refine below_set ?_ GE725.out) | exact HB.out)⟩⟩
      case rest =>
       clear HC37
       try clear c1
       try clear c2
       try clear p2
       try clear c3
       try clear c3b0
       try clear c4
       try clear c11
       try clear c12
       try clear c14
       try clear c16
       try clear c23
       try clear c27
       try clear c28
       try clear c29
       try clear c32
       try clear c35
       try clear c40
       try clear c41
       try clear c42
       try clear c45
       try clear c45b0
       try clear c47
       try clear hcz13_0
       try clear hcz15_0
       try clear hcz19_0
       try clear hcz24_0
       try clear hcz43_0
       try clear hcz5_0
       try clear hfz13_0
       try clear hfz15_0
       try clear hfz19_0
       try clear hfz24_0
       try clear hfz43_0
       try clear hfz5_0
       try clear p2
       obtain ⟨kq, x61_36, rfl, HA, HJ36, HO_4, HO_7, HO_726000, BK713, BK725, HB⟩ := hcut
       have hl726000_36 := (Kd.R_reads' HO_726000.out).1
       rw [hl726000_36] at HO_726000
       (try simp only [hl726000_36])
       (try simp only [hl726000_36] at BK713)
       (try simp only [hl726000_36] at BK725)
       (try simp only [hl726000_36] at HO_4)
       (try simp only [hl726000_36] at HO_7)
       cases kq with
       | zero => exact absurd HA.out (by simp [laws_FnExactNeedlessClues.j1])
       | succ kj36 =>
        have H := HA.out
        clear HA
        simp only [laws_FnExactNeedlessClues.j1] at H
        by_cases c52 : x61_36 = true
        ·subst c52
         have H1 : (some false) = some r := by rw [if_pos rfl] at H; exact H
         clear H
         have H := H1
         clear H1
         obtain rfl := oI H
         go_wp2
         go_ret
         exact ⟨by first | rfl | (simp [errW_none, errW_some] <;> rfl) | (simp [*, errW_none, errW_some] <;> rfl), by repeat (first | (with_reducible first | exact HB.out | apply bA | apply bN | apply bD | refine below_set ?_ GE713.out | refine below_set ?_ GE725.out) | exact HB.out)⟩
        ·replace c52 := Bool.eq_false_iff.mpr c52
         subst c52
         have H1 : ((laws_markIntS.f kj36 t726 1).bind fun bt738 => ((laws_heldIntS.f kj36 bt738.2 1).bind fun t740 => (if t740 < 0 then (some false) else (if t740 = bt738.1 then ((laws_toPuzzle.f kj36 l0_0).bind fun t741 => ((impl_NeedlessClues.f t741).bind fun bt744 => ((laws_eqIntS.f kj36 bt744.1 t718).bind fun t748 => (if t748 = true then (laws_FnExactNeedlessClues.j2 kj36 bt738.2 bt738.1 (bt744.2 != t721)) else (laws_FnExactNeedlessClues.j2 kj36 bt738.2 bt738.1 true))))) else (some false))))) = some r := by rw [if_neg (show ¬ (false = true) by decide)] at H; exact H
         clear H
         have H := H1
         clear H1
         replace H := bI H
         obtain ⟨⟨t738, t739⟩, A530, H⟩ := H
         replace H : ((laws_heldIntS.f kj36 t739 1).bind fun t740 => (if t740 < 0 then (some false) else (if t740 = t738 then ((laws_toPuzzle.f kj36 l0_0).bind fun t741 => ((impl_NeedlessClues.f t741).bind fun bt744 => ((laws_eqIntS.f kj36 bt744.1 t718).bind fun t748 => (if t748 = true then (laws_FnExactNeedlessClues.j2 kj36 t739 t738 (bt744.2 != t721)) else (laws_FnExactNeedlessClues.j2 kj36 t739 t738 true))))) else (some false)))) = some r := H
         have A53 := Aside0.mk A530
         clear A530
         replace H := bI H
         obtain ⟨t740, A540, H⟩ := H
         replace H : (if t740 < 0 then (some false) else (if t740 = t738 then ((laws_toPuzzle.f kj36 l0_0).bind fun t741 => ((impl_NeedlessClues.f t741).bind fun bt744 => ((laws_eqIntS.f kj36 bt744.1 t718).bind fun t748 => (if t748 = true then (laws_FnExactNeedlessClues.j2 kj36 t739 t738 (bt744.2 != t721)) else (laws_FnExactNeedlessClues.j2 kj36 t739 t738 true))))) else (some false))) = some r := H
         have A54 := Aside0.mk A540
         clear A540
         by_cases c55 : t740 < 0
         ·rw [if_pos c55] at H
          have c55b0 : decide (t740 < 0) = true := decide_eq_true c55
          clear c55
          obtain rfl := oI H
          obtain ⟨Ao56, co56, eo56⟩ := Kd.R_slice HO_7.out
          subst eo56
          go_wp2_with (first | ((with_reducible refine gate_callee (f := 30) rfl ?_); refine goesL_ (some 64) rfl rfl Try.func30 (by kernel_rfl) rfl #[.slice Ao56 t726.length co56, .int .i64 1] rfl ar_ ?_; (with_reducible refine (laws_markIntS.calls kj36 (fun k_ => some k_ = (.slice Ao56 t726.length co56 : Value).ownBlock) (.slice Ao56 t726.length co56) t726 1 t738 t739 w _ ?side1 ?side2 A53.out).mono ?_); (case side1 => repeat (first | (with_reducible first | exact HB.out | apply bA | apply bN | apply bD | refine below_set ?_ GE713.out | refine below_set ?_ GE725.out) | exact HB.out)); (case side2 => exact Kd.R_tight rfl HO_7.out); rintro e w57 ⟨rfl, hy0, hb, hkp⟩; refine ⟨_, rfl, ?_⟩; have n0_ := Aside0.mk (Kd.R_mono (ok' := fun k_ => some k_ ≠ (.slice Ao56 t726.length co56 : Value).ownBlock) (Kd.R_keptB (HO_4.out) hkp (fun k_ hk_ hs_ => (hk_) hs_)) (fun k_ hk_ => hk_.1)); have n1_ := Aside0.mk (Kd.R_reok rfl hy0 (fun k_ e_ => HO_7.out.1 k_ e_)); have n2_ := Aside0.mk (Kd.R_mono (ok' := fun k_ => True) (Kd.R_keptB ((Kd.R_apart' HO_726000.out (Kd.R_typed HO_7.out) (by decide))) hkp (fun k_ hk_ hs_ => (hk_.2) hs_)) (fun k_ hk_ => trivial)); have n3_ := Aside0.mk (blk_kept (kx_ BK713.out) hkp (fun hs_ => (fun e_ => (Kd.R_ne HO_7.out BK713.out (by decide)) e_) hs_)); have n4_ := Aside0.mk (blk_kept (kx_ BK725.out) hkp (fun hs_ => (fun e_ => (Kd.R_ne HO_7.out BK725.out (by decide)) e_) hs_)); have n5_ := Aside0.mk (hb); clear HO_4; clear HO_7; clear HO_726000; clear BK713; clear BK725; clear HB; have HO_4 := n0_; have HO_7 := n1_; have HO_726000 := n2_; have BK713 := n3_; have BK725 := n4_; have HB := n5_; clear n0_ n1_ n2_ n3_ n4_ n5_; (try clear hb); (try clear hkp); (try clear hy0)) | ((with_reducible refine gate_callee (f := 31) rfl ?_); refine goesL_ (some 67) rfl rfl Try.func31 (by kernel_rfl) rfl #[.slice Ao56 t739.length co56, .int .i64 1] rfl (by (try simp only [mT, mC, mN]); first | done | (rw [show t739.length = t726.length from (Kd.R_reads' HO_7.out).1.symm] <;> rfl) | rfl | (simp only [List.length_drop, List.length_take]; rfl)) ?_; (with_reducible refine (laws_heldIntS.calls kj36 _ _ t739 1 t740 _ ?side1 ?side2 A54.out).mono ?_); (case side1 => repeat (first | exact (Kd.R_reads' HO_7.out).2.2 | (with_reducible refine Kd.C_alloc ?_ _) | (with_reducible refine Kd.C_drewN ?_ _) | (with_reducible refine Kd.C_drew ?_))); (case side2 => rw [show t739.length = t726.length from (Kd.R_reads' HO_7.out).1.symm]; exact (Kd.R_reads' HO_7.out).2.1); rintro e w' ⟨rfl, ⟨nd, rfl⟩⟩; refine ⟨_, rfl, ?_⟩))
          go_ret
          exact ⟨by first | rfl | (simp [errW_none, errW_some] <;> rfl) | (simp [*, errW_none, errW_some] <;> rfl), by repeat (first | (with_reducible first | exact HB.out | apply bA | apply bN | apply bD | refine below_set ?_ GE713.out | refine below_set ?_ GE725.out) | exact HB.out)⟩
         ·rw [if_neg c55] at H
          have c55b0 : decide (t740 < 0) = false := decide_eq_false c55
          clear c55
          by_cases c58 : t740 = t738
          ·rw [if_pos c58] at H
           have c58b0 : (t740 == t738) = true := beq_iff_eq.mpr c58
           have c58b1 : (t740 != t738) = false := bne_eq_false_iff_eq.mpr c58
           clear c58
           replace H := bI H
           obtain ⟨t741, A590, H⟩ := H
           replace H : ((impl_NeedlessClues.f t741).bind fun bt744 => ((laws_eqIntS.f kj36 bt744.1 t718).bind fun t748 => (if t748 = true then (laws_FnExactNeedlessClues.j2 kj36 t739 t738 (bt744.2 != t721)) else (laws_FnExactNeedlessClues.j2 kj36 t739 t738 true)))) = some r := H
           have A59 := Aside0.mk A590
           clear A590
           replace H := bI H
           obtain ⟨⟨t744, t747⟩, A600, H⟩ := H
           replace H : ((laws_eqIntS.f kj36 t744 t718).bind fun t748 => (if t748 = true then (laws_FnExactNeedlessClues.j2 kj36 t739 t738 (t747 != t721)) else (laws_FnExactNeedlessClues.j2 kj36 t739 t738 true))) = some r := H
           have A60 := Aside0.mk A600
           clear A600
           have HC61 := Aside0.mk H
           clear H
           obtain ⟨Ao62, co62, eo62⟩ := Kd.R_slice HO_7.out
           subst eo62
           go_upto_region 25 with (first | ((with_reducible refine gate_callee (f := 30) rfl ?_); refine goesL_ (some 64) rfl rfl Try.func30 (by kernel_rfl) rfl #[.slice Ao62 t726.length co62, .int .i64 1] rfl ar_ ?_; (with_reducible refine (laws_markIntS.calls kj36 (fun k_ => some k_ = (.slice Ao62 t726.length co62 : Value).ownBlock) (.slice Ao62 t726.length co62) t726 1 t738 t739 w _ ?side1 ?side2 A53.out).mono ?_); (case side1 => repeat (first | (with_reducible first | exact HB.out | apply bA | apply bN | apply bD | refine below_set ?_ GE713.out | refine below_set ?_ GE725.out) | exact HB.out)); (case side2 => exact Kd.R_tight rfl HO_7.out); rintro e w63 ⟨rfl, hy0, hb, hkp⟩; refine ⟨_, rfl, ?_⟩; have n0_ := Aside0.mk (Kd.R_mono (ok' := fun k_ => some k_ ≠ (.slice Ao62 t726.length co62 : Value).ownBlock) (Kd.R_keptB (HO_4.out) hkp (fun k_ hk_ hs_ => (hk_) hs_)) (fun k_ hk_ => hk_.1)); have n1_ := Aside0.mk (Kd.R_reok rfl hy0 (fun k_ e_ => HO_7.out.1 k_ e_)); have n2_ := Aside0.mk (Kd.R_mono (ok' := fun k_ => True) (Kd.R_keptB ((Kd.R_apart' HO_726000.out (Kd.R_typed HO_7.out) (by decide))) hkp (fun k_ hk_ hs_ => (hk_.2) hs_)) (fun k_ hk_ => trivial)); have n3_ := Aside0.mk (blk_kept (kx_ BK713.out) hkp (fun hs_ => (fun e_ => (Kd.R_ne HO_7.out BK713.out (by decide)) e_) hs_)); have n4_ := Aside0.mk (blk_kept (kx_ BK725.out) hkp (fun hs_ => (fun e_ => (Kd.R_ne HO_7.out BK725.out (by decide)) e_) hs_)); have n5_ := Aside0.mk (hb); clear HO_4; clear HO_7; clear HO_726000; clear BK713; clear BK725; clear HB; have HO_4 := n0_; have HO_7 := n1_; have HO_726000 := n2_; have BK713 := n3_; have BK725 := n4_; have HB := n5_; clear n0_ n1_ n2_ n3_ n4_ n5_; (try clear hb); (try clear hkp); (try clear hy0)) | ((with_reducible refine gate_callee (f := 31) rfl ?_); refine goesL_ (some 67) rfl rfl Try.func31 (by kernel_rfl) rfl #[.slice Ao62 t739.length co62, .int .i64 1] rfl (by (try simp only [mT, mC, mN]); first | done | (rw [show t739.length = t726.length from (Kd.R_reads' HO_7.out).1.symm] <;> rfl) | rfl | (simp only [List.length_drop, List.length_take]; rfl)) ?_; (with_reducible refine (laws_heldIntS.calls kj36 _ _ t739 1 t740 _ ?side1 ?side2 A54.out).mono ?_); (case side1 => repeat (first | exact (Kd.R_reads' HO_7.out).2.2 | (with_reducible refine Kd.C_alloc ?_ _) | (with_reducible refine Kd.C_drewN ?_ _) | (with_reducible refine Kd.C_drew ?_))); (case side2 => rw [show t739.length = t726.length from (Kd.R_reads' HO_7.out).1.symm]; exact (Kd.R_reads' HO_7.out).2.1); rintro e w' ⟨rfl, ⟨nd, rfl⟩⟩; refine ⟨_, rfl, ?_⟩; have hnb64 := NB713_725.out; have hnc64 := NB725_713.out; have hcz65_0 : w63.cell? ⟨gb713, 0, none⟩ = some (.slice A0_0 l0_0.length c0_0) := (blk_cell BK713.out 0).trans rfl; have hfz65_0 := blk_frozen BK713.out 0) | ((with_reducible refine gate_callee (f := 14) rfl ?_); refine goesL_ (some 75) rfl rfl Try.func14 (by kernel_rfl) rfl #[.agg #[.slice A0_0 l0_0.length c0_0]] rfl ar_ ?_; (with_reducible refine (laws_toPuzzle.calls kj36 _ _ l0_0 t741 _ ?side1 ?side2 A59.out).mono ?_); (case side1 => repeat (first | exact (Kd.C_below HR0_0.out (by repeat (first | (with_reducible first | exact HB.out | apply bA | apply bN | apply bD | refine below_set ?_ GE713.out | refine below_set ?_ GE725.out) | exact HB.out))) | (with_reducible refine Kd.C_alloc ?_ _) | (with_reducible refine Kd.C_drewN ?_ _) | (with_reducible refine Kd.C_drew ?_))); (case side2 => exact HC0_0.out); rintro e w66 ⟨v742, rfl, ho0, hb⟩; refine ⟨_, rfl, ?_⟩; have n0_ := Aside0.mk (Kd.R_below (by (with_reducible repeat (first | apply rA | apply rN | apply rD)); exact HO_4.out) hb); have n1_ := Aside0.mk (Kd.R_below (by (with_reducible repeat (first | apply rA | apply rN | apply rD)); exact HO_7.out) hb); have n2_ := Aside0.mk (Kd.R_elder' (by (with_reducible repeat (first | apply rA | apply rN | apply rD)); exact HO_726000.out) (Kd.R_base ho0) hb); have n3_ := Aside0.mk (Kd.R_lower (Kd.R_new' ho0 (Kd.R_lt (by (with_reducible repeat (first | apply rA | apply rN | apply rD)); exact HO_726000.out))) (below_size (by repeat (first | (with_reducible first | exact HB.out | apply bA | apply bN | apply bD | refine below_set ?_ GE713.out | refine below_set ?_ GE725.out) | exact HB.out)))); have n4_ := Aside0.mk (blk_below (g := gb713) (o := .cells #[.slice A0_0 l0_0.length c0_0] 24 (0, 0)) (kx_ BK713.out) hb); have n5_ := Aside0.mk (blk_below (g := gb725) (o := .cells #[.slice Ao22 t736.length co22] 30 (0, 0)) (kx_ BK725.out) hb); have n6_ := Aside0.mk (below_step (by repeat (first | (with_reducible first | exact HB.out | apply bA | apply bN | apply bD | refine below_set ?_ GE713.out | refine below_set ?_ GE725.out) | exact HB.out)) hb); clear HO_4; clear HO_7; clear HO_726000; clear BK713; clear BK725; clear HB; have HO_4 := n0_; have HO_7 := n1_; have HO_726000 := n2_; have HO743 := n3_; have BK713 := n4_; have BK725 := n5_; have HB := n6_; clear n0_ n1_ n2_ n3_ n4_ n5_ n6_; (try clear hb); (try clear hb2); (try clear hk); (try clear hi); (try clear ho0); obtain ⟨Ao67, co67, eo67⟩ := Kd.R_slice HO743.out; subst eo67) | ((with_reducible refine gate_callee (f := 41) rfl ?_); refine goesL_ (some 76) rfl rfl Try.func41 (by kernel_rfl) rfl #[.agg #[.slice Ao67 t741.length co67]] rfl ar_ ?_; (with_reducible refine (impl_NeedlessClues.calls _ _ t741 t744 t747 _ ?side1 ?side2 A60.out).mono ?_); (case side1 => repeat (first | exact (Kd.R_reads' HO743.out).2.2 | (with_reducible refine Kd.C_alloc ?_ _) | (with_reducible refine Kd.C_drewN ?_ _) | (with_reducible refine Kd.C_drew ?_))); (case side2 => exact (Kd.R_reads' HO743.out).2.1); rintro e w68 ⟨v745, rfl, ho0, hb⟩; refine ⟨_, rfl, ?_⟩; have n0_ := Aside0.mk (Kd.R_elder' (by (with_reducible repeat (first | apply rA | apply rN | apply rD)); exact HO_4.out) (Kd.R_base ho0) hb); have n1_ := Aside0.mk (Kd.R_elder' (by (with_reducible repeat (first | apply rA | apply rN | apply rD)); exact HO_7.out) (Kd.R_base ho0) hb); have n2_ := Aside0.mk (Kd.R_below (by (with_reducible repeat (first | apply rA | apply rN | apply rD)); exact HO_726000.out) hb); have n3_ := Aside0.mk (Kd.R_below (by (with_reducible repeat (first | apply rA | apply rN | apply rD)); exact HO743.out) hb); have n4_ := Aside0.mk (Kd.R_lower (Kd.R_new' (Kd.R_new' ho0 (Kd.R_lt (by (with_reducible repeat (first | apply rA | apply rN | apply rD)); exact HO_4.out))) (Kd.R_lt (by (with_reducible repeat (first | apply rA | apply rN | apply rD)); exact HO_7.out))) (below_size (by repeat (first | (with_reducible first | exact HB.out | apply bA | apply bN | apply bD | refine below_set ?_ GE713.out | refine below_set ?_ GE725.out) | exact HB.out)))); have n5_ := Aside0.mk (blk_below (g := gb713) (o := .cells #[.slice A0_0 l0_0.length c0_0] 24 (0, 0)) (kx_ BK713.out) hb); have n6_ := Aside0.mk (blk_below (g := gb725) (o := .cells #[.slice Ao22 t736.length co22] 30 (0, 0)) (kx_ BK725.out) hb); have n7_ := Aside0.mk (below_step (by repeat (first | (with_reducible first | exact HB.out | apply bA | apply bN | apply bD | refine below_set ?_ GE713.out | refine below_set ?_ GE725.out) | exact HB.out)) hb); clear HO_4; clear HO_7; clear HO_726000; clear HO743; clear BK713; clear BK725; clear HB; have HO_4 := n0_; have HO_7 := n1_; have HO_726000 := n2_; have HO743 := n3_; have HO746 := n4_; have BK713 := n5_; have BK725 := n6_; have HB := n7_; clear n0_ n1_ n2_ n3_ n4_ n5_ n6_ n7_; (try clear hb); (try clear hb2); (try clear hk); (try clear hi); (try clear ho0)))
           (try simp only [Act.put, List.setIfInBounds_toArray, List.set_cons_zero, List.set_cons_succ])
           go_cut [87] (fun v87 wc => ∃ (kq : Nat) (x87_60 : Bool), v87 = .bool x87_60 ∧ Aside0 (laws_FnExactNeedlessClues.j2 kq t739 t738 x87_60 = some r) ∧ Aside0 (kq ≤ kj36) ∧ Aside0 (Kd.R (Kd.int .i64) 3 wc w.heap.size (fun _ => True) (.slice Ao62 t726.length co62) t739) ∧ Aside0 (Kd.R k67 67 wc w.heap.size (fun _ => True) (.slice Ao22 t736.length co22) t736) ∧ Aside0 (wc.heap[gb713]? = some (.cells #[(.slice A0_0 l0_0.length c0_0)] 24 (0, 0))) ∧ Aside0 (wc.heap[gb725]? = some (.cells #[(.slice Ao22 t736.length co22)] 30 (0, 0))) ∧ Aside0 (Below w.heap.size w wc))
           case first =>
            have H := HC61.out
            clear HC61
            replace H := bI H
            obtain ⟨t748, A690, H⟩ := H
            replace H : (if t748 = true then (laws_FnExactNeedlessClues.j2 kj36 t739 t738 (t747 != t721)) else (laws_FnExactNeedlessClues.j2 kj36 t739 t738 true)) = some r := H
            have A69 := Aside0.mk A690
            clear A690
            by_cases c70 : t748 = true
            ·subst c70
             have H1 : (laws_FnExactNeedlessClues.j2 kj36 t739 t738 (t747 != t721)) = some r := by rw [if_pos rfl] at H; exact H
             clear H
             have H := H1
             clear H1
             have H' := Aside0.mk H
             clear H
             obtain ⟨Ao71, co71, eo71⟩ := Kd.R_slice HO746.out
             subst eo71
             obtain ⟨Ao72, co72, eo72⟩ := Kd.R_slice HO_4.out
             subst eo72
             go_wp2_with (first | ((with_reducible refine gate_callee (f := 28) rfl ?_); refine goesL_ (some 81) rfl rfl Try.func28 (by kernel_rfl) rfl #[.slice Ao71 t744.length co71, .slice Ao72 t718.length co72] rfl ar_ ?_; (with_reducible refine (laws_eqIntS.calls kj36 _ _ t744 _ _ t718 true _ ?side1 ?side2 ?side3 ?side4 A69.out).mono ?_); (case side1 => repeat (first | exact (Kd.R_reads' HO746.out).2.2 | (with_reducible refine Kd.C_alloc ?_ _) | (with_reducible refine Kd.C_drewN ?_ _) | (with_reducible refine Kd.C_drew ?_))); (case side2 => exact (Kd.R_reads' HO746.out).2.1); (case side3 => repeat (first | exact (Kd.R_reads' HO_4.out).2.2 | (with_reducible refine Kd.C_alloc ?_ _) | (with_reducible refine Kd.C_drewN ?_ _) | (with_reducible refine Kd.C_drew ?_))); (case side4 => exact (Kd.R_reads' HO_4.out).2.1); rintro e w' ⟨rfl, ⟨nd, rfl⟩⟩; refine ⟨_, rfl, ?_⟩))
             go_meet
             case rel => exact ⟨_, ((t747 != t721)), (by first | rfl | (simp; done) | (simp [*]; done)), H', ⟨by have := HJ10.out; have := HJ36.out; first | omega | exact Nat.le_refl _⟩, ⟨by (try simp only [hl726000_36]); (with_reducible repeat (first | apply rA | apply rN | apply rD)); exact Kd.R_mono HO_7.out (fun _ hk => trivial)⟩, ⟨by (try simp only [hl726000_36]); (with_reducible repeat (first | apply rA | apply rN | apply rD)); exact Kd.R_mono HO_726000.out (fun _ hk => trivial)⟩, ⟨by (try simp only [hl726000_36]); (with_reducible repeat (first | refine kN ?_ _ | refine kD ?_ | refine kA ?_ _)); exact BK713.out⟩, ⟨by (try simp only [hl726000_36]); (with_reducible repeat (first | refine kN ?_ _ | refine kD ?_ | refine kA ?_ _)); exact BK725.out⟩, ⟨by repeat (first | (with_reducible first | exact HB.out | apply bA | apply bN | apply bD | refine below_set ?_ GE713.out | refine below_set ?_ GE725.out) | exact HB.out)⟩⟩
            ·replace c70 := Bool.eq_false_iff.mpr c70
             subst c70
             have H1 : (laws_FnExactNeedlessClues.j2 kj36 t739 t738 true) = some r := by rw [if_neg (show ¬ (false = true) by decide)] at H; exact H
             clear H
             have H := H1
             clear H1
             have H' := Aside0.mk H
             clear H
             obtain ⟨Ao73, co73, eo73⟩ := Kd.R_slice HO746.out
             subst eo73
             obtain ⟨Ao74, co74, eo74⟩ := Kd.R_slice HO_4.out
             subst eo74
             go_wp2_with (first | ((with_reducible refine gate_callee (f := 28) rfl ?_); refine goesL_ (some 81) rfl rfl Try.func28 (by kernel_rfl) rfl #[.slice Ao73 t744.length co73, .slice Ao74 t718.length co74] rfl ar_ ?_; (with_reducible refine (laws_eqIntS.calls kj36 _ _ t744 _ _ t718 false _ ?side1 ?side2 ?side3 ?side4 A69.out).mono ?_); (case side1 => repeat (first | exact (Kd.R_reads' HO746.out).2.2 | (with_reducible refine Kd.C_alloc ?_ _) | (with_reducible refine Kd.C_drewN ?_ _) | (with_reducible refine Kd.C_drew ?_))); (case side2 => exact (Kd.R_reads' HO746.out).2.1); (case side3 => repeat (first | exact (Kd.R_reads' HO_4.out).2.2 | (with_reducible refine Kd.C_alloc ?_ _) | (with_reducible refine Kd.C_drewN ?_ _) | (with_reducible refine Kd.C_drew ?_))); (case side4 => exact (Kd.R_reads' HO_4.out).2.1); rintro e w' ⟨rfl, ⟨nd, rfl⟩⟩; refine ⟨_, rfl, ?_⟩))
             go_meet
             case rel => exact ⟨_, (true), (by first | rfl | (simp; done) | (simp [*]; done)), H', ⟨by have := HJ10.out; have := HJ36.out; first | omega | exact Nat.le_refl _⟩, ⟨by (try simp only [hl726000_36]); (with_reducible repeat (first | apply rA | apply rN | apply rD)); exact Kd.R_mono HO_7.out (fun _ hk => trivial)⟩, ⟨by (try simp only [hl726000_36]); (with_reducible repeat (first | apply rA | apply rN | apply rD)); exact Kd.R_mono HO_726000.out (fun _ hk => trivial)⟩, ⟨by (try simp only [hl726000_36]); (with_reducible repeat (first | refine kN ?_ _ | refine kD ?_ | refine kA ?_ _)); exact BK713.out⟩, ⟨by (try simp only [hl726000_36]); (with_reducible repeat (first | refine kN ?_ _ | refine kD ?_ | refine kA ?_ _)); exact BK725.out⟩, ⟨by repeat (first | (with_reducible first | exact HB.out | apply bA | apply bN | apply bD | refine below_set ?_ GE713.out | refine below_set ?_ GE725.out) | exact HB.out)⟩⟩
           case rest =>
            clear HC61
            try clear c1
            try clear c2
            try clear p2
            try clear c3
            try clear c3b0
            try clear c4
            try clear c5
            try clear c6
            try clear c7
            try clear c11
            try clear c12
            try clear c14
            try clear c16
            try clear c23
            try clear c27
            try clear c28
            try clear c29
            try clear c30
            try clear c31
            try clear c32
            try clear c35
            try clear c40
            try clear c41
            try clear c42
            try clear c45
            try clear c45b0
            try clear c47
            try clear c52
            try clear c55
            try clear c55b0
            try clear c58
            try clear c58b0
            try clear c58b1
            try clear c64
            try clear c70
            try clear hcz13_0
            try clear hcz15_0
            try clear hcz19_0
            try clear hcz24_0
            try clear hcz43_0
            try clear hcz5_0
            try clear hcz65_0
            try clear hfz13_0
            try clear hfz15_0
            try clear hfz19_0
            try clear hfz24_0
            try clear hfz43_0
            try clear hfz5_0
            try clear hfz65_0
            try clear p2
            obtain ⟨kq, x87_60, rfl, HA, HJ60, HO_7, HO_726000, BK713, BK725, HB⟩ := hcut
            have hl7_60 := (Kd.R_reads' HO_7.out).1
            rw [hl7_60] at HO_7
            (try simp only [hl7_60])
            (try simp only [hl7_60] at BK713)
            (try simp only [hl7_60] at BK725)
            (try simp only [hl7_60] at HO_726000)
            cases kq with
            | zero => exact absurd HA.out (by simp [laws_FnExactNeedlessClues.j2])
            | succ kj60 =>
             have H := HA.out
             clear HA
             simp only [laws_FnExactNeedlessClues.j2] at H
             by_cases c75 : x87_60 = true
             ·subst c75
              have H1 : (some false) = some r := by rw [if_pos rfl] at H; exact H
              clear H
              have H := H1
              clear H1
              obtain rfl := oI H
              go_wp2
              go_ret
              exact ⟨by first | rfl | (simp [errW_none, errW_some] <;> rfl) | (simp [*, errW_none, errW_some] <;> rfl), by repeat (first | (with_reducible first | exact HB.out | apply bA | apply bN | apply bD | refine below_set ?_ GE713.out | refine below_set ?_ GE725.out) | exact HB.out)⟩
             ·replace c75 := Bool.eq_false_iff.mpr c75
              subst c75
              have H1 : ((laws_heldIntS.f kj60 t739 1).bind fun t749 => (if t749 < 0 then (some false) else (if t749 = t738 then (some true) else (some false)))) = some r := by rw [if_neg (show ¬ (false = true) by decide)] at H; exact H
              clear H
              have H := H1
              clear H1
              replace H := bI H
              obtain ⟨t749, A760, H⟩ := H
              replace H : (if t749 < 0 then (some false) else (if t749 = t738 then (some true) else (some false))) = some r := H
              have A76 := Aside0.mk A760
              clear A760
              by_cases c77 : t749 < 0
              ·rw [if_pos c77] at H
               have c77b0 : decide (t749 < 0) = true := decide_eq_true c77
               clear c77
               obtain rfl := oI H
               go_wp2_with (first | ((with_reducible refine gate_callee (f := 31) rfl ?_); refine goesL_ (some 90) rfl rfl Try.func31 (by kernel_rfl) rfl #[.slice Ao62 t739.length co62, .int .i64 1] rfl ar_ ?_; (with_reducible refine (laws_heldIntS.calls kj60 _ _ t739 1 t749 _ ?side1 ?side2 A76.out).mono ?_); (case side1 => repeat (first | exact (Kd.R_reads' HO_7.out).2.2 | (with_reducible refine Kd.C_alloc ?_ _) | (with_reducible refine Kd.C_drewN ?_ _) | (with_reducible refine Kd.C_drew ?_))); (case side2 => exact (Kd.R_reads' HO_7.out).2.1); rintro e w' ⟨rfl, ⟨nd, rfl⟩⟩; refine ⟨_, rfl, ?_⟩))
               go_ret
               exact ⟨by first | rfl | (simp [errW_none, errW_some] <;> rfl) | (simp [*, errW_none, errW_some] <;> rfl), by repeat (first | (with_reducible first | exact HB.out | apply bA | apply bN | apply bD | refine below_set ?_ GE713.out | refine below_set ?_ GE725.out) | exact HB.out)⟩
              ·rw [if_neg c77] at H
               have c77b0 : decide (t749 < 0) = false := decide_eq_false c77
               clear c77
               by_cases c78 : t749 = t738
               ·rw [if_pos c78] at H
                have c78b0 : (t749 == t738) = true := beq_iff_eq.mpr c78
                have c78b1 : (t749 != t738) = false := bne_eq_false_iff_eq.mpr c78
                clear c78
                obtain rfl := oI H
                go_wp2_with (first | ((with_reducible refine gate_callee (f := 31) rfl ?_); refine goesL_ (some 90) rfl rfl Try.func31 (by kernel_rfl) rfl #[.slice Ao62 t739.length co62, .int .i64 1] rfl ar_ ?_; (with_reducible refine (laws_heldIntS.calls kj60 _ _ t739 1 t749 _ ?side1 ?side2 A76.out).mono ?_); (case side1 => repeat (first | exact (Kd.R_reads' HO_7.out).2.2 | (with_reducible refine Kd.C_alloc ?_ _) | (with_reducible refine Kd.C_drewN ?_ _) | (with_reducible refine Kd.C_drew ?_))); (case side2 => exact (Kd.R_reads' HO_7.out).2.1); rintro e w' ⟨rfl, ⟨nd, rfl⟩⟩; refine ⟨_, rfl, ?_⟩))
                go_ret
                exact ⟨by first | rfl | (simp [errW_none, errW_some] <;> rfl) | (simp [*, errW_none, errW_some] <;> rfl), by repeat (first | (with_reducible first | exact HB.out | apply bA | apply bN | apply bD | refine below_set ?_ GE713.out | refine below_set ?_ GE725.out) | exact HB.out)⟩
               ·rw [if_neg c78] at H
                have c78b0 : (t749 == t738) = false := beq_eq_false_iff_ne.mpr c78
                have c78b1 : (t749 != t738) = true := bne_iff_ne.mpr c78
                obtain rfl := oI H
                go_wp2_with (first | ((with_reducible refine gate_callee (f := 31) rfl ?_); refine goesL_ (some 90) rfl rfl Try.func31 (by kernel_rfl) rfl #[.slice Ao62 t739.length co62, .int .i64 1] rfl ar_ ?_; (with_reducible refine (laws_heldIntS.calls kj60 _ _ t739 1 t749 _ ?side1 ?side2 A76.out).mono ?_); (case side1 => repeat (first | exact (Kd.R_reads' HO_7.out).2.2 | (with_reducible refine Kd.C_alloc ?_ _) | (with_reducible refine Kd.C_drewN ?_ _) | (with_reducible refine Kd.C_drew ?_))); (case side2 => exact (Kd.R_reads' HO_7.out).2.1); rintro e w' ⟨rfl, ⟨nd, rfl⟩⟩; refine ⟨_, rfl, ?_⟩))
                go_ret
                exact ⟨by first | rfl | (simp [errW_none, errW_some] <;> rfl) | (simp [*, errW_none, errW_some] <;> rfl), by repeat (first | (with_reducible first | exact HB.out | apply bA | apply bN | apply bD | refine below_set ?_ GE713.out | refine below_set ?_ GE725.out) | exact HB.out)⟩
          ·rw [if_neg c58] at H
           have c58b0 : (t740 == t738) = false := beq_eq_false_iff_ne.mpr c58
           have c58b1 : (t740 != t738) = true := bne_iff_ne.mpr c58
           obtain rfl := oI H
           obtain ⟨Ao79, co79, eo79⟩ := Kd.R_slice HO_7.out
           subst eo79
           go_wp2_with (first | ((with_reducible refine gate_callee (f := 30) rfl ?_); refine goesL_ (some 64) rfl rfl Try.func30 (by kernel_rfl) rfl #[.slice Ao79 t726.length co79, .int .i64 1] rfl ar_ ?_; (with_reducible refine (laws_markIntS.calls kj36 (fun k_ => some k_ = (.slice Ao79 t726.length co79 : Value).ownBlock) (.slice Ao79 t726.length co79) t726 1 t738 t739 w _ ?side1 ?side2 A53.out).mono ?_); (case side1 => repeat (first | (with_reducible first | exact HB.out | apply bA | apply bN | apply bD | refine below_set ?_ GE713.out | refine below_set ?_ GE725.out) | exact HB.out)); (case side2 => exact Kd.R_tight rfl HO_7.out); rintro e w80 ⟨rfl, hy0, hb, hkp⟩; refine ⟨_, rfl, ?_⟩; have n0_ := Aside0.mk (Kd.R_mono (ok' := fun k_ => some k_ ≠ (.slice Ao79 t726.length co79 : Value).ownBlock) (Kd.R_keptB (HO_4.out) hkp (fun k_ hk_ hs_ => (hk_) hs_)) (fun k_ hk_ => hk_.1)); have n1_ := Aside0.mk (Kd.R_reok rfl hy0 (fun k_ e_ => HO_7.out.1 k_ e_)); have n2_ := Aside0.mk (Kd.R_mono (ok' := fun k_ => True) (Kd.R_keptB ((Kd.R_apart' HO_726000.out (Kd.R_typed HO_7.out) (by decide))) hkp (fun k_ hk_ hs_ => (hk_.2) hs_)) (fun k_ hk_ => trivial)); have n3_ := Aside0.mk (blk_kept (kx_ BK713.out) hkp (fun hs_ => (fun e_ => (Kd.R_ne HO_7.out BK713.out (by decide)) e_) hs_)); have n4_ := Aside0.mk (blk_kept (kx_ BK725.out) hkp (fun hs_ => (fun e_ => (Kd.R_ne HO_7.out BK725.out (by decide)) e_) hs_)); have n5_ := Aside0.mk (hb); clear HO_4; clear HO_7; clear HO_726000; clear BK713; clear BK725; clear HB; have HO_4 := n0_; have HO_7 := n1_; have HO_726000 := n2_; have BK713 := n3_; have BK725 := n4_; have HB := n5_; clear n0_ n1_ n2_ n3_ n4_ n5_; (try clear hb); (try clear hkp); (try clear hy0)) | ((with_reducible refine gate_callee (f := 31) rfl ?_); refine goesL_ (some 67) rfl rfl Try.func31 (by kernel_rfl) rfl #[.slice Ao79 t739.length co79, .int .i64 1] rfl (by (try simp only [mT, mC, mN]); first | done | (rw [show t739.length = t726.length from (Kd.R_reads' HO_7.out).1.symm] <;> rfl) | rfl | (simp only [List.length_drop, List.length_take]; rfl)) ?_; (with_reducible refine (laws_heldIntS.calls kj36 _ _ t739 1 t740 _ ?side1 ?side2 A54.out).mono ?_); (case side1 => repeat (first | exact (Kd.R_reads' HO_7.out).2.2 | (with_reducible refine Kd.C_alloc ?_ _) | (with_reducible refine Kd.C_drewN ?_ _) | (with_reducible refine Kd.C_drew ?_))); (case side2 => rw [show t739.length = t726.length from (Kd.R_reads' HO_7.out).1.symm]; exact (Kd.R_reads' HO_7.out).2.1); rintro e w' ⟨rfl, ⟨nd, rfl⟩⟩; refine ⟨_, rfl, ?_⟩))
           go_ret
           exact ⟨by first | rfl | (simp [errW_none, errW_some] <;> rfl) | (simp [*, errW_none, errW_some] <;> rfl), by repeat (first | (with_reducible first | exact HB.out | apply bA | apply bN | apply bD | refine below_set ?_ GE713.out | refine below_set ?_ GE725.out) | exact HB.out)⟩
     ·replace c35 := Bool.eq_false_iff.mpr c35
      subst c35
      have H1 : (some false) = some r := by rw [if_neg (show ¬ (false = true) by decide)] at H; exact H
      clear H
      have H := H1
      clear H1
      obtain rfl := oI H
      try go_wp2
      have n0_ := Aside0.mk (Kd.R_drew HO_4.out)
      have n1_ := Aside0.mk (Kd.R_drew HO_7.out)
      have n2_ := Aside0.mk (Kd.R_drew HO_726000.out)
      have n3_ := Aside0.mk (blk_drew BK713.out)
      have n4_ := Aside0.mk (blk_drew BK725.out)
      have n5_ := Aside0.mk (below_drew1 HB.out)
      clear HO_4
      clear HO_7
      clear HO_726000
      clear BK713
      clear BK725
      clear HB
      have HO_4 := n0_
      have HO_7 := n1_
      have HO_726000 := n2_
      have BK713 := n3_
      have BK725 := n4_
      have HB := n5_
      clear n0_ n1_ n2_ n3_ n4_ n5_
      refine start_ (n := 5) (S := fun w' => w'.cell? ⟨gb725, 0, none⟩ = some (.slice Ao22 t722.length co22) ∧ w'.cell? ⟨gb713, 0, none⟩ = some (.slice A0_0 l0_0.length c0_0)) (ds := []) #[false, false, false, false, false] (by kernel_rfl) rfl rfl ⟨(blk_cell BK725.out 0).trans rfl, (blk_cell BK713.out 0).trans rfl⟩ (fun hHeld => ?_)
      generalize wc.drew = w81 at HO_4 HO_7 HO_726000 BK713 BK725 HB hHeld ⊢
      refine take_ (i := 0) (N := some 41) (v := ?_) (a' := ?_) #[true, false, false, false, false] rfl rfl (by kernel_rfl) (fun _ _ _ h => h) (Or.inl ⟨by rfl, ?_⟩) hHeld ?_ ?_
      rotate_left
      ·rintro w' ⟨s0, s1⟩
       go_simp
       with_reducible rfl
      rotate_left
      ·simp only [Act.put, sT, sZ, sS, i64_w, i32_w]
       rfl
      refine take_ (i := 1) (N := some 42) (v := ?_) (a' := ?_) #[true, true, false, false, false] rfl rfl (by kernel_rfl) (fun _ _ _ h => h) (Or.inl ⟨by rfl, ?_⟩) hHeld ?_ ?_
      rotate_left
      ·rintro w' ⟨s0, s1⟩
       go_simp
       with_reducible rfl
      rotate_left
      ·simp only [Act.put, sT, sZ, sS, i64_w, i32_w]
       rfl
      refine one_ (i := 2) (N := some 43) #[true, true, true, false, false] rfl rfl (by kernel_rfl) (by decide) (fun K hK => ?_)
      refine goes_ Try.func14 (by kernel_rfl) rfl #[.agg #[.slice A0_0 l0_0.length c0_0]] (by rfl) rfl rfl ar_ ?_
      with_reducible refine (laws_toPuzzle.calls kj10 _ _ l0_0 t731 _ ?side1 ?side2 A33.out).mono ?_
      (case side1 => repeat (first | exact (Kd.C_below HR0_0.out HB.out) | (with_reducible refine Kd.C_alloc ?_ _) | (with_reducible refine Kd.C_drewN ?_ _) | (with_reducible refine Kd.C_drew ?_)))
      (case side2 => exact HC0_0.out)
      rintro e w82 ⟨v732, rfl, ho0, hb⟩
      refine ⟨_, rfl, ?_⟩
      have n0_ := Aside0.mk (Kd.R_below (by (with_reducible repeat (first | apply rA | apply rN | apply rD)); exact HO_4.out) hb)
      have n1_ := Aside0.mk (Kd.R_below (by (with_reducible repeat (first | apply rA | apply rN | apply rD)); exact HO_7.out) hb)
      have n2_ := Aside0.mk (Kd.R_elder' (by (with_reducible repeat (first | apply rA | apply rN | apply rD)); exact HO_726000.out) (Kd.R_base ho0) hb)
      have n3_ := Aside0.mk (Kd.R_lower (Kd.R_new' ho0 (Kd.R_lt (by (with_reducible repeat (first | apply rA | apply rN | apply rD)); exact HO_726000.out))) (below_size (by repeat (first | (with_reducible first | exact HB.out | apply bA | apply bN | apply bD | refine below_set ?_ GE713.out | refine below_set ?_ GE725.out) | exact HB.out))))
      have n4_ := Aside0.mk (blk_below (g := gb713) (o := .cells #[.slice A0_0 l0_0.length c0_0] 24 (0, 0)) (kx_ BK713.out) hb)
      have n5_ := Aside0.mk (blk_below (g := gb725) (o := .cells #[.slice Ao22 t722.length co22] 30 (0, 0)) (kx_ BK725.out) hb)
      have n6_ := Aside0.mk (below_step (by repeat (first | (with_reducible first | exact HB.out | apply bA | apply bN | apply bD | refine below_set ?_ GE713.out | refine below_set ?_ GE725.out) | exact HB.out)) hb)
      clear HO_4
      clear HO_7
      clear HO_726000
      clear BK713
      clear BK725
      clear HB
      have HO_4 := n0_
      have HO_7 := n1_
      have HO_726000 := n2_
      have HO733 := n3_
      have BK713 := n4_
      have BK725 := n5_
      have HB := n6_
      clear n0_ n1_ n2_ n3_ n4_ n5_ n6_
      (try clear hb)
      (try clear hb2)
      (try clear hk)
      (try clear hi)
      (try clear ho0)
      obtain ⟨Ao83, co83, eo83⟩ := Kd.R_slice HO733.out
      (first | subst eo83 | (injection eo83 with f1_ f2_ f3_; have f4_ := f1_.symm; have f5_ := f3_.symm; clear f1_ f2_ f3_; subst f4_; subst f5_))
      refine hK.out _ _ ⟨(blk_cell BK725.out 0).trans rfl, (blk_cell BK713.out 0).trans rfl⟩ (fun hHeld => ?_)
      clear hK K
      refine norm_ (a' := ?_) ?_ ?_
      rotate_left
      ·show Act.put _ (some 43) _ = _
       simp only [Act.put, sT, sZ, sS, i64_w, i32_w]
       rfl
      refine one_ (i := 3) (N := some 44) #[true, true, true, true, false] rfl rfl (by kernel_rfl) (by decide) (fun K hK => ?_)
      refine goes_ Try.func16 (by kernel_rfl) rfl #[.agg #[.slice Ao22 t722.length co22], .agg #[.slice Ao83 t731.length co83]] (by rfl) rfl rfl ar_ ?_
      with_reducible refine (laws_eqPuzzle.calls kj10 _ _ t722 _ _ t731 false _ ?side1 ?side2 ?side3 ?side4 A34.out).mono ?_
      (case side1 => repeat (first | exact (Kd.R_reads' HO_726000.out).2.2 | (with_reducible refine Kd.C_alloc ?_ _) | (with_reducible refine Kd.C_drewN ?_ _) | (with_reducible refine Kd.C_drew ?_)))
      (case side2 => exact (Kd.R_reads' HO_726000.out).2.1)
      (case side3 => repeat (first | exact (Kd.R_reads' HO733.out).2.2 | (with_reducible refine Kd.C_alloc ?_ _) | (with_reducible refine Kd.C_drewN ?_ _) | (with_reducible refine Kd.C_drew ?_)))
      (case side4 => exact (Kd.R_reads' HO733.out).2.1)
      rintro e w84 ⟨rfl, hb⟩
      refine ⟨_, rfl, ?_⟩
      have n0_ := Aside0.mk (Kd.R_below (by (with_reducible repeat (first | apply rA | apply rN | apply rD)); exact HO_4.out) hb)
      have n1_ := Aside0.mk (Kd.R_below (by (with_reducible repeat (first | apply rA | apply rN | apply rD)); exact HO_7.out) hb)
      have n2_ := Aside0.mk (Kd.R_below (by (with_reducible repeat (first | apply rA | apply rN | apply rD)); exact HO_726000.out) hb)
      have n3_ := Aside0.mk (Kd.R_below (by (with_reducible repeat (first | apply rA | apply rN | apply rD)); exact HO733.out) hb)
      have n4_ := Aside0.mk (blk_below (g := gb713) (o := .cells #[.slice A0_0 l0_0.length c0_0] 24 (0, 0)) (kx_ BK713.out) hb)
      have n5_ := Aside0.mk (blk_below (g := gb725) (o := .cells #[.slice Ao22 t722.length co22] 30 (0, 0)) (kx_ BK725.out) hb)
      have n6_ := Aside0.mk (below_step (by repeat (first | (with_reducible first | exact HB.out | apply bA | apply bN | apply bD | refine below_set ?_ GE713.out | refine below_set ?_ GE725.out) | exact HB.out)) hb)
      clear HO_4
      clear HO_7
      clear HO_726000
      clear HO733
      clear BK713
      clear BK725
      clear HB
      have HO_4 := n0_
      have HO_7 := n1_
      have HO_726000 := n2_
      have HO733 := n3_
      have BK713 := n4_
      have BK725 := n5_
      have HB := n6_
      clear n0_ n1_ n2_ n3_ n4_ n5_ n6_
      (try clear hb)
      (try clear hb2)
      (try clear hk)
      (try clear hi)
      refine hK.out _ _ ⟨(blk_cell BK725.out 0).trans rfl, (blk_cell BK713.out 0).trans rfl⟩ (fun hHeld => ?_)
      clear hK K
      refine norm_ (a' := ?_) ?_ ?_
      rotate_left
      ·show Act.put _ (some 44) _ = _
       simp only [Act.put, sT, sZ, sS, i64_w, i32_w]
       rfl
      refine pure_ (i := 4) (N := some 45) (v := ?_) (a' := ?_) #[true, true, true, true, true] rfl rfl (by kernel_rfl) (fun _ _ _ h => h) (Or.inl ⟨by rfl, ?_⟩) ?_ ?_
      rotate_left
      ·intro w'
       go_simp
       with_reducible rfl
      rotate_left
      ·simp only [Act.put, sT, sZ, sS, i64_w, i32_w]
       rfl
      refine done_ (by kernel_rfl) ?_
      try go_wp2
      go_ret
      exact ⟨by first | rfl | (simp [errW_none, errW_some] <;> rfl) | (simp [*, errW_none, errW_some] <;> rfl), by repeat (first | (with_reducible first | exact HB.out | apply bA | apply bN | apply bD | refine below_set ?_ GE713.out | refine below_set ?_ GE725.out) | exact HB.out)⟩
end Go.Proofs.Ytkgaljocaapobaa.Pr
/- The statements' own helpers on lists of clues: the size, the copies and the comparison. -/
namespace Go.Proofs.Ytkgaljocaapobaa.M
open Go.RowKit Go.Proofs.YtkgaljocaapobaaW.PrintWords Go.Proofs.Ytkgaljocaapobaa.Pr
abbrev Cl := S67
abbrev LCl := S72
def toCl (c : LCl) : Cl := ⟨c.f0, c.f1, c.f2⟩
theorem rd_cl (l : List Cl) (i : Nat) (h : i < l.length) : rd_T67 l (i : Int) = l[i] := by
  unfold rd_T67
  simp [List.getD_eq_getElem?_getD, List.getElem?_eq_getElem h]
theorem rd_lcl (l : List LCl) (i : Nat) (h : i < l.length) : rd_T72 l (i : Int) = l[i] := by
  unfold rd_T72
  simp [List.getD_eq_getElem?_getD, List.getElem?_eq_getElem h]
theorem szClS_small (l : List LCl) (n : Int) (hn : 0 ≤ n ∧ n ≤ 1048576) (h : (l.length : Int) ≤ n) : laws_szClueS.f l n = some (n - (l.length : Int)) := by
  unfold laws_szClueS.f
  rw [w64 (by omega) (by omega), if_neg (by omega)]
theorem szClS_big (l : List LCl) (n : Int) (hn : 0 ≤ n ∧ n ≤ 1048576) (h : n < (l.length : Int)) (hm : l.length ≤ maxLen) : laws_szClueS.f l n = some (-1) := by
  unfold maxLen at hm
  unfold laws_szClueS.f
  rw [w64 (by omega) (by omega), if_pos (by omega)]
theorem szP_small (l : List LCl) (h : l.length ≤ 1048576) : laws_szPuzzle.f l 1048576 = some (1048576 - (l.length : Int)) := by
  unfold laws_szPuzzle.f
  rw [szClS_small l _ (by omega) (by omega)]
  simp only [Option.bind_some]
  rw [if_neg (by omega)]
theorem szP_big (l : List LCl) (h : 1048576 < l.length) (hm : l.length ≤ maxLen) : laws_szPuzzle.f l 1048576 = some (-1) := by
  unfold laws_szPuzzle.f
  rw [szClS_big l _ (by omega) (by omega) hm]
  simp
theorem toClS_ev (l : List LCl) (hl : l.length ≤ 1048576) : Ev (fun k => laws_toClueS.f k l) (l.map toCl) := by
  unfold laws_toClueS.f
  refine Ev.pos (by omega) (Ev.pos (by simp; omega) ?_)
  rw [Int.toNat_natCast]
  refine Ev.scan0 (fun k i acc => laws_toClueS.l0 k l acc i) l (fun rest acc => l.map toCl) (fun i acc => acc = (l.take i).map toCl ++ List.replicate (l.length - i) z67)
    (fun acc hp => by
      refine Ev.step (fun k => by rw [laws_toClueS.l0]) ?_
      refine Ev.neg (by omega) (Ev.val ?_)
      rw [hp]
      simp)
    (fun i h acc hp => by
      have hr := rd_lcl l i h
      have hal : acc.length = l.length := by rw [hp]; simp; omega
      refine .inl ⟨acc.set i (toCl l[i]), ?_, rfl, fun r hr2 => ?_⟩
      · rw [hp, List.take_succ_eq_append_getElem h, List.map_append, List.append_assoc]
        have ht : ((l.take i).map toCl).length = i := by simp; omega
        rw [List.set_append_right i _ (by omega), ht, Nat.sub_self]
        congr 1
        obtain ⟨q, hq⟩ : ∃ q, l.length - i = q + 1 := ⟨l.length - i - 1, by omega⟩
        rw [hq, show l.length - (i + 1) = q by omega, List.replicate_succ, List.set_cons_zero]
        rfl
      · refine Ev.step (fun k => by rw [laws_toClueS.l0]) ?_
        refine Ev.pos (by omega) (Ev.pos (by omega) ?_)
        rw [hr]
        refine Ev.bindc (a := (l[i].f0, l[i].f1, l[i].f2)) rfl (Ev.pos (by omega) ?_)
        rw [w64 (x := (i : Int) + 1) (by omega) (by omega), Int.toNat_natCast]
        exact hr2)
    _ (by simp)
theorem toP_ev (l : List LCl) (hl : l.length ≤ 1048576) : Ev (fun k => laws_toPuzzle.f k l) (l.map toCl) := by
  unfold laws_toPuzzle.f
  exact Ev.bindk (toClS_ev l hl) (Ev.val rfl)
theorem eqClS_ev (l : List Cl) (hl : l.length ≤ 9223372036854775806) : Ev (fun k => laws_eqClueS.f k l l) true := by
  unfold laws_eqClueS.f
  refine Ev.pos rfl ?_
  have e := Ev.scan0 (fun k i (_ : Unit) => laws_eqClueS.l0 k l l i) l (fun _ _ => true) (fun _ _ => True)
    (fun acc _ => by
      refine Ev.step (fun k => by rw [laws_eqClueS.l0]) ?_
      exact Ev.neg (by omega) (Ev.now true))
    (fun i h acc _ => by
      refine .inl ⟨(), trivial, rfl, fun r hr2 => ?_⟩
      refine Ev.step (fun k => by rw [laws_eqClueS.l0]) ?_
      refine Ev.pos (by omega) (Ev.pos (by omega) (Ev.pos (by omega) ?_))
      refine Ev.bindc (a := true) (by unfold laws_eqClue.f; simp) (Ev.pos rfl ?_)
      rw [w64 (x := (i : Int) + 1) (by omega) (by omega)]
      exact hr2) () trivial
  exact e
theorem eqP_ev (l : List Cl) (hl : l.length ≤ 9223372036854775806) : Ev (fun k => laws_eqPuzzle.f k l l) true := by
  unfold laws_eqPuzzle.f
  exact Ev.bindk (eqClS_ev l hl) (Ev.pos rfl (Ev.val rfl))
end Go.Proofs.Ytkgaljocaapobaa.M
/- A puzzle of the reference is one of the program. -/
namespace Go.Proofs.Ytkgaljocaapobaa.M
open Go.RowKit Go.Proofs.YtkgaljocaapobaaW.PrintWords Go.Proofs.Ytkgaljocaapobaa.Pr
/-- A puzzle: six clues at most, each of them one. -/
def puzB (l : List Cl) : Bool := decide (l.length ≤ 6) && !(l.any noCl)
theorem isPuzzle_eq (l : List Cl) : impl_IsPuzzle.f l = some (puzB l) := rfl
theorem pzGood_ev (l : List Cl) : Ev (fun k => spec_pzGood.f k l) (puzB l) := by
  unfold spec_pzGood.f puzB
  by_cases h6 : l.length ≤ 6
  · refine Ev.neg (by omega) ?_
    rw [decide_eq_true h6, Bool.true_and]
    refine Ev.scan0 (fun k i (_ : Unit) => spec_pzGood.l0 k l (l.length : Int) i) l (fun rest _ => !(rest.any noCl)) (fun _ _ => True)
      (fun acc _ => by
        refine Ev.step (fun k => by rw [spec_pzGood.l0]) ?_
        exact Ev.neg (by omega) (Ev.val (by simp)))
      (fun i h acc _ => by
        have hr := rd_cl l i h
        by_cases hc : clN l[i].f0 l[i].f1 l[i].f2 = true
        · refine .inl ⟨(), trivial, by rw [List.any_cons]; unfold noCl; rw [hc]; rfl, fun r hr2 => ?_⟩
          refine Ev.step (fun k => by rw [spec_pzGood.l0]) ?_
          refine Ev.pos (by omega) (Ev.pos (by omega) (Ev.pos (by omega) ?_))
          rw [hr]
          refine Ev.bindk (clue_ev _ _ _) (Ev.pos hc ?_)
          rw [w64 (x := (i : Int) + 1) (by omega) (by omega)]
          exact hr2
        · refine .inr ?_
          refine Ev.step (fun k => by rw [spec_pzGood.l0]) ?_
          refine Ev.pos (by omega) (Ev.pos (by omega) (Ev.pos (by omega) ?_))
          rw [hr]
          refine Ev.bindk (clue_ev _ _ _) (Ev.neg hc (Ev.val ?_))
          rw [List.any_cons]
          have : noCl l[i] = true := by unfold noCl; rw [Bool.eq_false_iff.mpr hc]; rfl
          rw [this]
          rfl) () trivial
  · refine Ev.pos (by omega) (Ev.val ?_)
    rw [decide_eq_false h6]
    rfl
end Go.Proofs.Ytkgaljocaapobaa.M
/- The reference finds the same hidden stars as the program. -/
namespace Go.Proofs.Ytkgaljocaapobaa.M
open Go.RowKit Go.Proofs.YtkgaljocaapobaaW.PrintWords Go.Proofs.Ytkgaljocaapobaa.Pr
abbrev St := S37
theorem pzAll_l2 (l : List Cl) (hl : l.length ≤ 1048576) (n s : Int) (hh : hidB n s = true) (acc : List St) (hacc : (acc.length : Int) ≤ 1000) (r : List St)
    (hr : Ev (fun k => spec_pzAll.l1 k l (if l.any (misF n s) = true then acc else acc ++ [⟨n, s⟩]) n (s + 1)) r) :
    Ev (fun k => spec_pzAll.l2 k l acc n s true l (l.length : Int) 0 n s) r := by
  have hh2 := hid_in hh
  have e := Ev.cps (fun k i (fl : Bool) => spec_pzAll.l2 k l acc n s fl l (l.length : Int) i n s)
    (fun k fl => spec_pzAll.l1 k l (if fl = true then acc ++ [⟨n, s⟩] else acc) n (s + 1)) l
    (fun rest fl => fl && !(rest.any (misF n s))) (fun _ _ => True)
    (fun fl r _ hr => by
      refine Ev.step (fun k => by rw [spec_pzAll.l2]) ?_
      refine Ev.neg (by omega) ?_
      rw [w64 (x := s + 1) (by omega) (by omega)]
      cases fl with
      | true => exact Ev.pos rfl (Ev.pos (by omega) (by simpa using hr))
      | false => exact Ev.neg (by simp) (by simpa using hr))
    (fun i hi fl _ => by
      have hrd := rd_cl l i hi
      cases fl with
      | true =>
        refine ⟨fitB l[i].f0 l[i].f1 l[i].f2 n s, trivial, ?_, fun r hr2 => ?_⟩
        · rw [List.any_cons]
          unfold misF
          cases fitB l[i].f0 l[i].f1 l[i].f2 n s <;> simp
        · refine Ev.step (fun k => by rw [spec_pzAll.l2]) ?_
          refine Ev.pos (by omega) (Ev.pos (by omega) (Ev.pos (by omega) (Ev.pos rfl ?_)))
          rw [hrd, w64 (x := (i : Int) + 1) (by omega) (by omega)]
          exact Ev.bindk (pzFits_ev _ _ _ n s hh) hr2
      | false =>
        refine ⟨false, trivial, by simp, fun r hr2 => ?_⟩
        refine Ev.step (fun k => by rw [spec_pzAll.l2]) ?_
        refine Ev.pos (by omega) (Ev.pos (by omega) (Ev.pos (by omega) (Ev.neg (by simp) ?_)))
        rw [w64 (x := (i : Int) + 1) (by omega) (by omega)]
        exact hr2)
    l.length 0 true r (by omega) trivial (by
      rw [List.drop_zero]
      cases h : l.any (misF n s) with
      | true => rw [h] at hr; simpa using hr
      | false => rw [h] at hr; simpa using hr)
  simpa using e
theorem pzAll_l1 (l : List Cl) (hl : l.length ≤ 1048576) (n : Int) (hn : 3 ≤ n ∧ n ≤ 14) (d : Nat)
    (ih : ∀ acc : List St, (acc.length : Int) ≤ 14 * (n + 1) → Ev (fun k => spec_pzAll.l0 k l acc (n + 1)) (acc ++ solsFrom l d (n + 1))) :
    ∀ (e : Nat) (s : Int) (acc : List St), s + e = n → 1 ≤ s → (acc.length : Int) ≤ 14 * n + s → Ev (fun k => spec_pzAll.l1 k l acc n s) (acc ++ (solsStep l n e s ++ solsFrom l d (n + 1)))
  | 0, s, acc, h1, h2, h3 => by
    refine Ev.step (fun k => by rw [spec_pzAll.l1]) ?_
    refine Ev.neg (by omega) ?_
    rw [w64 (x := n + 1) (by omega) (by omega)]
    have := ih acc (by omega)
    simpa [solsStep] using this
  | e + 1, s, acc, h1, h2, h3 => by
    refine Ev.step (fun k => by rw [spec_pzAll.l1]) ?_
    refine Ev.pos (by omega) ?_
    refine pzAll_l2 l hl n s (hid_of hn.1 hn.2 h2 (by omega)) acc (by omega) _ ?_
    rw [solsStep]
    by_cases h : l.any (misF n s) = true
    · rw [if_pos h, if_pos h]
      exact pzAll_l1 l hl n hn d ih e (s + 1) acc (by omega) (by omega) (by omega)
    · rw [if_neg h, if_neg h]
      have := pzAll_l1 l hl n hn d ih e (s + 1) (acc ++ [⟨n, s⟩]) (by omega) (by omega) (by simp; omega)
      simpa [List.append_assoc] using this
theorem pzAll_l0 (l : List Cl) (hl : l.length ≤ 1048576) : ∀ (d : Nat) (n : Int) (acc : List St), n + d = 15 → 3 ≤ n → (acc.length : Int) ≤ 14 * n → Ev (fun k => spec_pzAll.l0 k l acc n) (acc ++ solsFrom l d n)
  | 0, n, acc, h1, h2, h3 => by
    refine Ev.step (fun k => by rw [spec_pzAll.l0]) ?_
    refine Ev.neg (by omega) (Ev.val ?_)
    simp [solsFrom]
  | d + 1, n, acc, h1, h2, h3 => by
    refine Ev.step (fun k => by rw [spec_pzAll.l0]) ?_
    refine Ev.pos (by omega) ?_
    rw [solsFrom]
    exact pzAll_l1 l hl n ⟨h2, by omega⟩ d (fun acc' ha => pzAll_l0 l hl d (n + 1) acc' (by omega) (by omega) ha) (n - 1).toNat 1 acc (by omega) (by omega) (by omega)
theorem pzAll_ev (l : List Cl) (hl : l.length ≤ 1048576) : Ev (fun k => spec_pzAll.f k l) (sols l) := by
  unfold spec_pzAll.f sols
  have := pzAll_l0 l hl 12 3 [] (by omega) (by omega) (by simp)
  simpa using this
theorem solsStep_len (l : List Cl) (n : Int) : ∀ (e : Nat) (s : Int), (solsStep l n e s).length ≤ e
  | 0, _ => by simp [solsStep]
  | e + 1, s => by
    have := solsStep_len l n e (s + 1)
    unfold solsStep
    split
    · omega
    · simp; omega
theorem solsFrom_len (l : List Cl) : ∀ (d : Nat) (n : Int), n + d = 15 → 3 ≤ n → (solsFrom l d n).length ≤ d * 14
  | 0, _, _, _ => by simp [solsFrom]
  | d + 1, n, h1, h2 => by
    have i1 := solsFrom_len l d (n + 1) (by omega) (by omega)
    have i2 := solsStep_len l n (n - 1).toNat 1
    rw [solsFrom, List.length_append]
    omega
theorem sols_len (l : List Cl) : (sols l).length ≤ 168 := solsFrom_len l 12 3 (by omega) (by omega)
/-- What Solutions tells. -/
def solR (l : List Cl) : List St × Bool := if puzB l = true then (sols l, true) else ([], false)
theorem solutions_eq (l : List Cl) : impl_Solutions.f l = some (solR l) := by
  unfold impl_Solutions.f impl_solutions.f solR
  rw [isPuzzle_eq, Option.bind_some]
  by_cases h : puzB l = true
  · rw [if_pos h, if_pos h]; rfl
  · rw [if_neg h, if_neg h]
theorem solR_len (l : List Cl) : (solR l).1.length ≤ 168 := by
  unfold solR
  split
  · exact sols_len l
  · simp
end Go.Proofs.Ytkgaljocaapobaa.M
/- Clues without one: the program's and the reference's. -/
namespace Go.Proofs.Ytkgaljocaapobaa.M
open Go.RowKit Go.Proofs.YtkgaljocaapobaaW.PrintWords Go.Proofs.Ytkgaljocaapobaa.Pr
def lessL (l : List Cl) (k : Nat) : List Cl := l.take k ++ l.drop (k + 1)
theorem less_len (l : List Cl) (k : Nat) (h : k < l.length) : (lessL l k).length + 1 = l.length := by
  unfold lessL
  simp
  omega
theorem puz_six {l : List Cl} (h : puzB l = true) : l.length ≤ 6 := by
  unfold puzB at h
  simp only [Bool.and_eq_true, decide_eq_true_eq] at h
  exact h.1
theorem lessOne_eq (l : List Cl) (k : Nat) (hk : k < l.length) (hl : l.length ≤ 6) : impl_lessOne.f l (k : Int) = some (lessL l k) := by
  unfold impl_lessOne.f impl_Clue_55.f impl_Clue_69.f
  rw [if_pos (by omega), w64 (x := (k : Int) + 1) (by omega) (by omega)]
  simp only [Option.bind_some]
  rw [if_pos (by omega)]
  simp only [Option.bind_some]
  unfold lessL
  rw [Int.toNat_natCast, show ((k : Int) + 1).toNat = k + 1 by omega]
theorem without_eq (l : List Cl) (k : Nat) (hk : k < l.length) (hl : l.length ≤ 6) : spec_pzWithout.f l (k : Int) = some (lessL l k) := by
  unfold spec_pzWithout.f
  rw [w64 (x := (k : Int) + 1) (by omega) (by omega), Option.bind_some, if_pos (by omega), if_pos (by omega), Option.bind_some, if_pos (by simp; omega), Option.bind_some, if_pos (by omega), if_pos (by omega), Option.bind_some, if_pos (by simp; omega)]
  unfold lessL
  rw [Int.toNat_natCast, show ((k : Int) + 1).toNat = k + 1 by omega]
  simp
end Go.Proofs.Ytkgaljocaapobaa.M
/- The statements' own helpers on lists of numbers: equal, marked, held. -/
namespace Go.Proofs.Ytkgaljocaapobaa.M
open Go.RowKit Go.Proofs.YtkgaljocaapobaaW.PrintWords Go.Proofs.Ytkgaljocaapobaa.Pr
theorem rd_i (l : List Int) (i : Nat) (h : i < l.length) : rd l (i : Int) = l[i] := by
  unfold rd
  simp [List.getD_eq_getElem?_getD, List.getElem?_eq_getElem h]
def upI (m : Int) (n : Nat) : List Int := (List.range n).map fun (i : Nat) => m + (i : Int)
theorem upI_length (m : Int) (n : Nat) : (upI m n).length = n := by simp [upI]
theorem upI_succ (m : Int) (n : Nat) : upI m (n + 1) = upI m n ++ [m + (n : Int)] := by
  unfold upI
  rw [List.range_succ, List.map_append]
  rfl
theorem upI_get (m : Int) (n i : Nat) (h : i < (upI m n).length) : (upI m n)[i] = m + i := by
  simp [upI]
theorem set_mid {α : Type} (A : List α) (x v : α) (r : List α) : (A ++ x :: r).set A.length v = A ++ v :: r := by
  rw [List.set_append_right _ _ (Nat.le_refl _), Nat.sub_self, List.set_cons_zero]
theorem eqI_ev (l : List Int) (hl : l.length ≤ 9223372036854775806) : Ev (fun k => laws_eqIntS.f k l l) true := by
  unfold laws_eqIntS.f
  refine Ev.pos rfl ?_
  have e := Ev.scan0 (fun k i (_ : Unit) => laws_eqIntS.l0 k l l i) l (fun _ _ => true) (fun _ _ => True)
    (fun acc _ => by
      refine Ev.step (fun k => by rw [laws_eqIntS.l0]) ?_
      exact Ev.neg (by omega) (Ev.now true))
    (fun i h acc _ => by
      refine .inl ⟨(), trivial, rfl, fun r hr2 => ?_⟩
      refine Ev.step (fun k => by rw [laws_eqIntS.l0]) ?_
      refine Ev.pos (by omega) (Ev.pos (by omega) (Ev.pos (by omega) (Ev.pos rfl ?_)))
      rw [w64 (x := (i : Int) + 1) (by omega) (by omega)]
      exact hr2) () trivial
  exact e
theorem markI_ev (l : List Int) (m : Int) (hm : 0 ≤ m) (hb : m + l.length ≤ 9223372036854775806) : Ev (fun k => laws_markIntS.f k l m) (m + (l.length : Int), upI m l.length) := by
  unfold laws_markIntS.f
  exact Ev.scan0 (fun k i (acc : List Int × Int) => laws_markIntS.l0 k acc.1 acc.2 i) l (fun _ _ => (m + (l.length : Int), upI m l.length)) (fun i acc => acc = (upI m i ++ l.drop i, m + (i : Int)))
    (fun acc hp => by
      refine Ev.step (fun k => by rw [laws_markIntS.l0]) ?_
      rw [hp]
      refine Ev.neg (by simp [upI_length]) (Ev.val ?_)
      simp)
    (fun i h acc hp => by
      refine .inl ⟨(upI m (i + 1) ++ l.drop (i + 1), m + ((i + 1 : Nat) : Int)), rfl, rfl, fun r hr2 => ?_⟩
      refine Ev.step (fun k => by rw [laws_markIntS.l0]) ?_
      rw [hp]
      refine Ev.pos (by simp [upI_length]; omega) (Ev.pos (by omega) ?_)
      rw [w64 (x := (i : Int) + 1) (by omega) (by omega), w64 (by simp only; omega) (by simp only; omega), Int.toNat_natCast, List.drop_eq_getElem_cons h]
      have := set_mid (upI m i) l[i] (m + (i : Int)) (l.drop (i + 1))
      rw [upI_length] at this
      rw [this]
      rw [upI_succ, List.append_assoc] at hr2
      have e2 : m + ((i + 1 : Nat) : Int) = m + (i : Int) + 1 := by omega
      rw [e2] at hr2
      exact hr2)
    (l, m) (by simp [upI])
theorem heldI_ev (n : Nat) (m : Int) (hm : 0 ≤ m) (hb : m + n ≤ 9223372036854775806) : Ev (fun k => laws_heldIntS.f k (upI m n) m) (m + (n : Int)) := by
  unfold laws_heldIntS.f
  have e := Ev.scan0 (fun k i (acc : Int) => laws_heldIntS.l0 k (upI m n) acc i) (upI m n) (fun _ _ => m + (n : Int)) (fun i acc => acc = m + (i : Int))
    (fun acc hp => by
      refine Ev.step (fun k => by rw [laws_heldIntS.l0]) ?_
      refine Ev.neg (by omega) (Ev.val ?_)
      rw [hp, upI_length])
    (fun i h acc hp => by
      refine .inl ⟨m + ((i + 1 : Nat) : Int), rfl, rfl, fun r hr2 => ?_⟩
      have hn : i < n := by rw [upI_length] at h; exact h
      refine Ev.step (fun k => by rw [laws_heldIntS.l0]) ?_
      refine Ev.pos (by omega) (Ev.pos (by omega) ?_)
      rw [rd_i _ i h, upI_get, hp]
      refine Ev.pos rfl ?_
      rw [w64 (x := (i : Int) + 1) (by omega) (by omega), w64 (by omega) (by omega)]
      have e2 : m + ((i + 1 : Nat) : Int) = m + (i : Int) + 1 := by omega
      rw [e2] at hr2
      exact hr2)
    m (by simp)
  exact e
end Go.Proofs.Ytkgaljocaapobaa.M
namespace Go.Proofs.Ytkgaljocaapobaa.Pr
open Go.RowKit Go.Proofs.YtkgaljocaapobaaW.PrintWords Go.Proofs.YtkgaljocaapobaaW.PrintLast Go.Proofs.YtkgaljocaapobaaW.PrintMore
attribute [local go_sem] max2_int min2_int max_two min_two max_three min_three max_four min_four
def laws_heldClueS.l0 : Nat → List (S67) → Int → Int → Option (Int)
 | 0, _, _, _ => none
 | k + 1, x0, x1, x5 => if x5 < (x0.length : Int) then (if 0 ≤ x5 then (if ((rd_T67 x0 x5).f0) = x1 then (if ((rd_T67 x0 x5).f1) = (wrap64 (x1 + 1)) then (if ((rd_T67 x0 x5).f2) = (wrap64 ((wrap64 (x1 + 1)) + 1)) then (laws_heldClueS.l0 k x0 (wrap64 ((wrap64 ((wrap64 (x1 + 1)) + 1)) + 1)) (wrap64 (x5 + 1))) else (some (-1))) else (some (-1))) else (some (-1))) else (none)) else (some x1)
def laws_heldClueS.f (k : Nat) (l0 : List (S67)) (a1 : Int) : Option (Int) := laws_heldClueS.l0 k l0 a1 0
theorem laws_heldClueS.mono_l : ∀ k, (∀ y0 y1 y2, LeO (laws_heldClueS.l0 k y0 y1 y2) (laws_heldClueS.l0 (k + 1) y0 y1 y2))
 | 0 => fun _ _ _ r h => by simp [laws_heldClueS.l0] at h
 | k + 1 => by
  have ih0 := laws_heldClueS.mono_l k
  ·intro y0 y1 y2
   unfold laws_heldClueS.l0
   repeat' first
   | (with_reducible exact ih0 _ _ _)
   | (with_reducible exact LeO.refl _)
   | (with_reducible exact LeO.none _)
   | (with_reducible refine LeO.ite ?_ ?_)
   | (with_reducible refine LeO.bind ?_ (fun _ => ?_))
   | exact ih0 _ _ _
   | exact LeO.none _
   | refine LeO.ite ?_ ?_
   | refine LeO.bind ?_ (fun _ => ?_)
theorem laws_heldClueS.mono : ∀ a0 a1 k, LeO (laws_heldClueS.f k a0 a1) (laws_heldClueS.f (k + 1) a0 a1) := by
 intro a0 a1 k
 have ih0 := laws_heldClueS.mono_l k
 unfold laws_heldClueS.f
 repeat' first
   | (with_reducible exact ih0 _ _ _)
   | (with_reducible exact LeO.refl _)
   | (with_reducible exact LeO.none _)
   | (with_reducible refine LeO.ite ?_ ?_)
   | (with_reducible refine LeO.bind ?_ (fun _ => ?_))
   | exact ih0 _ _ _
   | exact LeO.none _
   | refine LeO.ite ?_ ?_
   | refine LeO.bind ?_ (fun _ => ?_)
set_option maxHeartbeats 8000000 in
set_option maxRecDepth 100000 in
theorem laws_heldClueS.calls (k : Nat) (A0 : Option Addr) (c0 : Nat) (l0 : List (S67)) (a1 : Int) (r : Int) (w : World) (hr0 : Kd.C k67 w A0 l0.length l0) (hc0 : l0.length ≤ c0) (h : laws_heldClueS.f k l0 a1 = some r) :
  Calls Try.prog 57 #[.slice A0 l0.length c0, .int .i64 a1] w fun e w' => e = .returned (.int .i64 r) ∧ Drawn0 w w' := by
 have HR0 := Aside0.mk hr0
 have HC0 := Aside0.mk hc0
 clear hr0 hc0
 have H : (laws_heldClueS.l0 k l0 a1 0) = some r := h
 clear h
 have H' := Aside0.mk H
 clear H
 go_enter Try.func57, Try.ntmps57
 go_wp2
 go_loopg [1, 5] k (fun kq v1 v5 w' => ∃ (x1_1 : Int) (x5_1 : Int), v1 = .int .i64 x1_1 ∧ v5 = .int .i64 x5_1 ∧ Aside0 (laws_heldClueS.l0 kq l0 x1_1 x5_1 = some r) ∧ Aside0 (kq ≤ k) ∧ Drawn0 w w')
 case atStart => exact ⟨(a1), (0), (by first | rfl | (simp; done) | (simp [*]; done)), (by first | rfl | (simp; done) | (simp [*]; done)), H', ⟨Nat.le_refl _⟩, by repeat (first | exact Drawn0.refl _ | apply Drawn0.step)⟩
 case round =>
  clear H'
  try clear p2
  obtain ⟨x1_1, x5_1, rfl, rfl, HA, HK1, ⟨m1, rfl⟩⟩ := hrel
  cases gk with
  | zero => exact absurd HA.out (by simp [laws_heldClueS.l0])
  | succ k1 =>
   have H := HA.out
   clear HA
   simp only [laws_heldClueS.l0] at H
   by_cases c3 : x5_1 < (l0.length : Int)
   ·rw [if_pos c3] at H
    have c3b0 : decide (x5_1 < (l0.length : Int)) = true := decide_eq_true c3
    clear c3
    by_cases c4 : 0 ≤ x5_1
    ·rw [if_pos c4] at H
     have c4b0 : decide (0 ≤ x5_1) = true := decide_eq_true c4
     clear c4
     by_cases c5 : ((rd_T67 l0 x5_1).f0) = x1_1
     ·rw [if_pos c5] at H
      have c5b0 : (((rd_T67 l0 x5_1).f0) == x1_1) = true := beq_iff_eq.mpr c5
      have c5b1 : (((rd_T67 l0 x5_1).f0) != x1_1) = false := bne_eq_false_iff_eq.mpr c5
      clear c5
      by_cases c6 : ((rd_T67 l0 x5_1).f1) = (wrap64 (x1_1 + 1))
      ·rw [if_pos c6] at H
       have c6b0 : (((rd_T67 l0 x5_1).f1) == (wrap64 (x1_1 + 1))) = true := beq_iff_eq.mpr c6
       have c6b1 : (((rd_T67 l0 x5_1).f1) != (wrap64 (x1_1 + 1))) = false := bne_eq_false_iff_eq.mpr c6
       clear c6
       by_cases c7 : ((rd_T67 l0 x5_1).f2) = (wrap64 ((wrap64 (x1_1 + 1)) + 1))
       ·rw [if_pos c7] at H
        have c7b0 : (((rd_T67 l0 x5_1).f2) == (wrap64 ((wrap64 (x1_1 + 1)) + 1))) = true := beq_iff_eq.mpr c7
        have c7b1 : (((rd_T67 l0 x5_1).f2) != (wrap64 ((wrap64 (x1_1 + 1)) + 1))) = false := bne_eq_false_iff_eq.mpr c7
        clear c7
        have H' := Aside0.mk H
        clear H
        have p654 : 0 ≤ (x5_1 : Int) := of_decide_eq_true (by assumption)
        have q654 : x5_1 < (l0.length : Int) := of_decide_eq_true (by assumption)
        obtain ⟨ad654, e654, hx654_0, hx654_1, hx654_2⟩ := at_T67 HR0.out x5_1 p654 q654
        cases e654
        replace p654 := eq_true p654
        replace q654 := eq_true q654
        have p655 : 0 ≤ (x5_1 : Int) := of_decide_eq_true (by assumption)
        have q655 : x5_1 < (l0.length : Int) := of_decide_eq_true (by assumption)
        obtain ⟨ad655, e655, hx655_0, hx655_1, hx655_2⟩ := at_T67 HR0.out x5_1 p655 q655
        obtain rfl : ad654 = ad655 := (by injection e655)
        replace p655 := eq_true p655
        replace q655 := eq_true q655
        have p656 : 0 ≤ (x5_1 : Int) := of_decide_eq_true (by assumption)
        have q656 : x5_1 < (l0.length : Int) := of_decide_eq_true (by assumption)
        obtain ⟨ad656, e656, hx656_0, hx656_1, hx656_2⟩ := at_T67 HR0.out x5_1 p656 q656
        obtain rfl : ad654 = ad656 := (by injection e656)
        replace p656 := eq_true p656
        replace q656 := eq_true q656
        go_wp2
        go_roundg k1
        case measure => have := HK1.out; omega
        case rel => exact ⟨(wrap64 ((wrap64 ((wrap64 (x1_1 + 1)) + 1)) + 1)), (wrap64 (x5_1 + 1)), (by first | rfl | (simp; done) | (simp [*]; done)), (by first | rfl | (simp; done) | (simp [*]; done)), H', ⟨by have := HK1.out; omega⟩, by repeat (first | exact Drawn0.refl _ | apply Drawn0.step)⟩
       ·rw [if_neg c7] at H
        have c7b0 : (((rd_T67 l0 x5_1).f2) == (wrap64 ((wrap64 (x1_1 + 1)) + 1))) = false := beq_eq_false_iff_ne.mpr c7
        have c7b1 : (((rd_T67 l0 x5_1).f2) != (wrap64 ((wrap64 (x1_1 + 1)) + 1))) = true := bne_iff_ne.mpr c7
        obtain rfl := oI H
        have p654 : 0 ≤ (x5_1 : Int) := of_decide_eq_true (by assumption)
        have q654 : x5_1 < (l0.length : Int) := of_decide_eq_true (by assumption)
        obtain ⟨ad654, e654, hx654_0, hx654_1, hx654_2⟩ := at_T67 HR0.out x5_1 p654 q654
        cases e654
        replace p654 := eq_true p654
        replace q654 := eq_true q654
        have p655 : 0 ≤ (x5_1 : Int) := of_decide_eq_true (by assumption)
        have q655 : x5_1 < (l0.length : Int) := of_decide_eq_true (by assumption)
        obtain ⟨ad655, e655, hx655_0, hx655_1, hx655_2⟩ := at_T67 HR0.out x5_1 p655 q655
        obtain rfl : ad654 = ad655 := (by injection e655)
        replace p655 := eq_true p655
        replace q655 := eq_true q655
        have p656 : 0 ≤ (x5_1 : Int) := of_decide_eq_true (by assumption)
        have q656 : x5_1 < (l0.length : Int) := of_decide_eq_true (by assumption)
        obtain ⟨ad656, e656, hx656_0, hx656_1, hx656_2⟩ := at_T67 HR0.out x5_1 p656 q656
        obtain rfl : ad654 = ad656 := (by injection e656)
        replace p656 := eq_true p656
        replace q656 := eq_true q656
        go_wp2
        go_ret
        exact ⟨by first | rfl | (simp; done) | (simp [*]; done), by repeat (first | exact Drawn0.refl _ | apply Drawn0.step)⟩
      ·rw [if_neg c6] at H
       have c6b0 : (((rd_T67 l0 x5_1).f1) == (wrap64 (x1_1 + 1))) = false := beq_eq_false_iff_ne.mpr c6
       have c6b1 : (((rd_T67 l0 x5_1).f1) != (wrap64 (x1_1 + 1))) = true := bne_iff_ne.mpr c6
       obtain rfl := oI H
       have p654 : 0 ≤ (x5_1 : Int) := of_decide_eq_true (by assumption)
       have q654 : x5_1 < (l0.length : Int) := of_decide_eq_true (by assumption)
       obtain ⟨ad654, e654, hx654_0, hx654_1, hx654_2⟩ := at_T67 HR0.out x5_1 p654 q654
       cases e654
       replace p654 := eq_true p654
       replace q654 := eq_true q654
       have p655 : 0 ≤ (x5_1 : Int) := of_decide_eq_true (by assumption)
       have q655 : x5_1 < (l0.length : Int) := of_decide_eq_true (by assumption)
       obtain ⟨ad655, e655, hx655_0, hx655_1, hx655_2⟩ := at_T67 HR0.out x5_1 p655 q655
       obtain rfl : ad654 = ad655 := (by injection e655)
       replace p655 := eq_true p655
       replace q655 := eq_true q655
       go_wp2
       go_ret
       exact ⟨by first | rfl | (simp; done) | (simp [*]; done), by repeat (first | exact Drawn0.refl _ | apply Drawn0.step)⟩
     ·rw [if_neg c5] at H
      have c5b0 : (((rd_T67 l0 x5_1).f0) == x1_1) = false := beq_eq_false_iff_ne.mpr c5
      have c5b1 : (((rd_T67 l0 x5_1).f0) != x1_1) = true := bne_iff_ne.mpr c5
      obtain rfl := oI H
      have p654 : 0 ≤ (x5_1 : Int) := of_decide_eq_true (by assumption)
      have q654 : x5_1 < (l0.length : Int) := of_decide_eq_true (by assumption)
      obtain ⟨ad654, e654, hx654_0, hx654_1, hx654_2⟩ := at_T67 HR0.out x5_1 p654 q654
      cases e654
      replace p654 := eq_true p654
      replace q654 := eq_true q654
      go_wp2
      go_ret
      exact ⟨by first | rfl | (simp; done) | (simp [*]; done), by repeat (first | exact Drawn0.refl _ | apply Drawn0.step)⟩
    ·rw [if_neg c4] at H
     exact absurd H (by simp)
   ·rw [if_neg c3] at H
    have c3b0 : decide (x5_1 < (l0.length : Int)) = false := decide_eq_false c3
    clear c3
    obtain rfl := oI H
    go_wp2
    go_ret
    exact ⟨by first | rfl | (simp; done) | (simp [*]; done), by repeat (first | exact Drawn0.refl _ | apply Drawn0.step)⟩
def laws_heldPuzzle.f (k : Nat) (l0_0 : List (S67)) (a1 : Int) : Option (Int) := (laws_heldClueS.f k l0_0 a1).bind fun t658 => (if t658 < 0 then (some (-1)) else (some t658))
theorem laws_heldPuzzle.mono : ∀ a0 a1 k, LeO (laws_heldPuzzle.f k a0 a1) (laws_heldPuzzle.f (k + 1) a0 a1) := by
 intro a0 a1 k
 unfold laws_heldPuzzle.f
 repeat' first
   | (with_reducible exact laws_heldClueS.mono _ _ _)
   | (with_reducible exact LeO.refl _)
   | (with_reducible exact LeO.none _)
   | (with_reducible refine LeO.ite ?_ ?_)
   | (with_reducible refine LeO.bind ?_ (fun _ => ?_))
   | exact laws_heldClueS.mono _ _ _
   | exact LeO.none _
   | refine LeO.ite ?_ ?_
   | refine LeO.bind ?_ (fun _ => ?_)
set_option maxHeartbeats 8000000 in
set_option maxRecDepth 100000 in
theorem laws_heldPuzzle.calls (k : Nat) (A0_0 : Option Addr) (c0_0 : Nat) (l0_0 : List (S67)) (a1 : Int) (r : Int) (w : World) (hr0_0 : Kd.C k67 w A0_0 l0_0.length l0_0) (hc0_0 : l0_0.length ≤ c0_0) (h : laws_heldPuzzle.f k l0_0 a1 = some r) :
  Calls Try.prog 39 #[.agg #[.slice A0_0 l0_0.length c0_0], .int .i64 a1] w fun e w' => e = .returned (.int .i64 r) ∧ Below w.heap.size w w' := by
 have hu30 := Try.underlying30
 have HR0_0 := Aside0.mk hr0_0
 have HC0_0 := Aside0.mk hc0_0
 clear hr0_0 hc0_0
 have HB := Aside0.mk (Below.refl w.heap.size w)
 have H : ((laws_heldClueS.f k l0_0 a1).bind fun t658 => (if t658 < 0 then (some (-1)) else (some t658))) = some r := h
 clear h
 replace H := bI H
 obtain ⟨t658, A30, H⟩ := H
 replace H : (if t658 < 0 then (some (-1)) else (some t658)) = some r := H
 have A3 := Aside0.mk A30
 clear A30
 by_cases c4 : t658 < 0
 ·rw [if_pos c4] at H
  have c4b0 : decide (t658 < 0) = true := decide_eq_true c4
  clear c4
  obtain rfl := oI H
  go_enter Try.func39, Try.ntmps39
  go_wp2_with (first | ((with_reducible refine gate_dst (N := 2) rfl ?_); refine box_event ?hg (N := 2) ?hd (cs := #[.slice A0_0 l0_0.length c0_0]) (t := 30) ?hr ?_; (case hd => rfl); (case hg => rfl); (case hr => first | (go_simp; done) | (go_simp; rfl)); intro gb657 hg w5 hbox hb; have n0_ := Aside0.mk (below_step hb_ hb); have n1_ := Aside0.mk (hbox); have n2_ := Aside0.mk ((by rw [hg]; exact (below_size hb_) : w.heap.size ≤ gb657)); have n3_ := Aside0.mk ((by rw [hg]; exact (below_size hb_) : w.heap.size ≤ gb657)); clear HB; have HB := n0_; have BK657 := n1_; have GW657 := n2_; have GE657 := n3_; clear n0_ n1_ n2_ n3_; clear hb hbox hg; have hcz6_0 : w5.cell? ⟨gb657, 0, none⟩ = some (.slice A0_0 l0_0.length c0_0) := (blk_cell BK657.out 0).trans rfl; have hfz6_0 := blk_frozen BK657.out 0) | ((with_reducible refine gate_callee (f := 57) rfl ?_); refine goesL_ (some 8) rfl rfl Try.func57 (by kernel_rfl) rfl #[.slice A0_0 l0_0.length c0_0, .int .i64 a1] rfl ar_ ?_; (with_reducible refine (laws_heldClueS.calls k _ _ l0_0 a1 t658 _ ?side1 ?side2 A3.out).mono ?_); (case side1 => repeat (first | exact (Kd.C_below HR0_0.out HB.out) | (with_reducible refine Kd.C_alloc ?_ _) | (with_reducible refine Kd.C_drewN ?_ _) | (with_reducible refine Kd.C_drew ?_))); (case side2 => exact HC0_0.out); rintro e w' ⟨rfl, ⟨nd, rfl⟩⟩; refine ⟨_, rfl, ?_⟩))
  go_ret
  exact ⟨by first | rfl | (simp [errW_none, errW_some] <;> rfl) | (simp [*, errW_none, errW_some] <;> rfl), hs_ GE657.out⟩
 ·rw [if_neg c4] at H
  have c4b0 : decide (t658 < 0) = false := decide_eq_false c4
  clear c4
  obtain rfl := oI H
  go_enter Try.func39, Try.ntmps39
  go_wp2_with (first | ((with_reducible refine gate_dst (N := 2) rfl ?_); refine box_event ?hg (N := 2) ?hd (cs := #[.slice A0_0 l0_0.length c0_0]) (t := 30) ?hr ?_; (case hd => rfl); (case hg => rfl); (case hr => first | (go_simp; done) | (go_simp; rfl)); intro gb657 hg w7 hbox hb; have n0_ := Aside0.mk (below_step hb_ hb); have n1_ := Aside0.mk (hbox); have n2_ := Aside0.mk ((by rw [hg]; exact (below_size hb_) : w.heap.size ≤ gb657)); have n3_ := Aside0.mk ((by rw [hg]; exact (below_size hb_) : w.heap.size ≤ gb657)); clear HB; have HB := n0_; have BK657 := n1_; have GW657 := n2_; have GE657 := n3_; clear n0_ n1_ n2_ n3_; clear hb hbox hg; have hcz8_0 : w7.cell? ⟨gb657, 0, none⟩ = some (.slice A0_0 l0_0.length c0_0) := (blk_cell BK657.out 0).trans rfl; have hfz8_0 := blk_frozen BK657.out 0) | ((with_reducible refine gate_callee (f := 57) rfl ?_); refine goesL_ (some 8) rfl rfl Try.func57 (by kernel_rfl) rfl #[.slice A0_0 l0_0.length c0_0, .int .i64 a1] rfl ar_ ?_; (with_reducible refine (laws_heldClueS.calls k _ _ l0_0 a1 t658 _ ?side1 ?side2 A3.out).mono ?_); (case side1 => repeat (first | exact (Kd.C_below HR0_0.out HB.out) | (with_reducible refine Kd.C_alloc ?_ _) | (with_reducible refine Kd.C_drewN ?_ _) | (with_reducible refine Kd.C_drew ?_))); (case side2 => exact HC0_0.out); rintro e w' ⟨rfl, ⟨nd, rfl⟩⟩; refine ⟨_, rfl, ?_⟩))
  go_ret
  exact ⟨by first | rfl | (simp [errW_none, errW_some] <;> rfl) | (simp [*, errW_none, errW_some] <;> rfl), hs_ GE657.out⟩
end Go.Proofs.Ytkgaljocaapobaa.Pr
/- The statements' own helpers on lists of clues: marked and held. -/
namespace Go.Proofs.Ytkgaljocaapobaa.M
open Go.RowKit Go.Proofs.YtkgaljocaapobaaW.PrintWords Go.Proofs.Ytkgaljocaapobaa.Pr
def upT (m : Int) (n : Nat) : List Cl := (List.range n).map fun (i : Nat) => ⟨m + 3 * (i : Int), m + 3 * (i : Int) + 1, m + 3 * (i : Int) + 2⟩
theorem upT_length (m : Int) (n : Nat) : (upT m n).length = n := by simp [upT]
theorem upT_succ (m : Int) (n : Nat) : upT m (n + 1) = upT m n ++ [⟨m + 3 * (n : Int), m + 3 * (n : Int) + 1, m + 3 * (n : Int) + 2⟩] := by
  unfold upT
  rw [List.range_succ, List.map_append]
  rfl
theorem upT_get (m : Int) (n i : Nat) (h : i < (upT m n).length) : (upT m n)[i] = ⟨m + 3 * (i : Int), m + 3 * (i : Int) + 1, m + 3 * (i : Int) + 2⟩ := by
  simp [upT]
theorem setT_mid (A : List Cl) (x v : Cl) (r : List Cl) : (A ++ x :: r).set A.length v = A ++ v :: r := by
  rw [List.set_append_right _ _ (Nat.le_refl _), Nat.sub_self, List.set_cons_zero]
theorem markClS_ev (l : List Cl) (m : Int) (hm : 0 ≤ m) (hb : m + 3 * l.length ≤ 9223372036854775806) : Ev (fun k => laws_markClueS.f k l m) (m + 3 * (l.length : Int), upT m l.length) := by
  unfold laws_markClueS.f
  exact Ev.scan0 (fun k i (acc : List Cl × Int) => laws_markClueS.l0 k acc.1 acc.2 i) l (fun _ _ => (m + 3 * (l.length : Int), upT m l.length)) (fun i acc => acc = (upT m i ++ l.drop i, m + 3 * (i : Int)))
    (fun acc hp => by
      refine Ev.step (fun k => by rw [laws_markClueS.l0]) ?_
      rw [hp]
      refine Ev.neg (by simp [upT_length]) (Ev.val ?_)
      simp)
    (fun i h acc hp => by
      refine .inl ⟨(upT m (i + 1) ++ l.drop (i + 1), m + 3 * ((i + 1 : Nat) : Int)), rfl, rfl, fun r hr2 => ?_⟩
      refine Ev.step (fun k => by rw [laws_markClueS.l0]) ?_
      rw [hp]
      have hll : (upT m i ++ l.drop i).length = l.length := by simp [upT_length]; omega
      refine Ev.pos (by rw [hll]; omega) (Ev.pos (by omega) ?_)
      simp only [Option.bind_some]
      have h2 : ∀ u v : Cl, (upT m i ++ u :: l.drop (i + 1)).set i v = upT m i ++ v :: l.drop (i + 1) := by
        intro u v
        have := setT_mid (upT m i) u v (l.drop (i + 1))
        rwa [upT_length] at this
      have hg : ∀ u : Cl, rd_T67 (upT m i ++ u :: l.drop (i + 1)) (i : Int) = u := by
        intro u
        have hlt : i < (upT m i ++ u :: l.drop (i + 1)).length := by simp [upT_length]
        rw [rd_cl _ i hlt, List.getElem_append_right (by rw [upT_length]; exact Nat.le_refl _)]
        simp [upT_length]
      rw [Int.toNat_natCast, List.drop_eq_getElem_cons h]
      simp only [h2, hg]
      rw [w64 (x := (i : Int) + 1) (by omega) (by omega), w64 (x := m + 3 * (i : Int) + 1) (by omega) (by omega), w64 (x := m + 3 * (i : Int) + 1 + 1) (by omega) (by omega), w64 (x := m + 3 * (i : Int) + 1 + 1 + 1) (by omega) (by omega)]
      rw [upT_succ, List.append_assoc] at hr2
      have e2 : m + 3 * ((i + 1 : Nat) : Int) = m + 3 * (i : Int) + 1 + 1 + 1 := by omega
      have e3 : m + 3 * (i : Int) + 2 = m + 3 * (i : Int) + 1 + 1 := by omega
      rw [e2, e3] at hr2
      exact hr2)
    (l, m) (by simp [upT])
theorem heldClS_ev (n : Nat) (m : Int) (hm : 0 ≤ m) (hb : m + 3 * n ≤ 9223372036854775806) : Ev (fun k => laws_heldClueS.f k (upT m n) m) (m + 3 * (n : Int)) := by
  unfold laws_heldClueS.f
  have e := Ev.scan0 (fun k i (acc : Int) => laws_heldClueS.l0 k (upT m n) acc i) (upT m n) (fun _ _ => m + 3 * (n : Int)) (fun i acc => acc = m + 3 * (i : Int))
    (fun acc hp => by
      refine Ev.step (fun k => by rw [laws_heldClueS.l0]) ?_
      refine Ev.neg (by omega) (Ev.val ?_)
      rw [hp, upT_length])
    (fun i h acc hp => by
      refine .inl ⟨m + 3 * ((i + 1 : Nat) : Int), rfl, rfl, fun r hr2 => ?_⟩
      have hn : i < n := by rw [upT_length] at h; exact h
      refine Ev.step (fun k => by rw [laws_heldClueS.l0]) ?_
      refine Ev.pos (by omega) (Ev.pos (by omega) ?_)
      rw [rd_cl _ i h, upT_get, hp]
      rw [w64 (x := (i : Int) + 1) (by omega) (by omega), w64 (x := m + 3 * (i : Int) + 1) (by omega) (by omega), w64 (x := m + 3 * (i : Int) + 1 + 1) (by omega) (by omega), w64 (x := m + 3 * (i : Int) + 1 + 1 + 1) (by omega) (by omega)]
      refine Ev.pos rfl (Ev.pos rfl (Ev.pos (by show m + 3 * (i : Int) + 2 = _; omega) ?_))
      have e2 : m + 3 * ((i + 1 : Nat) : Int) = m + 3 * (i : Int) + 1 + 1 + 1 := by omega
      rw [e2] at hr2
      exact hr2)
    m (by simp)
  exact e
theorem markP_ev (l : List Cl) (hb : l.length ≤ 1048576) : Ev (fun k => laws_markPuzzle.f k l 1) (1 + 3 * (l.length : Int), upT 1 l.length) := by
  unfold laws_markPuzzle.f
  exact Ev.bindk (markClS_ev l 1 (by omega) (by omega)) (Ev.val rfl)
theorem heldP_ev (n : Nat) (hb : n ≤ 1048576) : Ev (fun k => laws_heldPuzzle.f k (upT 1 n) 1) (1 + 3 * (n : Int)) := by
  unfold laws_heldPuzzle.f
  exact Ev.bindk (heldClS_ev n 1 (by omega) (by omega)) (Ev.neg (by omega) (Ev.val rfl))
end Go.Proofs.Ytkgaljocaapobaa.M
/- NeedlessClues: the plain law. -/
namespace Go.Proofs.Ytkgaljocaapobaa.Pure
open Go.RowKit Go.Proofs.Ytkgaljocaapobaa.Pr Go.Proofs.YtkgaljocaapobaaW.PrintWords Go.Proofs.YtkgaljocaapobaaW.PrintLast Go.Proofs.Ytkgaljocaapobaa.M
def needR (l : List Cl) : List Int × Bool := if puzB l = true then (numsP (needB l ((sols l).length : Int)) 0 l.length, true) else ([], false)
theorem need_small (l : List Cl) : (needR l).1.length ≤ 6 := by
  unfold needR
  split
  · rename_i h
    have := puz_six h
    have := numsP_length (needB l ((sols l).length : Int)) l.length 0
    dsimp only
    omega
  · simp
theorem need_impl (l : List Cl) : impl_NeedlessClues.f l = some (needR l) := by
  unfold impl_NeedlessClues.f impl_CountSolutions.f needR
  rw [solutions_eq, Option.bind_some, Option.bind_some]
  unfold solR
  by_cases h : puzB l = true
  · have h6 := puz_six h
    rw [if_pos h]
    dsimp only
    rw [if_pos rfl, if_pos h, if_pos ⟨by omega, List.all_eq_true.2 fun i hi => by rw [lessOne_eq l i (List.mem_range.1 hi) h6]; rfl⟩]
  · rw [if_neg h]
    dsimp only
    rw [if_neg (by decide), if_neg h]
theorem need_l0 (l : List Cl) (h6 : l.length ≤ 6) (c : Int) : ∀ (d i : Nat) (acc : List Int), i + d = l.length → acc.length ≤ i → Ev (fun k => spec_NeedlessClues.l0 k acc c (l.length : Int) (i : Int) l) (acc ++ numsP (needB l c) (i : Int) d, true)
  | 0, i, acc, h, ha => by
    refine Ev.step (fun k => by rw [spec_NeedlessClues.l0]) ?_
    refine Ev.neg (by omega) (Ev.val ?_)
    simp [numsP]
  | d + 1, i, acc, h, ha => by
    have hln := less_len l i (by omega)
    refine Ev.step (fun k => by rw [spec_NeedlessClues.l0]) ?_
    refine Ev.pos (by omega) (Ev.bindc (without_eq l i (by omega) h6) (Ev.bindk (pzAll_ev _ (by omega)) ?_))
    rw [w64 (x := (i : Int) + 1) (by omega) (by omega), numsP]
    have ih := need_l0 l h6 c d (i + 1)
    rw [show (((i + 1 : Nat)) : Int) = (i : Int) + 1 by omega] at ih
    have hN : needB l c (i : Int) = (((sols (lessL l i)).length : Int) == c) := by
      unfold needB
      rw [lessOne_eq l i (by omega) h6]
      rfl
    rw [hN]
    by_cases e : ((sols (lessL l i)).length : Int) = c
    · rw [if_pos (beq_iff_eq.2 e)]
      refine Ev.pos e (Ev.pos (by omega) ?_)
      have := ih (acc ++ [(i : Int)]) (by omega) (by simp; omega)
      simpa [List.append_assoc] using this
    · rw [if_neg (fun h => e (beq_iff_eq.1 h))]
      exact Ev.neg e (ih acc (by omega) (by omega))
theorem need_spec (l : List Cl) (hl : l.length ≤ 1048576) : Ev (fun k => spec_NeedlessClues.f k l) (needR l) := by
  unfold spec_NeedlessClues.f needR
  refine Ev.bindk (pzGood_ev l) ?_
  by_cases h : puzB l = true
  · refine Ev.pos h (Ev.bindk (pzAll_ev l hl) ?_)
    rw [if_pos h]
    exact need_l0 l (puz_six h) _ l.length 0 [] (by omega) (by simp)
  · refine Ev.neg h ?_
    rw [if_neg h]
    exact Ev.val rfl
theorem FnExactNeedlessClues : ∀ (l0_0 : List S72), l0_0.length ≤ maxLen → (∀ x ∈ l0_0, (Lit.int .i64 x.f0).wf = true ∧ (Lit.int .i64 x.f1).wf = true ∧ (Lit.int .i64 x.f2).wf = true) → ∃ k, laws_FnExactNeedlessClues.f k l0_0 = some true := by
  intro l hm _
  refine Ev.rounds ?_
  unfold laws_FnExactNeedlessClues.f
  by_cases hb : l.length ≤ 1048576
  · have hml : (l.map toCl).length ≤ 1048576 := by simpa using hb
    have hs := need_small (l.map toCl)
    have hi := need_impl (l.map toCl)
    refine Ev.bindc (szP_small l hb) (Ev.neg (by omega) (Ev.bindk (toP_ev l hb) (Ev.bindk (need_spec _ hml) (Ev.bindk (toP_ev l hb) (Ev.bindc hi ?_)))))
    generalize needR (l.map toCl) = y at hs hi
    refine Ev.bindk (eqI_ev y.1 (by omega)) (Ev.pos rfl (Ev.step (fun k => by rw [laws_FnExactNeedlessClues.j0]) ?_))
    refine Ev.neg (by simp) (Ev.bindk (toP_ev l hb) (Ev.bindk (eqP_ev _ (by omega)) (Ev.pos rfl ?_)))
    refine Ev.bindk (markP_ev _ hml) (Ev.neg (by omega) (Ev.bindk (eqI_ev y.1 (by omega)) (Ev.pos rfl (Ev.step (fun k => by rw [laws_FnExactNeedlessClues.j1]) ?_))))
    refine Ev.neg (by simp) (Ev.bindk (markI_ev y.1 1 (by omega) (by omega)) (Ev.bindk (heldI_ev _ 1 (by omega) (by omega)) (Ev.neg (by omega) (Ev.pos rfl ?_))))
    refine Ev.bindk (toP_ev l hb) (Ev.bindc hi (Ev.bindk (eqI_ev y.1 (by omega)) (Ev.pos rfl (Ev.step (fun k => by rw [laws_FnExactNeedlessClues.j2]) ?_))))
    exact Ev.neg (by simp) (Ev.bindk (heldI_ev _ 1 (by omega) (by omega)) (Ev.neg (by omega) (Ev.pos rfl (Ev.val rfl))))
  · exact Ev.bindc (szP_big l (by omega) hm) (Ev.pos (by omega) (Ev.val rfl))
end Go.Proofs.Ytkgaljocaapobaa.Pure
/- Shared steps of the rows: an argument that is a slice of structs of whole numbers, read as a list of lists of numbers. -/
namespace Go.Proofs.Ytkgaljocaapobaa.RowA
open Go.ChangeShapes Go.WideShapes Go.Deep Go.RowKit Go.Proofs.YtkgaljocaapobaaW.PrintWords
section
variable {H : Type} {enc : TypeId × Value → H} {P : Program} {w : World} {base : Nat} {spare : Nat → Bool} {held : Bool}
/-- A slice of structs whose fields are one cell each: nil, or an address with, for each element and each field, the cell and the field's own reading. -/
theorem open_cells {t e : TypeId} {fs : Array Field} {fuel : Nat} {cs : List Value} {x : DataW H × List MemPlace} (ht : P.underlying t = some (.slice e)) (he : P.underlying e = some (.struct fs))
    (hone : oneCellFields P fs = true) (hC : P.cellsOf e = fs.size) (h : DataW.trod enc P w base spare held fuel t cs = some x) :
    cs = [.slice none 0 0] ∨
    ∃ (a : Addr) (len cap : Nat), cs = [.slice (some a) len cap] ∧ len ≤ cap ∧ cap ≤ maxLen ∧
      ∀ i, i < len → ∃ n, ∀ (j : Nat) (f : Field), fs[j]? = some f → ∃ (v : Value) (y : DataW H × List MemPlace), w.cell? (a.add (i * fs.size + j)) = some v ∧ DataW.trod enc P w base spare held n f.type [v] = some y := by
  rcases open_slice ht h with h0 | ⟨a, len, cap, m, n, D, Pl, hcs, hb, hl, hm, hmm, hx, hi⟩
  · exact .inl h0.1
  · refine .inr ⟨a, len, cap, hcs, hl, hm, fun i hil => ?_⟩
    have him : i < m := by
      rw [hmm]
      split
      · omega
      · exact hil
    obtain ⟨cs', hc, ht'⟩ := hi i him
    rw [hC] at hc
    obtain ⟨ys, n', hn', hy, hlen, hyl, hf⟩ := DataW.trod_struct he ht'
    obtain ⟨_, hcl, hat⟩ := World.cells?_some hc
    refine ⟨n', fun j f hj => ?_⟩
    obtain ⟨ho, hk⟩ := hone_of hone j f hj
    have hjl : j < fs.size := (Array.getElem?_eq_some_iff.1 hj).1
    have hcell := hat j hjl
    have hv : cs'[j]? = some (cs'[j]'(by omega)) := List.getElem?_eq_getElem (by omega)
    have h1 := hf j f hj
    rw [ho, hk] at h1
    have hone' : (cs'.drop j).take 1 = [cs'[j]'(by omega)] := by
      rw [List.drop_eq_getElem_cons (by omega)]
      rfl
    rw [hone'] at h1
    have hys : ys[j]? = some (ys[j]'(by omega)) := List.getElem?_eq_getElem (by omega)
    refine ⟨_, _, ?_, h1.trans hys⟩
    rw [← Go.Deep.add_add, hcell, hv]
/-- One whole number's reading. -/
theorem read_i64 {t : TypeId} {n : Nat} {v : Value} {y : DataW H × List MemPlace} (hu : P.underlying t = some (.int .i64)) (h : DataW.trod enc P w base spare held n t [v] = some y) :
    ∃ z : Int, v = .int .i64 z ∧ (Lit.int .i64 z).wf = true := by
  obtain ⟨z, hz, _, hw⟩ := DataW.trod_int hu h
  simp at hz
  exact ⟨z, hz, hw⟩
/-- A slice of structs of m whole numbers, as it is handed over: the numbers by element and field. -/
theorem open_nums {t e : TypeId} {fs : Array Field} {a : Option Addr} {len cap : Nat} {d : DataW H} {ps : List MemPlace} (ht : P.underlying t = some (.slice e)) (he : P.underlying e = some (.struct fs))
    (hone : oneCellFields P fs = true) (hC : P.cellsOf e = fs.size) (hi : ∀ (j : Nat) (f : Field), fs[j]? = some f → P.underlying f.type = some (.int .i64))
    (h : DataW.Trod enc P w base spare held t (.slice a len cap) d ps) :
    len ≤ cap ∧ len ≤ maxLen ∧ ∃ z : Nat → Nat → Int, (∀ i j, i < len → j < fs.size → (Lit.int .i64 (z i j)).wf = true) ∧
      (0 < len → ∃ ad, a = some ad ∧ ∀ i j, i < len → j < fs.size → w.cell? (ad.add (i * fs.size + j)) = some (.int .i64 (z i j))) := by
  obtain ⟨fuel, hf⟩ := h
  rcases open_cells ht he hone hC hf with hcs | ⟨x, l, c, hcs, hl, hm, hcell⟩
  · simp [Value.cells] at hcs
    obtain ⟨rfl, rfl, rfl⟩ := hcs
    exact ⟨Nat.le_refl _, Nat.zero_le _, fun _ _ => 0, fun i j h => absurd h (Nat.not_lt_zero _), fun h => absurd h (Nat.not_lt_zero _)⟩
  · simp [Value.cells] at hcs
    obtain ⟨rfl, rfl, rfl⟩ := hcs
    refine ⟨hl, Nat.le_trans hl hm, ?_⟩
    have hz : ∀ i j, ∃ z : Int, i < len → j < fs.size → w.cell? (x.add (i * fs.size + j)) = some (.int .i64 z) ∧ (Lit.int .i64 z).wf = true := by
      intro i j
      by_cases h1 : i < len
      · by_cases h2 : j < fs.size
        · obtain ⟨n, hn⟩ := hcell i h1
          obtain ⟨v, y, hv, hy⟩ := hn j fs[j] (Array.getElem?_eq_getElem h2)
          obtain ⟨z, rfl, hw⟩ := read_i64 (hi j fs[j] (Array.getElem?_eq_getElem h2)) hy
          exact ⟨z, fun _ _ => ⟨hv, hw⟩⟩
        · exact ⟨0, fun _ h => absurd h h2⟩
      · exact ⟨0, fun h _ => absurd h h1⟩
    exact ⟨fun i j => (hz i j).choose, fun i j h1 h2 => ((hz i j).choose_spec h1 h2).2, fun _ => ⟨x, rfl, fun i j h1 h2 => ((hz i j).choose_spec h1 h2).1⟩⟩
/-- The same, of one reading. -/
theorem open_nums_at {t e : TypeId} {fs : Array Field} {a : Option Addr} {len cap fuel : Nat} {x : DataW H × List MemPlace} (ht : P.underlying t = some (.slice e)) (he : P.underlying e = some (.struct fs))
    (hone : oneCellFields P fs = true) (hC : P.cellsOf e = fs.size) (hi : ∀ (j : Nat) (f : Field), fs[j]? = some f → P.underlying f.type = some (.int .i64))
    (hf : DataW.trod enc P w base spare held fuel t [.slice a len cap] = some x) :
    len ≤ cap ∧ len ≤ maxLen ∧ ∃ z : Nat → Nat → Int, (∀ i j, i < len → j < fs.size → (Lit.int .i64 (z i j)).wf = true) ∧
      (0 < len → ∃ ad, a = some ad ∧ ∀ i j, i < len → j < fs.size → w.cell? (ad.add (i * fs.size + j)) = some (.int .i64 (z i j))) :=
  open_nums (d := x.1) (ps := x.2) ht he hone hC hi ⟨fuel, by simpa [Value.cells] using hf⟩
/-- A struct of one slice. -/
theorem open_one {r : Reach} {b0 : Nat} {t e : TypeId} {f0 : Field} {v : Value} {d : DataW H} {p : List MemPlace} (hs : P.underlying t = some (.struct #[f0])) (hf0 : P.underlying f0.type = some (.slice e)) (hone : oneCellFields P #[f0] = true) (hC : P.cellsOf t = 1)
    (hv : Value.okWide P w r b0 t v) (h : DataW.Trod enc P w base spare held t v d p) :
    ∃ (a : Option Addr) (len cap : Nat) (y : DataW H × List MemPlace) (n : Nat), v = .agg #[.slice a len cap] ∧ DataW.trod enc P w base spare held n f0.type [.slice a len cap] = some y := by
  obtain ⟨cs, rfl, hsz⟩ := okWide_struct hs hv
  rw [hC] at hsz
  obtain ⟨c0, rfl⟩ : ∃ c, cs = #[c] := Array.size_eq_one_iff.mp hsz
  obtain ⟨fuel, hf⟩ := h
  obtain ⟨ys, n', hn', hy, hlen, hyl, hg⟩ := DataW.trod_struct hs hf
  obtain ⟨o0, k0⟩ := hone_of hone 0 f0 rfl
  have h1 := hg 0 f0 rfl
  rw [o0, k0] at h1
  have hv1 : (List.drop 0 (Value.agg #[c0]).cells.toList).take 1 = [c0] := rfl
  have h2 : DataW.trod enc P w base spare held n' f0.type [c0] = ys[0]? := h1
  have hys : ys[0]? = some (ys[0]'(by rw [hyl]; exact Nat.zero_lt_one)) := List.getElem?_eq_getElem _
  rw [hys] at h2
  rcases open_slice hf0 h2 with h0 | ⟨a, len, cap, m, n, D, Pl, hcs, _⟩
  · have := h0.1
    simp at this
    subst this
    exact ⟨none, 0, 0, _, n', rfl, h2⟩
  · simp at hcs
    subst hcs
    exact ⟨some a, len, cap, _, n', rfl, h2⟩
end
end Go.Proofs.Ytkgaljocaapobaa.RowA
/- The row of the law FnExactNeedlessClues: The program's NeedlessClues returns what the reference's returns, for all arguments. -/
namespace Go.Proofs.Ytkgaljocaapobaa.fnExactNeedlessClues
open Go.ChangeShapes Go.WideShapes Go.ChangeAt Go.RowKit Go.Proofs.Ytkgaljocaapobaa.Pr Go.Proofs.YtkgaljocaapobaaW.PrintWords
open Go.ChangeMaps (open_string shut_string)
theorem own : ownKnob Try.prog.godebug = none := by kernel_rfl
theorem laidOut : laidOutB Try.prog = true := by kernel_rfl
theorem rows72 {W : World} {a : Option Addr} {len cap : Nat} {z : Nat → Nat → Int} (hm : len ≤ maxLen) (hz : 0 < len → ∃ ad, a = some ad ∧ ∀ i j, i < len → j < 3 → W.cell? (ad.add (i * 3 + j)) = some (.int .i64 (z i j)))
    (hw : ∀ i j, i < len → j < 3 → (Lit.int .i64 (z i j)).wf = true) : ∃ l : List S72, l.length = len ∧ Kd.C k72 W a l.length l ∧ ∀ x ∈ l, (Lit.int .i64 x.f0).wf = true ∧ (Lit.int .i64 x.f1).wf = true ∧ (Lit.int .i64 x.f2).wf = true := by
  have hl : ((List.range len).map fun i => (⟨z i 0, z i 1, z i 2⟩ : S72)).length = len := by simp
  refine ⟨(List.range len).map fun i => (⟨z i 0, z i 1, z i 2⟩ : S72), hl, ⟨rfl, by rw [hl]; unfold maxLen at hm; omega, fun hn => ?_⟩, fun x hx => ?_⟩
  · obtain ⟨ad, e, hc⟩ := hz (by rw [hl] at hn; exact hn)
    refine ⟨ad, e, fun j p hj => ?_⟩
    have hjl : j < len := by have := (List.getElem?_eq_some_iff.1 hj).1; rw [hl] at this; exact this
    have hp : p = (⟨z j 0, z j 1, z j 2⟩ : S72) := by
      rw [List.getElem?_map, List.getElem?_range hjl] at hj
      exact (Option.some.inj hj).symm
    subst hp
    refine ⟨[.int .i64 (z j 0), .int .i64 (z j 1), .int .i64 (z j 2)], rfl, k72_mk W (⟨z j 0, z j 1, z j 2⟩ : S72), fun i u hi => ?_⟩
    have hi2 : i < 3 := by have := (List.getElem?_eq_some_iff.1 hi).1; exact this
    have hcell := hc j i hjl hi2
    match i, hi2, hi with
    | 0, _, hi => (obtain rfl := Option.some.inj hi; exact hcell)
    | 1, _, hi => (obtain rfl := Option.some.inj hi; exact hcell)
    | 2, _, hi => (obtain rfl := Option.some.inj hi; exact hcell)
  · obtain ⟨i, hi, rfl⟩ := List.mem_map.1 hx
    have hil := List.mem_range.1 hi
    exact ⟨hw i 0 hil (by decide), hw i 1 hil (by decide), hw i 2 hil (by decide)⟩
set_option maxRecDepth 100000 in
theorem lifted (os : Os) (started : os.Started) (H : Type) (enc : TypeId × Value → H) :
    ReturnsInHanded {} Try.checked os 11 .any (Rows.fnExactNeedlessCluesSpec.pre6 enc Try.prog Try.f11 Rows.fnExactNeedlessCluesRow.domain false) (Rows.fnExactNeedlessCluesSpec.post enc Try.prog Try.f11 false true false false) := by
  refine returnsInHanded_of_change_sized (C := Try.checked) own started (by kernel_rfl) Try.func11
    (ChangeSpec.witness6 (enc := enc) (C := Try.checked) false ⟨#[], #[.agg #[.slice none 0 0]], []⟩ 8 (by kernel_rfl) (by kernel_rfl) (by kernel_rfl) (by kernel_rfl)) ?_
  intro W base args ds gs before hval0 hW hcnd hsz0 _
  have hsz : (DataW.weightsEach Try.prog (Try.f11.params.toList ++ Rows.fnExactNeedlessCluesSpec.plain.varTypes Try.prog) (ds ++ gs)).all (· ≤ reachBytes) = true := hsz0
  have hval : ∀ (j : Nat) t v, Try.f11.params[j]? = some t → args[j]? = some v → Value.okWide Try.prog W .any base t v := hval0
  have hW' := hW
  obtain ⟨p, q, hA0, hV, rfl, hfz, hnd⟩ := hW
  have hA : DataW.TrodAll enc Try.prog W 0 (fun _ => true) true Try.f11.params.toList args.toList ds p := hA0
  rw [Try.params11] at hA hval hsz
  obtain ⟨v0, vs0, d0, ds0, p0, q0, hargs, rfl, rfl, h0, r0⟩ := trodAll_cons hA
  obtain ⟨rfl, rfl, rfl⟩ := trodAll_nil r0
  obtain rfl : args = #[v0] := by cases args; simp_all
  obtain ⟨rfl, rfl⟩ := trodVars_none hV
  have lt0 : ∀ x ∈ p0, x.block < W.heap.size := by obtain ⟨m, hm⟩ := h0; exact DataW.trod_lt m _ _ _ hm
  have hh0 := h0
  obtain ⟨b0, len0, cap0, y0, n0, rfl, g0⟩ := RowA.open_one Try.underlying24 Try.underlying22 (by kernel_rfl) (by kernel_rfl) (hval 0 24 v0 rfl rfl) h0
  obtain ⟨hl0, hm0, z0, hw0, hz0⟩ := RowA.open_nums_at Try.underlying22 Try.underlying72 (by kernel_rfl) (by kernel_rfl) (fun j f hj => by first | (match j, hj with | 0, hj => (cases hj; exact Try.underlying3) | 1, hj => (cases hj; exact Try.underlying3) | 2, hj => (cases hj; exact Try.underlying3) | j + 3, hj => simp at hj) | skip) g0
  obtain ⟨l0, hn0, hr0, hf0⟩ := rows72 (cap := cap0) hm0 hz0 hw0
  subst hn0
  clear hA0 hval0 hsz0 hsz
  obtain ⟨k, hk⟩ := Pure.FnExactNeedlessClues l0 hm0 hf0
  refine (laws_FnExactNeedlessClues.calls k _ _ l0 true W hr0 hl0 hk).mono fun e W' he => ?_
  obtain ⟨he, bel0⟩ := he
  have bel : Below W.heap.size W W' := bel0
  subst he
  exact ⟨_, rfl, _, _, _, [], _, [], hW', trodAll_mk1 (shut_bool Try.underlying4 _), (trodAll_cons_mk (Below.trod laidOut (by kernel_rfl) (of_decide_eq_true (by kernel_rfl)) hh0 bel lt0) trodAll_mk0), rfl, bel.frame _, fun h => by cases h⟩
theorem over : Rows.fnExactNeedlessCluesRow.holds Try.pinned (OpenSpec.ofChange Rows.fnExactNeedlessCluesSpec) :=
  OpenClaim.holds_of_wide 11 Try.f11 rfl rfl rfl rfl rfl rfl rfl ⟨rfl, rfl, rfl, rfl, rfl⟩ rfl rfl rfl rfl rfl (by kernel_rfl) Try.func11 (by kernel_rfl)
    (of_decide_eq_true (by kernel_rfl)) (by unfold Func.isWrapper; first | (rw [if_pos (by decide +kernel)]; kernel_rfl) | (rw [if_neg (by decide +kernel)]; exact ⟨rfl, rfl⟩))
    (fun os started H enc _ => lifted os started H enc)
theorem proved : Rows.FnExactNeedlessCluesSaid := over
end Go.Proofs.Ytkgaljocaapobaa.fnExactNeedlessClues
namespace Go.Proofs.Ytkgaljocaapobaa
/-- The row, under a short name, for the claim. -/
theorem fnExactNeedlessClues_holds : Rows.FnExactNeedlessCluesSaid := fnExactNeedlessClues.proved
#print axioms fnExactNeedlessClues_holds
end Go.Proofs.Ytkgaljocaapobaa
